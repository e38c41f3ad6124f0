import Derived.Test.YtligcbdjiolamaaGreatDoorW4
import Derived.Laws.IdiomStrings
import Derived.Laws.Cover4
set_option linter.unusedVariables false
set_option linter.unusedSimpArgs false
set_option maxRecDepth 20000
set_option maxHeartbeats 8000000
set_option synthInstance.maxSize 1000000
set_option synthInstance.maxHeartbeats 400000
section
namespace Go.Proofs.YtligcbdjiolamaaGreatDoor
open Go.RowKit
abbrev l5a:List Value:=[A.i 0,A.i 0,.slice none 0 0,A.i 0,A.i 0,.string (ByteArray.mk #[]),.string (ByteArray.mk #[]),A.i 0,A.i 0]
abbrev l5b:List Nat:=[0,1,2,3,4,171,172]
abbrev l5c:List Nat:=[0,1,2,3,4,205,369]
abbrev l5d:List Nat:=[0,1,2,3,4,46,744,745,785,867]
abbrev l5e:List Nat:=[0,1,2,3,4,171,172,213]
abbrev l5f:List Value:=[A.i 0,A.i 0,.string (ByteArray.mk #[]),A.i 0]
abbrev l5g:List Value:=[A.i 0,A.i 0,.string (ByteArray.mk #[])]
abbrev l5h:List Nat:=[1,2,3,131,132,133,173,174]
abbrev l5i:List Nat:=[0,1,2,3,4,5,6,2908,2909]
abbrev l5j:List Nat:=[1,2,3,131,132]
abbrev l5k:List Nat:=[0,1,2,3,4]
variable(A0_ A1_ A2_ A3_ A5_ A7_ A9_ A10_ A11_ A13_ A15_ A17_ A19_ A21_ A23_ A25_ A27_ A29_ A31_:Option Addr)(g0_ b1_ c1_ c2_ g2_ c3_ b4_ c4_ b5_ b6_ c6_ c8_ c10_ g10_ c11_ c12_ c14_ c16_ c18_ c20_ c22_ c24_ c26_ c28_ c30_ c32_:Nat)
def F.cC (e:D48)(h:D48):Option Bool:=some (bif decide (e.2.1=h.2.1)then decide (e.2.2.2.2.1=h.2.2.2.2.1)else false)
theorem o_aQ(h:D48)(k:D48)(p:A.h6 h.1)(s:A.h6 h.2.1)(t:A.h6 h.2.2.2.1.1)(u:A.h6 h.2.2.2.1.2.1)(x:h.2.2.2.1.2.2.size<=maxLen)(y:h.2.2.2.2.1.size<=maxLen)(z:A.h6 h.2.2.2.2.2.1)(B:A.h6 h.2.2.2.2.2.2)(E:A.h6 k.1)(I:A.h6 k.2.1)(J:A.h6 k.2.2.2.1.1)(L:A.h6 k.2.2.2.1.2.1)(N:k.2.2.2.1.2.2.size<=maxLen)(U:k.2.2.2.2.1.size<=maxLen)(W:A.h6 k.2.2.2.2.2.1)(Y:A.h6 k.2.2.2.2.2.2)(r:Bool)(o:F.cC h k=some r):
    A.Ct Tryz.prog 87 [(A.rai h A2_ c3_),.pointer (some ⟨g10_,0,none⟩)] [(0,.sh A.TI [.slice A2_ h.2.2.1.length c3_] h.2.2.1),(1,.el none g10_ 0 (A.rae k A13_ c14_)),(2,.sh A.TI [.slice A13_ k.2.2.1.length c14_] k.2.2.1)] [] (fun v H'=>v=.bool r/\H'=[]):=by
 refine Jv Tryz.func87 rfl Tryz.ntmps87 rfl fun w0 F0=>?_;rw[F.cC]at o;refine Jz 1 ?_;refine J8 3 (cs:=(A.rae h A2_ c3_)) fun g1=>?_;refine J3 1 [] 2 ?_;refine Vf [3] [1] [.n,.b 0 1,.n,.e 0 1,.n,.n,.sy .n,.sy (.b 0 6),.sy .n,.sy (.e 0 6),.sy .n,.pk,.n] [(3,.bool (bif decide (h.2.1=k.2.1)then decide (h.2.2.2.2.1=k.2.2.2.2.1)else false))] 1 ?_;exact A.ke o (Vi ⟨rfl,rfl⟩)
def F.b (h:(List D48))(k:D48):Nat->Int->Option Int
 |0,_=>none
 |f+1,e=>if e<(h.length:Int)then((A.ix h e).bind fun o=>((F.cC o k).bind fun p=>(if p=true then(some e)else(A.gd (Z.R64 (e+1)) ((F.b h k f) (e+1))))))else(some (-1))
def F.l (e:(List D48))(h:D48):Option Int:=F.b e h A.FU 0
theorem o_f(t:(List D48))(k:D48)(E:A.h6 k.1)(I:A.h6 k.2.1)(J:A.h6 k.2.2.2.1.1)(L:A.h6 k.2.2.2.1.2.1)(N:k.2.2.2.1.2.2.size<=maxLen)(U:k.2.2.2.2.1.size<=maxLen)(W:A.h6 k.2.2.2.2.2.1)(Y:A.h6 k.2.2.2.2.2.2)(r:Int)(h:F.l t k=some r):
    A.Ct Tryz.prog 51 [.slice A0_ t.length c1_,.func (.func 87) #[] #[.pointer (some ⟨g2_,0,none⟩)]] [(0,.ln T48 A0_ c1_ t),(1,.el none g2_ 0 (A.rae k A5_ c6_)),(2,.sh A.TI [.slice A5_ k.2.2.1.length c6_] k.2.2.1)] [] (fun v H'=>v=A.i r/\H'=[]/\A.h6 r):=by
 refine Jv Tryz.func51 rfl Tryz.ntmps51 rfl fun w0 F0=>?_;rw[F.l]at h;refine Jz 1 ?_;refine J3 1 [] 3 ?_;refine Ve 3 [(7,A.i (t.length:Int)),(8,A.i 0)] 2 ?_;refine V5 [0,1,7] [0,1,2] (fun f nl nh=>∃(o:Int),nl=[(8,A.i o)]/\nh=[]/\A.h6 o/\F.b t k f o=some r) ⟨0,rfl,rfl,Vb,h⟩ ?_;rintro u _ _ ⟨o,rfl,rfl,a1,h⟩;rcases u with _|u
 ·exact V0 h
 rw[F.b]at h;refine V1 1 1 [(9,.bool (decide (o<(t.length:Int))))] 2 h ?_ ?_<;>intro hb h
 ·refine Jz 5 ?_;refine J3 2 [(5,A.i o)] 2 ?_;refine V6 3 [(11,.func (.func 87) #[] #[.pointer (some ⟨g2_,0,none⟩)]),(12,.slice A0_ t.length c1_),(13,A.i o)] ?_;have⟨x,a2,h⟩:=Us h;refine A.AL.ixl 0 87 a2 fun p=>?_;intro y z b9 a5;refine J9 [] [87] [.e 0 0] [(15,(A.rai x y z))] ?_;have⟨a3,a4,h⟩:=Us h;refine A.AL.call 89 [] (first:=[]) (cap:=[.pointer (some ⟨g2_,0,none⟩)]) cf87 (o_aQ y A5_ z g2_ c6_ x k p.1 p.2.1 p.2.2.2.1.1 p.2.2.2.1.2.1 p.2.2.2.1.2.2 p.2.2.2.2.1 p.2.2.2.2.2.1 p.2.2.2.2.2.2 E I J L N U W Y a3 a4) (.s 88 (.s 1 (.s 2 .nil))) ?_;rintro _ _ ⟨rfl,rfl⟩;refine J5 (Uj 1 ?_);refine Up h ?_ ?_<;>intro hb h
  ·refine J4 1 2 [(4,A.i o)] 1 ?_;exact A.ke h (Vi ⟨rfl,rfl,a1⟩)
  refine Jz 3 ?_;have⟨B,h⟩:=V3 h;refine Uf 2 [Z.R64 (o+1)] [(8,A.i (o+1))] B (Ju ?_);exact Vz ⟨_,Qy _,⟨(o+1),rfl,rfl,(J0 B),h⟩⟩
 refine J4 3 1 [(4,A.i (-1))] 1 ?_;exact A.ke h (Vi ⟨rfl,rfl,(Vg (-1))⟩)
def F.e (h:(List D48))(k:D48):Option Bool:=(F.l h k).bind fun o=>(some (decide ((0:Int)<=o)))
theorem o_e(k:(List D48))(h:D48)(p:A.h6 h.1)(t:A.h6 h.2.1)(u:A.h6 h.2.2.2.1.1)(x:A.h6 h.2.2.2.1.2.1)(y:h.2.2.2.1.2.2.size<=maxLen)(z:h.2.2.2.2.1.size<=maxLen)(B:A.h6 h.2.2.2.2.2.1)(E:A.h6 h.2.2.2.2.2.2)(r:Bool)(o:F.e k h=some r):
    A.Ct Tryz.prog 86 [.slice A0_ k.length c1_,.func (.func 87) #[] #[.pointer (some ⟨g2_,0,none⟩)]] [(0,.ln T48 A0_ c1_ k),(1,.el none g2_ 0 (A.rae h A5_ c6_)),(2,.sh A.TI [.slice A5_ h.2.2.1.length c6_] h.2.2.1)] [] (fun v H'=>v=.bool r/\H'=[]):=by
 refine Jv Tryz.func86 rfl Tryz.ntmps86 rfl fun J L=>?_;rw[F.e]at o;refine Jz 1 ?_;refine J3 1 [] 2 ?_;refine V6 2 [(5,.slice A0_ k.length c1_),(6,.func (.func 87) #[] #[.pointer (some ⟨g2_,0,none⟩)])] (Vx 3 [] o (o_f A0_ A5_ c1_ g2_ c6_ k h p t u x y z B E) (.s 0 (.s 1 (.s 2 .nil))) ?_);rintro I - o _ _ ⟨rfl,rfl,hr3⟩;refine J5 (Ve 2 [(4,.bool (decide ((0:Int)<=I)))] 1 ?_);exact A.ke o (Vi ⟨rfl,rfl⟩)
def F.bT (k:(List (Int×D48))->Int->Int->Option ((Option ((List (Int×D48))×(List Int)×(List (Int×Int))))×Int))(o:List (Int×D48))(h:Int)(e:D48)(p:Bool):Option ((Option ((List (Int×D48))×(List Int)×(List (Int×Int))))×Int):=if p=true then(some (none,80))else(A.gd (Z.R64 (h+1)) (k (Z.mins o e.1 e) e.1 (h+1)))
def F.bw (h:(List (Int×D48))->Int->Int->Option ((Option ((List (Int×D48))×(List Int)×(List (Int×Int))))×Int))(k:List (Int×D48))(p:Int)(o:Int)(e:D48)(s:Bool):Option ((Option ((List (Int×D48))×(List Int)×(List (Int×Int))))×Int):=if e.1<=p then(F.bT h k o e true)else((F.cG e).bind fun t=>(F.bT h k o e (bif !t then true else s)))
def F.a5 (p:Int->Option ((Option ((List (Int×D48))×(List Int)×(List (Int×Int))))×Int))(h:List (Int×D48))(k:Int)(o:D48):Nat->Int->Option ((Option ((List (Int×D48))×(List Int)×(List (Int×Int))))×Int)
 |0,_=>none
 |f+1,e=>if e<(o.2.2.1.length:Int)then((A.ix o.2.2.1 e).bind fun s=>(A.lt (Z.mget ((0,0,[],(0,0,(ByteArray.mk #[])),(ByteArray.mk #[]),0,0):D48) h s) fun t=>(if(bif !(Z.mhas h s)then true else decide (t.2.1=15))=true then(some (none,80))else(A.gd (Z.R64 (e+1)) ((F.a5 p h k o f) (e+1))))))else(A.gd (Z.R64 (k+1)) (p (k+1)))
def F.t (e:D23)(h:List (Int×D48)):Nat->Int->Option ((Option ((List (Int×D48))×(List Int)×(List (Int×Int))))×Int)
 |0,_=>none
 |f+1,k=>if k<(e.length:Int)then((A.ix e k).bind fun s=>(F.a5 (F.t e h f) h k s A.FU 0))else((F.ay (h,[],[]) e).bind fun p=>(if(!p.1)=true then(some (none,81))else((F.ax p.2).bind fun o=>(if(!o.1)=true then(some (none,80))else((F.a4 o.2 e).bind fun u=>(if u=true then(some (none,81))else(some (some o.2,0))))))))
def F.ad (e:D23)(k:List (Int×D48)):Nat->Int->Option ((Option ((List (Int×D48))×(List Int)×(List (Int×Int))))×Int)
 |0,_=>none
 |f+1,h=>if h<(e.length:Int)then((A.ix e h).bind fun o=>((F.cY o.2.1 o.2.2.2.1).bind fun p=>(if p≠0 then(some (none,p))else(A.gd (Z.R64 (h+1)) ((F.ad e k f) (h+1))))))else(F.t e k A.FU 0)
def F.q (h:D23):Nat->(List (Int×D48))->Int->Int->Option ((Option ((List (Int×D48))×(List Int)×(List (Int×Int))))×Int)
 |0,_,_,_=>none
 |f+1,p,s,k=>if k<(h.length:Int)then((A.ix h k).bind fun o=>((F.aD o.2.1).bind fun t=>(if t=true then(A.gd (0<=k/\k.toNat<=h.length) ((F.e (List.take k.toNat h) o).bind fun u=>(F.bw (F.q h f) p s k o u)))else(F.bw (F.q h f) p s k o false))))else(F.ad h p A.FU 0)
def F.bK (e:D23):Option ((Option ((List (Int×D48))×(List Int)×(List (Int×Int))))×Int):=if(32:Int)<(e.length:Int)then(some (none,80))else(F.q e A.FU [] 0 0)
theorem o_bc(k:D23)(r:(Option ((List (Int×D48))×(List Int)×(List (Int×Int))))×Int)(h:F.bK k=some r):
    A.Ct Tryz.prog 50 [.agg #[.slice A0_ k.length c1_]] [(0,.sh (.slice T48) [.slice A0_ k.length c1_] k),(1,.el none 0 0 A.tabF),(2,.el none 1 0 A.tabA)] [] (fun v H'=>(r.1=none/\v=.tuple #[.pointer none,A.i r.2]/\H'=[]/\A.h6 r.2)\/(∃(p0:((List (Int×D48))×(List Int)×(List (Int×Int)))),r.1=some p0/\∃(g0':Nat) (b1':Nat) (A2':Option Addr) (c3':Nat) (b4':Nat),v=.tuple #[.pointer (some ⟨g0',0,none⟩),A.i r.2]/\H'=[(0,.blk g0' 159 [.map (some b1'),.slice A2' p0.2.1.length c3',.map (some b4')]),(1,.mp Int (fun i:Int=>A.i i) T48 true b1' p0.1),(2,.own A.ti 3 A2' c3' p0.2.1),(3,.mp Int (fun i:Int=>A.i i) A.ti false b4' p0.2.2)]/\A.h6 r.2)):=by
 refine Jv Tryz.func50 rfl Tryz.ntmps50 rfl fun w0 F0=>?_;rw[F.bK]at h;refine Jz 1 ?_;refine J8 3 (cs:=[.slice A0_ k.length c1_]) fun g1=>?_;refine J3 2 [] 3 ?_;refine Vf [3] [] [.n,.b 0 0,.n,.n] [(21,.bool (decide ((32:Int)<(k.length:Int))))] 1 ?_;refine A.c h ?_ ?_<;>intro B h
 ·refine J4 1 2 [(2,.pointer none),(3,A.i 80)] 1 ?_;obtain rfl:=Vo h;exact Ul [] (.inl ⟨rfl,⟨rfl,rfl,(Vg 80)⟩⟩)
 refine Jz 3 ?_;refine A.AL.mkm 4 Int (fun i:Int=>A.i i) T48 true fun b2=>?_;refine A.AL.mkm 5 Int (fun i:Int=>A.i i) A.ti false fun b3=>?_;refine V6 1 [(24,.agg #[.map (some b2),.slice none 0 0,.map (some b3)])] (J8 6 (cs:=[.map (some b2),.slice none 0 0,.map (some b3)]) fun J=>?_);refine J3 1 [(4,.pointer (some ⟨J,0,none⟩))] 2 ?_;refine J3 1 [(5,A.i 0)] 3 ?_;refine Vf [3] [] [.n,.b 0 0,.n,.n] [(27,.slice A0_ k.length c1_),(28,A.i (k.length:Int)),(29,A.i 0)] 2 ?_;refine V5 [1,4,27,28] [0,1,2,3,5,6] (fun f E I=>∃(y:List (Int×D48))(y6:Int)(x:Int),E=[(5,A.i y6),(29,A.i x)]/\I=[(4,.mp Int (fun i:Int=>A.i i) T48 true b2 y)]/\A.h6 y6/\A.h6 x/\F.q k f y y6 x=some r) ⟨[],0,0,rfl,rfl,Vb,Vb,h⟩ ?_;rintro a6 _ _ ⟨y,y6,x,rfl,rfl,bk,bm,h⟩;rcases a6 with _|a6
 ·exact V0 h
 rw[F.q]at h;refine V1 1 1 [(30,.bool (decide (x<(k.length:Int))))] 2 h ?_ ?_<;>intro B h
 ·refine Ub 5 1 [(31,A.i x)] ?_;have⟨p,b5,h⟩:=Us h;refine Vy 0 2907 b5 fun o=>?_;intro W Y bp bq;refine J9 [] [2907] [.e 0 0] [(33,(A.rai p W Y))] (Jw 2909 (cs:=l5a) Tryz.zeroValue49 fun ah=>?_);refine V6 1 [(6,A.i x)] (Vw 2909 [] (A.rae p W Y) ?_);refine Uj 1 ?_;refine J7 [1,4,5,7,27,28,29] l5i (fun E I=>∃(a4:Bool),E=[(8,.bool a4)]/\I=[]/\F.bw (F.q k a6) y y6 x p a4=some r) ?_ ?_
  ·refine Ud 0 [2909] [] [.n,.b 0 1] [(35,A.i p.2.1)] ?_;refine Vx 2910 [] h (o_j p.2.1 o.2.1) .nil ?_;rintro b6 - h _ _ ⟨rfl,rfl⟩;refine J5 (V6 1 [(37,.bool b6)] (Ue (j:=37) rfl h (fun h=>?_) (fun h=>?_)))
   ·refine J9 [3] [] [.on .n,.on (.b 0 0),.on .n] [(39,.slice A0_ k.length c1_),(40,A.i x)] (J2 (dj:=37) rfl rfl ?_);have⟨aj,h⟩:=V3 h;refine A.AL.cuth 0 2950 (v:=x.toNat) (Xs aj.1).symm aj.2 fun b7=>?_;refine J9 [] [] [.on .n] [(42,.func (.func 87) #[] #[.pointer (some ⟨ah,0,none⟩)])] (J2 (dj:=37) rfl rfl ?_);refine Vx 2951 [] h (o_e A0_ W b7 ah Y (List.take x.toNat k) p o.1 o.2.1 o.2.2.2.1.1 o.2.2.2.1.2.1 o.2.2.2.1.2.2 o.2.2.2.2.1 o.2.2.2.2.2.1 o.2.2.2.2.2.2) (.l 2950 (.b 2909 (.s 2908 .nil))) ?_;rintro ak - h _ _ ⟨rfl,rfl⟩;refine J5 (V6 2 [(8,.bool ak)] (Ju ?_));exact Vz ⟨ak,rfl,rfl,h⟩
   refine J9 [] [] [.off,.off,.off,.off,.off,.off,.n,.n] [(8,.bool false)] (Ju ?_);exact Vz ⟨false,rfl,rfl,h⟩
  rintro _ _ ⟨a4,rfl,rfl,h⟩;rw[F.bw]at h;refine Uc 1 ?_;refine J7 [1,4,7,27,28,29] l5i (fun E I=>∃(a8:Bool),E=[(56,.bool a8)]/\I=[]/\F.bT (F.q k a6) y x p a8=some r) ?_ ?_
  ·refine Ud 0 [2909] [] [.n,.b 0 0,.n,.n,.n] [(49,.bool (decide (p.1<=y6)))] ?_;refine Vn (j:=49) rfl h ?_ ?_<;>intro B h
   ·refine J9 [] [] [.off,.off,.off,.n,.n,.off,.n] [(56,.bool true)] (Ju ?_);exact Vz ⟨true,rfl,rfl,h⟩
   refine J9 [2909] [] [.on (.b 0 0)] [(50,(A.rai p W Y))] (J2 (dj:=49) rfl rfl ?_);refine Vx 2991 [] h (o_bG W Y p o.1 o.2.1 o.2.2.2.1.1 o.2.2.2.1.2.1 o.2.2.2.1.2.2 o.2.2.2.2.1 o.2.2.2.2.2.1 o.2.2.2.2.2.2) (.s 2908 .nil) ?_;rintro al - h _ _ ⟨rfl,rfl⟩;refine J5 (J9 [] [] [.on .n,.n,.n,.sy .n,.pk] [(56,.bool (bif !al then true else a4))] (Ju ?_));exact Vz ⟨(bif !al then true else a4),rfl,rfl,h⟩
  rintro _ _ ⟨a8,rfl,rfl,h⟩;rw[F.bT]at h;refine Up h ?_ ?_<;>intro B h
  ·refine J4 1 2 [(2,.pointer none),(3,A.i 80)] 1 ?_;obtain rfl:=Vo h;exact Ul [] (.inl ⟨rfl,⟨rfl,rfl,(Vg 80)⟩⟩)
  refine Ug 3 [2909] [] [.n,.b 0 0,.n] [(5,A.i p.1)] 1 ?_;refine V4 mixed 7 8 (A.mb 8 0) ?_;refine Vs Vj [] l5i [2909,6] [] (A.mb 8 127) 1 [(0,.n),(4,.n),(6,.b 0 0),(1,.n),(5,.b 0 0),(2,.n),(3,.b 1 0)] [(65,(A.rai p W Y)),(64,A.i p.1),(62,.map (some b2))] (J6 7 ?_);refine A.AL.mup (t:=T48) 4 [] (cs:=(A.rae p W Y)) (u:=p) ky3 p.1 ⟨⟨rfl,o.1⟩,⟨rfl,o.2.1⟩,.inl ⟨2908,rfl⟩,⟨⟨rfl,o.2.2.2.1.1⟩,⟨rfl,o.2.2.2.1.2.1⟩,⟨rfl,o.2.2.2.1.2.2⟩⟩,⟨rfl,o.2.2.2.2.1⟩,⟨rfl,o.2.2.2.2.2.1⟩,⟨rfl,o.2.2.2.2.2.2⟩⟩ ?_;refine A.AH.nm (A.mb 8 255) ?_;refine Va ?_;refine A.el 2 ?_;have⟨am,h⟩:=V3 h;refine Uf 2 [Z.R64 (x+1)] [(29,A.i (x+1))] am (Ju ?_);exact Vz ⟨_,Qy _,⟨(Z.mins y p.1 p),p.1,(x+1),rfl,rfl,o.1,(J0 am),h⟩⟩
 refine Ug 4 [3] [] [.n,.b 0 0,.n,.n] [(68,.slice A0_ k.length c1_),(69,A.i (k.length:Int)),(70,A.i 0)] 2 ?_;refine V5 [1,4,68,69] [0,1,2,3,4,5,6] (fun f E I=>∃(N:Int),E=[(70,A.i N)]/\I=[]/\A.h6 N/\F.ad k y f N=some r) ⟨0,rfl,rfl,Vb,h⟩ ?_;rintro an _ _ ⟨N,rfl,rfl,br,h⟩;rcases an with _|an
 ·exact V0 h
 rw[F.ad]at h;refine V1 1 1 [(71,.bool (decide (N<(k.length:Int))))] 2 h ?_ ?_<;>intro B h
 ·refine Jz 5 ?_;have⟨a1,b9,h⟩:=Us h;refine Vy 0 3915 b9 fun a7=>?_;intro ao ap bt bu;refine J9 [] [3915] [.e 0 0] [(73,(A.rai a1 ao ap))] (Jw 3917 (cs:=l5a) Tryz.zeroValue49 fun bx=>?_);refine Vw 3917 [] (A.rae a1 ao ap) ?_;refine Vr 2 ?_;refine J9 [3917] [] [.n,.b 0 1,.n,.b 0 3] [(75,A.i a1.2.1),(77,(A.raj a1.2.2.2.1))] (Vx 3918 [] h (o_bM a1.2.1 a1.2.2.2.1 a7.2.1 a7.2.2.2.1.1 a7.2.2.2.1.2.1 a7.2.2.2.1.2.2) (.s 1 (.s 2 .nil)) ?_);rintro a9 - h _ _ ⟨rfl,rfl,hr44⟩;refine J5 (J3 1 [(11,A.i a9)] 2 ?_);refine Ve 2 [(80,.bool (decide (a9≠0)))] 1 ?_;refine A.c h ?_ ?_<;>intro B h
  ·refine J4 1 3 [(2,.pointer none),(3,A.i a9)] 1 ?_;obtain rfl:=Vo h;exact Ul [] (.inl ⟨rfl,⟨rfl,rfl,hr44⟩⟩)
  refine Jz 3 ?_;have⟨aq,h⟩:=V3 h;refine Uf 2 [Z.R64 (N+1)] [(70,A.i (N+1))] aq (Ju ?_);exact Vz ⟨_,Qy _,⟨(N+1),rfl,rfl,(J0 aq),h⟩⟩
 refine Ug 4 [3] [] [.n,.b 0 0,.n,.n] [(84,.slice A0_ k.length c1_),(85,A.i (k.length:Int)),(86,A.i 0)] 2 ?_;refine V5 [1,4,84,85] [0,1,2,3,4,5,6] (fun f E I=>∃(L:Int),E=[(86,A.i L)]/\I=[]/\A.h6 L/\F.t k y f L=some r) ⟨0,rfl,rfl,Vb,h⟩ ?_;rintro aa _ _ ⟨L,rfl,rfl,bz,h⟩;rcases aa with _|aa
 ·exact V0 h
 rw[F.t]at h;refine V1 1 1 [(87,.bool (decide (L<(k.length:Int))))] 2 h ?_ ?_<;>intro B h
 ·refine Jz 5 ?_;have⟨a2,bb,h⟩:=Us h;refine Vy 0 4224 bb fun c0=>?_;intro ab ac c1 c2;refine J9 [] [4224] [.e 0 0] [(89,(A.rai a2 ab ac))] (Jw 4226 (cs:=l5a) Tryz.zeroValue49 fun c3=>?_);refine Vw 4226 [] (A.rae a2 ab ac) ?_;refine Vr 2 ?_;refine Vf [4226] [] [.n,.b 0 2,.n,.n] [(91,.slice ab a2.2.2.1.length ac),(92,A.i (a2.2.2.1.length:Int)),(93,A.i 0)] 2 ?_;refine V5 [1,4,84,85,86,91,92] [0,1,2,3,4,5,6,4225] (fun f E I=>∃(U:Int),E=[(93,A.i U)]/\I=[]/\A.h6 U/\F.a5 (F.t k y aa) y L a2 f U=some r) ⟨0,rfl,rfl,Vb,h⟩ ?_;rintro ar _ _ ⟨U,rfl,rfl,c4,h⟩;rcases ar with _|ar
  ·exact V0 h
  rw[F.a5]at h;refine V1 1 1 [(94,.bool (decide (U<(a2.2.2.1.length:Int))))] 2 h ?_ ?_<;>intro B h
  ·refine Jz 5 ?_;have⟨a3,bc,h⟩:=Us h;refine Vy 4225 4233 bc fun c5=>?_;intro c6 c7;refine J9 [] [4233] [.e 0 0,.n] [(15,A.i a3)] (Vr 2 ?_);refine J9 [6] [] [.n,.n,.n,.b 0 0,.n] [(101,.map (some b2)),(102,A.i a3)] ?_;obtain⟨ae,be,h⟩:=Vu h;refine A.AL.lk2 (t:=T48) 4 4234 (z:=((0,0,[],(0,0,(ByteArray.mk #[])),(ByteArray.mk #[]),0,0):D48)) (zs:=l5a) ky3 a3 Tryz.zeroValue49 ⟨⟨rfl,by decide⟩,⟨rfl,by decide⟩,(.inr ⟨rfl,rfl⟩),⟨⟨rfl,by decide⟩,⟨rfl,by decide⟩,⟨rfl,by decide⟩⟩,⟨rfl,by decide⟩,⟨rfl,by decide⟩,⟨rfl,by decide⟩⟩ be fun c8=>?_;intro au av;refine V6 3 [(104,(A.rai ae au av)),(105,.bool (Z.mhas y a3))] (Jw 4235 (cs:=l5a) Tryz.zeroValue49 fun c9=>?_);refine Vw 4235 [] (A.rae ae au av) ?_;refine J3 1 [(17,.bool (Z.mhas y a3))] 2 ?_;refine Vf [4235] [] [.n,.n,.n,.sy .n,.sy (.b 0 1),.sy .n,.pk] [(112,.bool (bif !(Z.mhas y a3)then true else decide (ae.2.1=15)))] 1 ?_;refine Up h ?_ ?_<;>intro B h
   ·refine J4 1 2 [(2,.pointer none),(3,A.i 80)] 1 ?_;obtain rfl:=Vo h;exact Ul [] (.inl ⟨rfl,⟨rfl,rfl,(Vg 80)⟩⟩)
   refine Jz 3 ?_;have⟨aw,h⟩:=V3 h;refine Uf 2 [Z.R64 (U+1)] [(93,A.i (U+1))] aw (Ju ?_);exact Vz ⟨_,Qy _,⟨(U+1),rfl,rfl,(J0 aw),h⟩⟩
  refine Jz 3 ?_;have⟨ax,h⟩:=V3 h;refine Uf 2 [Z.R64 (L+1)] [(86,A.i (L+1))] ax (Ju ?_);exact Vz ⟨_,Qy _,⟨(L+1),rfl,rfl,(J0 ax),h⟩⟩
 refine Ud 5 [3] [] [.n,.b 0 0] [(116,.pointer (some ⟨J,0,none⟩)),(117,.agg #[.slice A0_ k.length c1_])] ?_;refine Uy 4236 A.ti 3 ?_;refine Vx 4237 [] h (o_aE none A0_ J b2 0 b3 c1_ (y,[],[]) k) (.m 6 (.m 4 (.m 4236 (.m 5 (.s 0 .nil))))) ?_;rintro ay - h _ _ ⟨bf,bg,bh,bi,rfl,rfl⟩;refine J5 (V8 4237 6 [] ?_);refine V8 4238 4 [] ?_;refine V8 4239 4236 [] ?_;refine V8 4240 5 [] ?_;refine Ve 2 [(115,.bool (!ay.1))] 1 ?_;refine Up h ?_ ?_<;>intro B h
 ·refine J4 1 2 [(2,.pointer none),(3,A.i 81)] 1 ?_;obtain rfl:=Vo h;exact Ul [] (.inl ⟨rfl,⟨rfl,rfl,(Vg 81)⟩⟩)
 refine Ub 1 1 [(121,.pointer (some ⟨J,0,none⟩))] ?_;refine Vx 4277 [] h (o_aq bg J bf bh bi ay.2) (.m 6 (.m 4 (.m 4236 (.m 5 .nil)))) ?_;rintro ag - h _ _ ⟨az,b0,b1,b4,rfl,rfl⟩;refine J5 (V8 4277 6 [] ?_);refine V8 4278 4 [] ?_;refine V8 4279 4236 [] ?_;refine V8 4280 5 [] ?_;refine Ve 2 [(120,.bool (!ag.1))] 1 ?_;refine Up h ?_ ?_<;>intro B h
 ·refine J4 1 2 [(2,.pointer none),(3,A.i 80)] 1 ?_;obtain rfl:=Vo h;exact Ul [] (.inl ⟨rfl,⟨rfl,rfl,(Vg 80)⟩⟩)
 refine Ud 1 [3] [] [.n,.b 0 0] [(125,.pointer (some ⟨J,0,none⟩)),(126,.agg #[.slice A0_ k.length c1_])] ?_;refine Vx 4317 [] h (o_ax b0 A0_ J az b1 b4 c1_ ag.2 k) (.m 6 (.m 4 (.m 4236 (.m 5 (.s 0 .nil))))) ?_;rintro bj - h _ _ ⟨rfl,rfl⟩;refine J5 (V8 4317 6 [] ?_);refine V8 4318 4 [] ?_;refine V8 4319 4236 [] ?_;refine V8 4320 5 [] ?_;refine Ve 1 [(124,.bool bj)] 1 ?_;refine Up h ?_ ?_<;>intro B h
 ·refine J4 1 2 [(2,.pointer none),(3,A.i 81)] 1 ?_;obtain rfl:=Vo h;exact Ul [] (.inl ⟨rfl,⟨rfl,rfl,(Vg 81)⟩⟩)
 refine J4 4 3 [(2,.pointer (some ⟨J,0,none⟩)),(3,A.i 0)] 1 ?_;obtain rfl:=Vo h;exact Ul [(0,6),(1,4),(2,4236),(3,5)] (.inr ⟨ag.2,rfl,⟨J,az,b0,b1,b4,rfl,rfl,Vb⟩⟩)
def F.cb (h:D23):Option Int:=(F.bK h).bind fun e=>A.om e.1 (some e.2) fun k=>(some e.2)
theorem o_bd(e:D23)(r:Int)(h:F.cb e=some r):
    A.Ct Tryz.prog 28 [.agg #[.slice A0_ e.length c1_]] [(0,.sh (.slice T48) [.slice A0_ e.length c1_] e),(1,.el none 0 0 A.tabF),(2,.el none 1 0 A.tabA)] [] (fun v H'=>v=A.i r/\H'=[]/\A.h6 r):=by
 refine Jv Tryz.func28 rfl Tryz.ntmps28 rfl fun o p=>?_;rw[F.cb]at h;refine Jz 1 ?_;refine J8 3 (cs:=[.slice A0_ e.length c1_]) fun t=>?_;refine J3 1 [] 2 ?_;refine J9 [3] [] [.b 0 0] [(6,.agg #[.slice A0_ e.length c1_])] (Vx 4 [] h (o_bc A0_ c1_ e) (.s 0 (.s 1 (.s 2 .nil))) ?_);rintro k - h _ _ (⟨hp12,rfl,rfl,hr4⟩|⟨u,hp12,x,y,z,B,E,rfl,rfl,hr11⟩)
 ·refine J5 ?_;rw[A.om_n hp12]at h
  refine J3 5 [(4,A.i k.2)] 2 ?_;refine Ve 2 [(2,A.i k.2)] 1 ?_;exact A.ke h (Vi ⟨rfl,rfl,hr4⟩)
 refine J5 ?_;rw[A.om_s hp12]at h
 refine J3 5 [(4,A.i k.2)] 2 ?_;refine Ve 2 [(2,A.i k.2)] 1 ?_;exact A.ke h (Vi ⟨rfl,rfl,hr11⟩)
def F.am (e:(List D48)):Option (List D48):=A.gd ((List.length (α:=D48) []+List.length (α:=D48) e)*104<=140737488355328) (some ([]++e))
theorem o_r(h:(List D48))(r:(List D48))(e:F.am h=some r):
    A.Ct Tryz.prog 93 [.slice A0_ h.length c1_] [(0,.ln T48 A0_ c1_ h)] [] (fun v H'=>∃(A0':Option Addr) (c1':Nat),v=.slice A0' r.length c1'/\H'=[(0,.own T48 49 A0' c1' r)]):=by
 refine Jv Tryz.func93 rfl Tryz.ntmps93 rfl fun t u=>?_;rw[F.am]at e;refine Jz 1 ?_;refine J3 1 [] 3 ?_;refine Ve 2 [(4,.bool A0_.isNone)] 1 ?_;refine A.AX.cnn rfl (fun o=>?_) (fun o=>?_)
 ·refine A.nilL 0 o fun o=>?_;subst o
  replace e:some []=some r:=by simpa[A.gd,A.ix] using e
  refine J4 1 1 [(2,.slice none 0 0)] 1 ?_;obtain rfl:=Vo e;refine Uy 2 T48 49 ?_;exact Uh [(0,2)] ⟨none,0,rfl,rfl⟩
 refine Jz 3 ?_;refine A.AL.bs0 1 T48 (fun x=>?_) Tryz.sizeOf49
 refine V6 1 [(6,.slice A0_ h.length c1_)] ?_;have⟨hl4,e⟩:=V3 e;refine V9 (k:=1) [] (A.rowL (k:=0) rfl) inf49 hl4 fun p s=>?_;refine Ve 1 [(2,.slice p (([]++h).length) s)] 1 ?_;obtain rfl:=Vo e;exact Uh [(0,1)] ⟨p,s,rfl,rfl⟩
def F.aO (e:(List Int)):Option (List Int):=A.gd ((List.length (α:=Int) []+List.length (α:=Int) e)*8<=140737488355328) (some ([]++e))
theorem o_ah(h:(List Int))(r:(List Int))(e:F.aO h=some r):
    A.Ct Tryz.prog 94 [.slice A0_ h.length c1_] [(0,.ln A.ti A0_ c1_ h)] [] (fun v H'=>∃(A0':Option Addr) (c1':Nat),v=.slice A0' r.length c1'/\H'=[(0,.own A.ti 3 A0' c1' r)]):=by
 refine Jv Tryz.func94 rfl Tryz.ntmps94 rfl fun t u=>?_;rw[F.aO]at e;refine Jz 1 ?_;refine J3 1 [] 3 ?_;refine Ve 2 [(4,.bool A0_.isNone)] 1 ?_;refine A.AX.cnn rfl (fun o=>?_) (fun o=>?_)
 ·refine A.nilL 0 o fun o=>?_;subst o
  replace e:some []=some r:=by simpa[A.gd,A.ix] using e
  refine J4 1 1 [(2,.slice none 0 0)] 1 ?_;obtain rfl:=Vo e;refine Uy 2 A.ti 3 ?_;exact Uh [(0,2)] ⟨none,0,rfl,rfl⟩
 refine Jz 3 ?_;refine A.AL.bs0 1 A.ti (fun x=>?_) Tryz.sizeOf3
 refine V6 1 [(6,.slice A0_ h.length c1_)] ?_;have⟨hl4,e⟩:=V3 e;refine V9 (k:=1) [] (A.rowL (k:=0) rfl) inf3 hl4 fun p s=>?_;refine Ve 1 [(2,.slice p (([]++h).length) s)] 1 ?_;obtain rfl:=Vo e;exact Uh [(0,1)] ⟨p,s,rfl,rfl⟩
def F.a6 (o:(List D48)):Nat->(List D48)->Int->Option D23
 |0,_,_=>none
 |f+1,k,e=>if e<(o.length:Int)then((A.ix k e).bind fun p=>((F.aO p.2.2.1).bind fun s=>((A.ix k e).bind fun h=>(A.gd (Z.R64 (e+1)) ((F.a6 o f) (k.set e.toNat (h.1,h.2.1,s,h.2.2.2.1,h.2.2.2.2.1,h.2.2.2.2.2.1,h.2.2.2.2.2.2)) (e+1))))))else(some k)
def F.cy (h:D23):Option D23:=(F.am h).bind fun e=>(F.a6 e A.FU e 0)
theorem o_be(B:D23)(r:D23)(h:F.cy B=some r):
    A.Ct Tryz.prog 53 [.agg #[.slice A0_ B.length c1_]] [(0,.sh (.slice T48) [.slice A0_ B.length c1_] B)] [] (fun v H'=>∃(A0':Option Addr) (c1':Nat),v=.agg #[.slice A0' r.length c1']/\H'=[(0,.sh (.slice T48) [.slice A0' r.length c1'] r)]):=by
 refine Jv Tryz.func53 rfl Tryz.ntmps53 rfl fun w0 F0=>?_;rw[F.cy]at h;refine Jz 1 ?_;refine J8 1 (cs:=[.slice A0_ B.length c1_]) fun g1=>?_;refine Jw 2 (cs:=[.slice none 0 0]) Tryz.zeroValue24 fun g2=>?_;refine Vr 2 ?_;refine J9 [1] [] [.n,.b 0 0] [(5,.slice A0_ B.length c1_)] (Vx 3 [] h (o_r A0_ c1_ B) (.l 0 .nil) ?_);rintro k - h _ _ ⟨u,x,rfl,rfl⟩;refine J5 (V6 1 [(7,.pointer (some ⟨g1,0,none⟩))] (Vw 1 [] [.slice u k.length x] ?_));refine Vr 3 ?_;refine Vf [1] [] [.n,.b 0 0,.n,.n] [(10,A.i (k.length:Int)),(11,A.i 0)] 2 ?_;refine V5 [1,2,10] [1,2] (fun f nl nh=>∃(y:List D48)(p:Int),nl=[(11,A.i p)]/\nh=[(3,.own T48 49 u x y)]/\k.length=y.length/\A.h6 p/\F.a6 k f y p=some r) ⟨k,0,rfl,rfl,rfl,Vb,h⟩ ?_;rintro J _ _ ⟨y,p,rfl,rfl,hn10,a9,h⟩;rcases J with _|J
 ·exact V0 h
 rw[F.a6]at h;refine V1 1 1 [(12,.bool (decide (p<(k.length:Int))))] 2 h ?_ ?_<;>intro hb h
 ·refine J4 5 2 [(3,A.i p)] 1 ?_;refine V4 mixed 12 13 (A.mb 13 0) ?_;refine Vs Vj [] [1,2,3] [1] [] (A.mb 13 63) 7 [(0,.n),(2,.n),(3,.n),(5,.n),(1,.b 0 0),(4,.b 0 0)] [(16,A.i p),(19,A.i p),(15,.slice u k.length x),(18,.slice u k.length x)] (A.cst 18 (Z.slice_n (show k.length=y.length from hn10)) ?_);have⟨L,N,h⟩:=Us h;refine A.AH.pko 3 131 N fun aa=>?_;intro U W ab a2;refine Uo Vj [1,2,3] l5j 6 (A.mb 13 127) rfl (fun a w hf hh=>A.r_ixo (t:=T48) N a2 hf) ?_;refine Vs Vj l5j l5j [] [131] (A.mb 13 511) 4 [(7,.n),(8,.e 0 2)] [(22,.slice U L.2.2.1.length W)] (J6 9 ?_);refine Vx 133 [] h (o_ah U W L.2.2.1) (.l 132 .nil) ?_;rintro E - h _ _ ⟨a3,a4,rfl,rfl⟩;refine J5 (Vc (A.mb 13 1023) l5j ?_);refine A.cst 15 (Z.slice_n (show k.length=y.length from hn10)) ?_;have⟨s,I,h⟩:=Us h;refine A.AH.pko 3 173 I fun z=>?_;intro a5 a7 a8 Y;refine Uo Vj l5j l5h 10 (A.mb 13 2047) rfl (fun a w hf hh=>A.r_ixo (t:=T48) I Y hf) ?_;refine Vs Vj l5h l5h [] [] (A.mb 13 4095) 1 [(11,.n)] [(25,.pointer (some ⟨a8,p.toNat*(T48).size+2,none⟩))] (J6 12 ?_);refine V2 133 [] ?_;refine A.AL.setel 3 173 [131,173] (o:=2) (m:=1) (t:=T48) (new:=[.slice a3 E.length a4]) (es:=(A.rae s a5 a7)) (s.1,s.2.1,E,s.2.2.2.1,s.2.2.2.2.1,s.2.2.2.2.2.1,s.2.2.2.2.2.2) I Y ⟨⟨rfl,z.1⟩,⟨rfl,z.2.1⟩,.inl ⟨133,rfl⟩,⟨⟨rfl,z.2.2.2.1.1⟩,⟨rfl,z.2.2.2.1.2.1⟩,⟨rfl,z.2.2.2.1.2.2⟩⟩,⟨rfl,z.2.2.2.2.1⟩,⟨rfl,z.2.2.2.2.2.1⟩,⟨rfl,z.2.2.2.2.2.2⟩⟩ ?_;refine A.AH.nm (A.mb 13 8191) ?_;refine Va ?_;refine A.el 2 ?_;have⟨a1,h⟩:=V3 h;refine Uf 2 [Z.R64 (p+1)] [(11,A.i (p+1))] a1 (Ju ?_);exact Vz ⟨_,Qy _,⟨(y.set p.toNat (s.1,s.2.1,E,s.2.2.2.1,s.2.2.2.2.1,s.2.2.2.2.2.1,s.2.2.2.2.2.2)),(p+1),rfl,rfl,(by rw[Yf];exact hn10),(J0 a1),h⟩⟩
 refine Ud 3 [1] [] [.b 0 0] [(27,.agg #[.slice u k.length x])] ?_;refine Vw 2 [] [.slice u k.length x] ?_;refine Uj 1 ?_;obtain rfl:=Vo h;refine V2 3 [] ?_;exact Uk [(0,3)] (.agg #[.slice u k.length x]) (fun a w hf hh=>Um rfl (Ux hf rfl Tryz.isAgg24 Tryz.sizeOf24 (Ua hh 2) rfl)) (by rw[show k.length=y.length from hn10];exact⟨u,x,rfl,rfl⟩)
def F.cN (e:D48)(h:Int):Option Bool:=some (decide (e.1=h))
theorem o_a3(h:D48)(k:Int)(p:A.h6 h.1)(s:A.h6 h.2.1)(t:A.h6 h.2.2.2.1.1)(u:A.h6 h.2.2.2.1.2.1)(x:h.2.2.2.1.2.2.size<=maxLen)(y:h.2.2.2.2.1.size<=maxLen)(z:A.h6 h.2.2.2.2.2.1)(B:A.h6 h.2.2.2.2.2.2)(E:A.h6 k)(r:Bool)(o:F.cN h k=some r):
    A.Ct Tryz.prog 52 [(A.rai h A2_ c3_),.pointer (some ⟨g10_,0,none⟩)] [(0,.sh A.TI [.slice A2_ h.2.2.1.length c3_] h.2.2.1),(1,.el none g10_ 0 [A.i k])] [] (fun v H'=>v=.bool r/\H'=[]):=by
 refine Jv Tryz.func52 rfl Tryz.ntmps52 rfl fun I J=>?_;rw[F.cN]at o;refine Jz 1 ?_;refine J8 2 (cs:=(A.rae h A2_ c3_)) fun L=>?_;refine J3 1 [] 2 ?_;refine Vf [2] [1] [.n,.b 0 0,.e 0 0,.n,.n] [(3,.bool (decide (h.1=k)))] 1 ?_;exact A.ke o (Vi ⟨rfl,rfl⟩)
def F.c (h:(List D48))(k:Int):Nat->Int->Option Int
 |0,_=>none
 |f+1,e=>if e<(h.length:Int)then((A.ix h e).bind fun o=>((F.cN o k).bind fun p=>(if p=true then(some e)else(A.gd (Z.R64 (e+1)) ((F.c h k f) (e+1))))))else(some (-1))
def F.m (e:(List D48))(h:Int):Option Int:=F.c e h A.FU 0
theorem o_g(p:(List D48))(t:Int)(E:A.h6 t)(r:Int)(h:F.m p t=some r):
    A.Ct Tryz.prog 51 [.slice A0_ p.length c1_,.func (.func 52) #[] #[.pointer (some ⟨g2_,0,none⟩)]] [(0,.ln T48 A0_ c1_ p),(1,.el none g2_ 0 [A.i t])] [] (fun v H'=>v=A.i r/\H'=[]/\A.h6 r):=by
 refine Jv Tryz.func51 rfl Tryz.ntmps51 rfl fun w0 F0=>?_;rw[F.m]at h;refine Jz 1 ?_;refine J3 1 [] 3 ?_;refine Ve 3 [(7,A.i (p.length:Int)),(8,A.i 0)] 2 ?_;refine V5 [0,1,7] [0,1] (fun f I J=>∃(k:Int),I=[(8,A.i k)]/\J=[]/\A.h6 k/\F.c p t f k=some r) ⟨0,rfl,rfl,Vb,h⟩ ?_;rintro u _ _ ⟨k,rfl,rfl,L,h⟩;rcases u with _|u
 ·exact V0 h
 rw[F.c]at h;refine V1 1 1 [(9,.bool (decide (k<(p.length:Int))))] 2 h ?_ ?_<;>intro N h
 ·refine Jz 5 ?_;refine J3 2 [(5,A.i k)] 2 ?_;refine V6 3 [(11,.func (.func 52) #[] #[.pointer (some ⟨g2_,0,none⟩)]),(12,.slice A0_ p.length c1_),(13,A.i k)] ?_;have⟨x,U,h⟩:=Us h;refine A.AL.ixl 0 86 U fun o=>?_;intro y z b9 a1;refine J9 [] [86] [.e 0 0] [(15,(A.rai x y z))] ?_;have⟨W,Y,h⟩:=Us h;refine A.AL.call 88 [] (first:=[]) (cap:=[.pointer (some ⟨g2_,0,none⟩)]) cf52 (o_a3 y z g2_ x t o.1 o.2.1 o.2.2.2.1.1 o.2.2.2.1.2.1 o.2.2.2.1.2.2 o.2.2.2.2.1 o.2.2.2.2.2.1 o.2.2.2.2.2.2 E W Y) (.s 87 (.s 1 .nil)) ?_;rintro _ _ ⟨rfl,rfl⟩;refine J5 (Uj 1 ?_);refine Up h ?_ ?_<;>intro N h
  ·refine J4 1 2 [(4,A.i k)] 1 ?_;exact A.ke h (Vi ⟨rfl,rfl,L⟩)
  refine Jz 3 ?_;have⟨B,h⟩:=V3 h;refine Uf 2 [Z.R64 (k+1)] [(8,A.i (k+1))] B (Ju ?_);exact Vz ⟨_,Qy _,⟨(k+1),rfl,rfl,(J0 B),h⟩⟩
 refine J4 3 1 [(4,A.i (-1))] 1 ?_;exact A.ke h (Vi ⟨rfl,rfl,(Vg (-1))⟩)
def F.cu (h:D23)(k:Int):Option (D48×Bool):=(F.m h k).bind fun e=>(if e<0 then(some ((0,0,[],(0,0,ByteArray.mk #[]),ByteArray.mk #[],0,0),false))else(A.gd (Z.R64 (e+1)) (A.gd (0<=e/\e<=e+1/\(e+1).toNat<=h.length) ((F.cy (List.drop e.toNat (List.take ((e+1).toNat) h))).bind fun o=>((A.ix o 0).bind fun p=>(some (p,true)))))))
theorem o_bm(o:D23)(t:Int)(L:A.h6 t)(r:D48×Bool)(h:F.cu o t=some r):
    A.Ct Tryz.prog 29 [.agg #[.slice A0_ o.length c1_],A.i t] [(0,.sh (.slice T48) [.slice A0_ o.length c1_] o)] [] (fun v H'=>∃(A0':Option Addr) (c1':Nat),v=.tuple #[.agg #[A.i r.1.1,A.i r.1.2.1,.slice A0' r.1.2.2.1.length c1',A.i r.1.2.2.2.1.1,A.i r.1.2.2.2.1.2.1,.string r.1.2.2.2.1.2.2,.string r.1.2.2.2.2.1,A.i r.1.2.2.2.2.2.1,A.i r.1.2.2.2.2.2.2],.bool r.2]/\H'=[(0,.sh A.TI [.slice A0' r.1.2.2.1.length c1'] r.1.2.2.1)]/\A.h6 r.1.1/\A.h6 r.1.2.1/\A.h6 r.1.2.2.2.1.1/\A.h6 r.1.2.2.2.1.2.1/\r.1.2.2.2.1.2.2.size<=maxLen/\r.1.2.2.2.2.1.size<=maxLen/\A.h6 r.1.2.2.2.2.2.1/\A.h6 r.1.2.2.2.2.2.2):=by
 refine Jv Tryz.func29 rfl Tryz.ntmps29 rfl fun w0 F0=>?_;rw[F.cu]at h;refine Jz 1 ?_;refine J8 1 (cs:=[.slice A0_ o.length c1_]) fun g1=>?_;refine J8 2 (cs:=[A.i t]) fun E=>?_;refine Jw 3 (cs:=l5a) Tryz.zeroValue49 fun g3=>?_;refine J3 1 [] 2 ?_;refine J9 [1] [] [.n,.b 0 0,.n] [(8,.slice A0_ o.length c1_),(9,.func (.func 52) #[] #[.pointer (some ⟨E,0,none⟩)])] (Vx 4 [] h (o_g A0_ c1_ E o t L) (.l 0 (.b 2 .nil)) ?_);rintro k - h _ _ ⟨rfl,rfl,hr6⟩;refine J5 (J3 1 [(6,A.i k)] 3 ?_);refine Ve 2 [(12,.bool (decide (k<0)))] 1 ?_;refine A.c h ?_ ?_<;>intro hb h
 ·refine Ub 1 1 [(13,.agg #[A.i 0,A.i 0,.slice none 0 0,A.i 0,A.i 0,.string (ByteArray.mk #[]),.string (ByteArray.mk #[]),A.i 0,A.i 0])] ?_;refine Vw 3 [] [A.i 0,A.i 0,.slice none 0 0,A.i 0,A.i 0,.string (ByteArray.mk #[]),.string (ByteArray.mk #[]),A.i 0,A.i 0] ?_;refine Ve 1 [(5,.bool false)] 1 ?_;obtain rfl:=Vo h;refine A.snil 44 A.ti ?_;exact Uk [(0,44)] (.tuple #[.agg #[A.i 0,A.i 0,.slice none 0 0,A.i 0,A.i 0,.string (ByteArray.mk #[]),.string (ByteArray.mk #[]),A.i 0,A.i 0],.bool false]) (fun a w hf hh=>Uw rfl (Ux hf rfl Tryz.isAgg49 Tryz.sizeOf49 (Ua hh 3) rfl) (Un hf rfl)) (⟨none,0,rfl,rfl,Vb,Vb,Vb,Vb,(A.szl (ByteArray.mk #[]) rfl),(A.szl (ByteArray.mk #[]) rfl),Vb,Vb⟩)
 refine Jz 3 ?_;have⟨N,h⟩:=V3 h;refine A.q [1] [] [.n,.b 0 0,.n,.n,.n] [Z.R64 (k+1)] [(15,.slice A0_ o.length c1_),(16,A.i k),(18,A.i (k+1))] N ?_;have⟨x,h⟩:=V3 h;refine A.AL.cut 0 45 (u:=k.toNat) (v:=(k+1).toNat) (Xs x.1).symm (Xs (Int.le_trans x.1 x.2.1)).symm (Int.toNat_le_toNat x.2.1) x.2.2 fun I J=>?_;refine V6 1 [(20,.agg #[.slice I ((List.drop k.toNat (List.take ((k+1).toNat) o)).length) J])] (Vx 46 [] h (o_be I J (List.drop k.toNat (List.take ((k+1).toNat) o))) (.s 45 .nil) ?_);rintro U - h _ _ ⟨W,Y,rfl,rfl⟩;refine J5 (V6 1 [(22,.slice W U.length Y)] ?_);have⟨B,a2,h⟩:=Us h;refine Vy 46 86 a2 fun p=>?_;intro y z a3 a4;refine J9 [] [86] [.e 0 0] [(24,(A.rai B y z))] (Vw 3 [] (A.rae B y z) ?_);refine Ve 1 [(5,.bool true)] 1 ?_;obtain rfl:=Vo h;exact Uk [(0,87)] (.tuple #[(A.rai B y z),.bool true]) (fun a w hf hh=>Uw rfl (Ux hf rfl Tryz.isAgg49 Tryz.sizeOf49 (Ua hh 3) rfl) (Un hf rfl)) (⟨y,z,rfl,rfl,p.1,p.2.1,p.2.2.2.1.1,p.2.2.2.1.2.1,p.2.2.2.1.2.2,p.2.2.2.2.1,p.2.2.2.2.2.1,p.2.2.2.2.2.2⟩)
def F.cO (e:Int):Option Bool:=some (bif decide (e=11)then true else decide (e=16))
theorem o_bn (e:Int)(k:A.h6 e)(r:Bool)(h:F.cO e=some r):
    A.Ct Tryz.prog 30 [A.i e] [] [] (fun v H'=>v=.bool r/\H'=[]):=by
 refine Jv Tryz.func30 rfl Tryz.ntmps30 rfl fun o p=>?_;rw[F.cO]at h;refine Jz 1 ?_;refine J3 1 [] 2 ?_;refine Vf [] [] [.n,.n,.n,.sy .n,.sy .n,.pk,.n] [(2,.bool (bif decide (e=11)then true else decide (e=16)))] 1 ?_;exact A.ke h (Vi ⟨rfl,rfl⟩)
def F.bU (e:Bool):Option Int:=if e=true then(some 50)else(some 0)
def F.cI (e:D61):Option Int:=if(64:Int)<(e.2.size:Int)then(F.bU true)else((F.ao e.2).bind fun h=>(F.bU (!h)))
theorem o_bK (h:D61)(y:A.h6 h.1)(p:h.2.size<=maxLen)(r:Int)(e:F.cI h=some r):
    A.Ct Tryz.prog 95 [.agg #[A.i h.1,.string h.2]] [(0,.el none 0 0 A.tabF),(1,.el none 1 0 A.tabA)] [] (fun v H'=>v=A.i r/\H'=[]/\A.h6 r):=by
 refine Jv Tryz.func95 rfl Tryz.ntmps95 rfl fun z B=>?_;rw[F.cI]at e;refine Jz 1 ?_;refine J8 2 (cs:=[A.i h.1,.string h.2]) fun E=>?_;refine Ve 1 [] 2 ?_;refine J7 [] [0,1] (fun t u=>∃(k:Bool),t=[(12,.bool k)]/\u=[]/\F.bU k=some r) ?_ ?_
 ·refine Ud 0 [2] [] [.n,.b 0 1,.n,.n,.n] [(7,.bool (decide ((64:Int)<(h.2.size:Int))))] ?_;refine Vn (j:=7) rfl e ?_ ?_<;>intro x e
  ·refine J9 [] [] [.off,.off,.off,.off,.n] [(12,.bool true)] (Ju ?_);exact Vz ⟨true,rfl,rfl,e⟩
  refine J9 [2] [] [.on .n,.on (.b 0 1)] [(9,.string h.2)] (J2 (dj:=7) rfl rfl ?_);refine Vx 3 [] e (o_m h.2 p) (.s 0 (.s 1 .nil)) ?_;rintro o - e _ _ ⟨rfl,rfl⟩;refine J5 (J9 [] [] [.on .n,.n] [(12,.bool (!o))] (Ju ?_));exact Vz ⟨(!o),rfl,rfl,e⟩
 rintro _ _ ⟨k,rfl,rfl,e⟩;rw[F.bU]at e;refine Up e ?_ ?_<;>intro x e
 ·refine J4 1 1 [(2,A.i 50)] 1 ?_;exact A.ke e (Vi ⟨rfl,rfl,(Vg 50)⟩)
 refine J4 3 1 [(2,A.i 0)] 1 ?_;exact A.ke e (Vi ⟨rfl,rfl,Vb⟩)
def F.bF (e:Bool):Option Bool:=some e
def F.cv (h:D48)(e:D58):Option Bool:=if e.1≠h.1 then(some false)else(if h.2.1=11 then(some (bif bif decide (e.2.2.1=(ByteArray.mk #[]))then decide ((0:Int)<=e.2.2.2)else false then decide (e.2.2.2<=1099511627776)else false))else(if h.2.1=16 then(if e.2.2.2=1 then((F.cI (e.2.1,e.2.2.1)).bind fun k=>(F.bF (decide (k=0))))else(F.bF false))else(some false)))
theorem o_bo(h:D48)(k:D58)(B:A.h6 h.1)(E:A.h6 h.2.1)(I:A.h6 h.2.2.2.1.1)(J:A.h6 h.2.2.2.1.2.1)(L:h.2.2.2.1.2.2.size<=maxLen)(N:h.2.2.2.2.1.size<=maxLen)(U:A.h6 h.2.2.2.2.2.1)(W:A.h6 h.2.2.2.2.2.2)(Y:A.h6 k.1)(u:A.h6 k.2.1)(x:k.2.2.1.size<=maxLen)(a2:A.h6 k.2.2.2)(r:Bool)(e:F.cv h k=some r):
    A.Ct Tryz.prog 54 [(A.rai h A2_ c3_),(A.rak k)] [(0,.sh A.TI [.slice A2_ h.2.2.1.length c3_] h.2.2.1),(1,.el none 0 0 A.tabF),(2,.el none 1 0 A.tabA)] [] (fun v H'=>v=.bool r/\H'=[]):=by
 refine Jv Tryz.func54 rfl Tryz.ntmps54 rfl fun w0 F0=>?_;rw[F.cv]at e;refine Jz 1 ?_;refine J8 3 (cs:=(A.rae h A2_ c3_)) fun g1=>?_;refine J8 4 (cs:=(A.rag k)) fun g2=>?_;refine J3 1 [] 4 ?_;refine Vf [4,3] [] [.n,.b 0 0,.n,.b 1 0,.n,.n] [(5,.bool (decide (k.1≠h.1)))] 1 ?_;refine A.c e ?_ ?_<;>intro o e
 ·refine J4 1 1 [(4,.bool false)] 1 ?_;exact A.ke e (Vi ⟨rfl,rfl⟩)
 refine Ug 1 [3] [] [.n,.b 0 1,.n,.n] [(11,.bool (decide (h.2.1=11)))] 1 ?_;refine A.c e ?_ ?_<;>intro o e
 ·refine Ug 1 [4] [] [.n,.b 0 2,.n,.n,.sy .n,.sy (.b 0 3),.sy .n,.pk,.n,.sy .n,.sy (.b 0 3),.sy .n,.pk,.n] [(4,.bool (bif bif decide (k.2.2.1=(ByteArray.mk #[]))then decide ((0:Int)<=k.2.2.2)else false then decide (k.2.2.2<=1099511627776)else false))] 1 ?_;exact A.ke e (Vi ⟨rfl,rfl⟩)
 refine Ug 1 [3] [] [.n,.b 0 1,.n,.n] [(28,.bool (decide (h.2.1=16)))] 1 ?_;refine A.c e ?_ ?_<;>intro o e
 ·refine J7 [] [1,2] (fun y z=>∃(p:Bool),y=[(4,.bool p)]/\z=[]/\F.bF p=some r) ?_ ?_
  ·refine Ud 0 [4] [] [.n,.b 0 3,.n,.n] [(35,.bool (decide (k.2.2.2=1)))] ?_;refine Vn (j:=35) rfl e ?_ ?_<;>intro o e
   ·refine J9 [4] [] [.on .n,.on (.b 0 1),.on .n,.on (.b 0 2),.on .n] [(40,.agg #[A.i k.2.1,.string k.2.2.1])] (J2 (dj:=35) rfl rfl ?_);refine Vx 5 [] e (o_bK (k.2.1,k.2.2.1) u x) (.s 1 (.s 2 .nil)) ?_;rintro t - e _ _ ⟨rfl,rfl,hr6⟩;refine J5 (J9 [] [] [.on .n,.n,.n] [(4,.bool (decide (t=0)))] (Ju ?_));exact Vz ⟨(decide (t=0)),rfl,rfl,e⟩
   refine J9 [] [] [.off,.off,.off,.off,.off,.off,.off,.n,.n] [(4,.bool false)] (Ju ?_);exact Vz ⟨false,rfl,rfl,e⟩
  rintro _ _ ⟨p,rfl,rfl,e⟩;rw[F.bF]at e;exact A.ke e (Vi ⟨rfl,rfl⟩)
 refine J4 4 1 [(4,.bool false)] 1 ?_;exact A.ke e (Vi ⟨rfl,rfl⟩)
def F.cw (e:D58)(h:D58):Option Bool:=(F.aR e.2.1 h.2.1).bind fun k=>((F.cc e.2.2.1 h.2.2.1).bind fun o=>((F.b6 [k,o]).bind fun p=>(some (decide (p<0)))))
theorem o_bp (e:D58)(h:D58)(E:A.h6 e.1)(t:A.h6 e.2.1)(u:e.2.2.1.size<=maxLen)(I:A.h6 e.2.2.2)(J:A.h6 h.1)(x:A.h6 h.2.1)(y:h.2.2.1.size<=maxLen)(L:A.h6 h.2.2.2)(r:Bool)(k:F.cw e h=some r):
    A.Ct Tryz.prog 55 [(A.rak e),(A.rak h)] [] [] (fun v H'=>v=.bool r/\H'=[]):=by
 refine Jv Tryz.func55 rfl Tryz.ntmps55 rfl fun N U=>?_;rw[F.cw]at k;refine Jz 1 ?_;refine J8 0 (cs:=(A.rag e)) fun W=>?_;refine J8 1 (cs:=(A.rag h)) fun Y=>?_;refine Ve 1 [] 2 ?_;refine V4 mixed 14 14 (A.mb 14 0) ?_;refine Vs Vj [] [0,1] [0,1] [] (A.mb 14 495) 6 [(0,.n),(2,.n),(5,.n),(7,.n),(1,.b 0 1),(3,.b 1 1),(6,.b 0 2),(8,.b 1 2)] [(6,A.i e.2.1),(8,A.i h.2.1),(11,.string e.2.2.1),(13,.string h.2.2.1)] (J6 4 ?_);refine Vx 2 [] k (o_w e.2.1 h.2.1 t x) .nil ?_;rintro p - k _ _ ⟨rfl,rfl,hr5⟩;refine J5 (Vc (A.mb 14 511) [0,1] ?_);refine J6 9 ?_;refine Vx 42 [] k (o_aB e.2.2.1 h.2.2.1 u y) .nil ?_;rintro s - k _ _ ⟨rfl,rfl,hr8⟩;refine J5 (Vc (A.mb 14 1023) [0,1] ?_);refine J6 10 ?_;refine V7 82 (ty:=A.ti) (cs:=[A.i p,A.i s]) [p,s] ⟨⟨rfl,hr5⟩,⟨⟨rfl,hr8⟩,rfl⟩⟩ (fun z=>?_) Tryz.zeroValue3 Tryz.sizeOf3
 refine Vc (A.mb 14 2047) [0,1] ?_;refine J6 11 ?_;refine Vx 83 [] k (o_au (some ⟨z,0,none⟩) 2 [p,s]) (.o 82 .nil) ?_;rintro B - k _ _ ⟨rfl,rfl,hr12⟩;refine J5 (Vc (A.mb 14 4095) [0,1] ?_);refine Vs Vj [0,1] [0,1,82] [] [] (A.mb 14 16383) 0 [(12,.n),(13,.n)] [(4,.bool (decide (B<0)))] (Va ?_);refine A.ex 1 ?_;exact A.ke k (Vi ⟨rfl,rfl⟩)
def F.ar (h:Int->Option Int)(e:Int)(k:Bool):Option Int:=if k=true then(some 171)else(A.gd (Z.R64 (e+1)) (h (e+1)))
def F.o (k:D48)(h:(List D58)):Nat->Int->Option Int
 |0,_=>none
 |f+1,e=>if e<(h.length:Int)then((A.ix h e).bind fun p=>((F.cv k p).bind fun s=>(if(!s)=true then(F.ar (F.o k h f) e true)else(if(0:Int)<e then(A.gd (Z.R64 (e-1)) ((A.ix h (e-1)).bind fun t=>((F.cw t p).bind fun u=>(F.ar (F.o k h f) e (!u)))))else(F.ar (F.o k h f) e false)))))else(some 0)
def F.bI (e:D48)(h:(List D58)):Option Int:=F.o e h A.FU 0
theorem o_aF(k:D48)(u:(List D58))(a2:A.h6 k.1)(a3:A.h6 k.2.1)(a4:A.h6 k.2.2.2.1.1)(a5:A.h6 k.2.2.2.1.2.1)(a6:k.2.2.2.1.2.2.size<=maxLen)(a7:k.2.2.2.2.1.size<=maxLen)(a8:A.h6 k.2.2.2.2.2.1)(a9:A.h6 k.2.2.2.2.2.2)(r:Int)(h:F.bI k u=some r):
    A.Ct Tryz.prog 31 [(A.rai k A2_ c3_),.slice A10_ u.length c11_] [(0,.sh A.TI [.slice A2_ k.2.2.1.length c3_] k.2.2.1),(1,.ln T58 A10_ c11_ u),(2,.el none 0 0 A.tabF),(3,.el none 1 0 A.tabA)] [] (fun v H'=>v=A.i r/\H'=[]/\A.h6 r):=by
 refine Jv Tryz.func31 rfl Tryz.ntmps31 rfl fun w0 F0=>?_;rw[F.bI]at h;refine Jz 1 ?_;refine J8 4 (cs:=(A.rae k A2_ c3_)) fun g1=>?_;refine J3 1 [] 3 ?_;refine Ve 3 [(7,.slice A10_ u.length c11_),(8,A.i (u.length:Int)),(9,A.i 0)] 2 ?_;refine V5 [1,2,7,8] l5k (fun f B E=>∃(p:Int),B=[(9,A.i p)]/\E=[]/\A.h6 p/\F.o k u f p=some r) ⟨0,rfl,rfl,Vb,h⟩ ?_;rintro I _ _ ⟨p,rfl,rfl,ae,h⟩;rcases I with _|I
 ·exact V0 h
 rw[F.o]at h;refine V1 1 1 [(10,.bool (decide (p<(u.length:Int))))] 2 h ?_ ?_<;>intro L h
 ·refine Ub 5 1 [(11,A.i p)] ?_;have⟨y,aa,h⟩:=Us h;refine A.AL.ixl 1 171 aa fun x=>?_;intro b8 o9;refine J9 [] [171] [.e 0 0] [(13,(A.rak y))] (Jw 172 (cs:=l5f) Tryz.zeroValue59 fun ag=>?_);refine V6 1 [(5,A.i p)] (Vw 172 [] (A.rag y) ?_);refine Uj 1 ?_;refine J7 [1,2,7,8,9] l5k (fun B E=>∃(J:Bool),B=[(31,.bool J)]/\E=[]/\F.ar (F.o k u I) p J=some r) ?_ ?_
  ·refine V4 mixed 18 18 (A.mb 18 0) ?_;refine Vs Vj [] l5b [4,172] [] (A.mb 18 3) 16 [(0,.b 0 0),(1,.b 1 0)] [(14,(A.rai k A2_ c3_)),(15,(A.rak y))] (J6 2 ?_);refine Vx 173 [] h (o_bo A2_ c3_ k y a2 a3 a4 a5 a6 a7 a8 a9 x.1 x.2.1 x.2.2.1 x.2.2.2) (.s 0 (.s 2 (.s 3 .nil))) ?_;rintro ab - h _ _ ⟨rfl,rfl⟩;refine J5 (Vc (A.mb 18 7) l5b ?_);refine Vs Vj l5b l5b [] [] (A.mb 18 31) 13 [(3,.n),(4,.n)] [(18,.bool (!ab))] (A.AH.cnd (j:=18) rfl h (fun h=>?_) (fun h=>?_))
   ·refine Vs Vj l5b l5b [] [] (A.mb 18 262143) 0 [(5,.off),(6,.off),(7,.off),(8,.off),(9,.off),(13,.off),(10,.off),(11,.off),(12,.off),(14,.off),(15,.off),(16,.off),(17,.n)] [(31,.bool true)] (Va ?_);exact Vz ⟨true,rfl,rfl,h⟩
   refine Vs Vj l5b l5b [] [] (A.mb 18 255) 10 [(5,.on .n),(6,.on .n),(7,.on .n)] [(21,.bool (decide ((0:Int)<p)))] (A.AH.cnp (j:=21) rfl h ?_ ?_)<;>intro L h
   ·have⟨ac,h⟩:=V3 h;refine A.AH.q Vj l5b l5b [172] [] (A.mb 18 10239) 6 [(8,.on .n),(9,.on .n),(13,.on (.b 0 0)),(10,.on .n)] [22,27,24] [Z.R64 (p-1)] [(22,.slice A10_ u.length c11_),(27,(A.rak y)),(24,A.i (p-1))] ac ?_;have⟨N,U,h⟩:=Us h;refine A.AH.pkl 1 213 U fun z=>?_;intro ah aj ad;refine A.AH.vg Vj l5b l5e 11 (A.mb 18 12287) (dj:=21) rfl (fun a w hf hh=>A.r_ixa (t:=T58) U ad hf) ?_;refine Vs Vj l5e l5e [] [213] (A.mb 18 16383) 4 [(12,.on (.e 0 0))] [(26,(A.rak N))] (J6 14 ?_);refine J2 (dj:=21) rfl rfl ?_;refine Vx 214 [] h (o_bp N y z.1 z.2.1 z.2.2.1 z.2.2.2 x.1 x.2.1 x.2.2.1 x.2.2.2) .nil ?_;rintro W - h _ _ ⟨rfl,rfl⟩;refine J5 (Vc (A.mb 18 32767) l5e ?_);refine Vs Vj l5e l5e [] [] (A.mb 18 262143) 0 [(15,.on .n),(16,.on .n),(17,.n)] [(31,.bool (!W))] (Va ?_);exact Vz ⟨(!W),rfl,rfl,h⟩
   refine Vs Vj l5b l5b [] [] (A.mb 18 262143) 0 [(8,.off),(9,.off),(13,.off),(10,.off),(11,.off),(12,.off),(14,.off),(15,.off),(16,.on .n),(17,.n)] [(31,.bool false)] (Va ?_);exact Vz ⟨false,rfl,rfl,h⟩
  rintro _ _ ⟨J,rfl,rfl,h⟩;rw[F.ar]at h;refine Up h ?_ ?_<;>intro L h
  ·refine J4 1 1 [(4,A.i 171)] 1 ?_;exact A.ke h (Vi ⟨rfl,rfl,(Vg 171)⟩)
  refine Jz 3 ?_;have⟨Y,h⟩:=V3 h;refine Uf 2 [Z.R64 (p+1)] [(9,A.i (p+1))] Y (Ju ?_);exact Vz ⟨_,Qy _,⟨(p+1),rfl,rfl,(J0 Y),h⟩⟩
 refine J4 3 1 [(4,A.i 0)] 1 ?_;exact A.ke h (Vi ⟨rfl,rfl,Vb⟩)
def F.x (e:List D58):Option (List D58):=A.gd (e.length<4611686018427387904) (A.srtF (fun x y=>F.aJ x y) e)
theorem o_h(k:List D58)(r:List D58)(o:F.x k=some r):
    A.Ct Tryz.prog 32 [.slice A0_ k.length c1_,.func (.func 33) #[] #[]] [(0,.own T58 59 A0_ c1_ k)] (Z.obl A0_++[]) (fun v H'=>v=.tuple #[]/\H'=[(0,.own T58 59 A0_ c1_ r)]/\r.length=k.length):=by
 have⟨hc,o⟩:=V3 o;rw[Wm]
 exact A.Ct.sortF (t:=T58) (e:=59) Tryz.laysSortFunc32 rfl rfl Tryz.isAgg59 Tryz.sizeOf59 A0_ c1_ 33 (fun x y=>F.aJ x y) cf33 (fun x y r hx hy h=>⟨_,o_ba x y hx.1 hx.2.1 hx.2.2.1 hx.2.2.2 hy.1 hy.2.1 hy.2.2.1 hy.2.2.2 r h,fun v H' h=>h.1⟩) k r hc o
def F.bV (h:(List (D78×Int))->Int->Option (List D58))(e:Int)(k:List (D78×Int)):Option (List D58):=A.gd (Z.R64 (e+1)) (h k (e+1))
def F.bA (h:(List (D78×Int))->Int->Option (List D58))(k:List (D78×Int))(o:Int)(e:D58)(p:Int):Option (List D58):=F.bV h o (Z.mins k (e.1,(e.2.1,e.2.2.1)) p)
def F.ba (k:(List (D78×Int))->Int->Option (List D58))(h:List (D78×Int))(o:Int)(e:D58)(s:D48×Bool)(t:Bool):Option (List D58):=if t=true then(F.bV k o h)else(if s.1.2.1=11 then(A.lt (Z.mget (0:Int) h (e.1,(e.2.1,e.2.2.1))) fun p=>(A.gd (Z.R64 (e.2.2.2+p)) (F.bA k h o e (min 1099511627776 (e.2.2.2+p)))))else(F.bA k h o e e.2.2.2))
def F.ae (k:List (D78×Int)):Nat->(List Nat)->(List D58)->Option (List D58)
 |0,_,_=>none
 |f+1,o,h=>A.dem k o ((F.x h).bind fun s=>(some s)) fun p e=>(A.gd (decide (A.h6 e.1.1)=true/\decide (A.h6 e.1.2.1)=true/\e.1.2.2.size<=maxLen) (if e.2≠0 then(A.gd ((List.length (α:=D58) h+List.length (α:=D58) [(e.1.1,e.1.2.1,e.1.2.2,e.2)])*40<=140737488355328) ((F.ae k f) (p::o) (h++[(e.1.1,e.1.2.1,e.1.2.2,e.2)])))else((F.ae k f) (p::o) h)))
def F.s (p:D23)(h:(List D58)):Nat->(List (D78×Int))->Int->Option (List D58)
 |0,_,_=>none
 |f+1,t,k=>if k<(h.length:Int)then((A.ix h k).bind fun o=>((F.cu p o.1).bind fun e=>(if(!e.2)=true then(F.ba (F.s p h f) t k o e true)else((F.cO e.1.2.1).bind fun u=>(if(!u)=true then(F.ba (F.s p h f) t k o e true)else((F.bI e.1 [o]).bind fun x=>(F.ba (F.s p h f) t k o e (decide (x≠0)))))))))else(F.ae t A.FU [] [])
def F.bu (e:D23)(h:(List D58)):Option (List D58):=(F.cb e).bind fun k=>(if k≠0 then(some [])else(F.s e h A.FU [] 0))
theorem o_aG(B:D23)(L:(List D58))(r:(List D58))(h:F.bu B L=some r):
    A.Ct Tryz.prog 16 [.agg #[.slice A0_ B.length c1_],.slice A2_ L.length c3_] [(0,.sh (.slice T48) [.slice A0_ B.length c1_] B),(1,.ln T58 A2_ c3_ L),(2,.el none 0 0 A.tabF),(3,.el none 1 0 A.tabA)] [] (fun v H'=>∃(A0':Option Addr) (c1':Nat),v=.slice A0' r.length c1'/\H'=[(0,.own T58 59 A0' c1' r)]):=by
 refine Jv Tryz.func16 rfl Tryz.ntmps16 rfl fun w0 F0=>?_;rw[F.bu]at h;refine Jz 1 ?_;refine J8 4 (cs:=[.slice A0_ B.length c1_]) fun g1=>?_;refine J3 1 [] 3 ?_;refine J9 [4] [] [.b 0 0] [(14,.agg #[.slice A0_ B.length c1_])] (Vx 5 [] h (o_bd A0_ c1_ B) (.s 0 (.s 2 (.s 3 .nil))) ?_);rintro r2 - h _ _ ⟨rfl,rfl,hr4⟩;refine J5 (Ve 1 [(16,.bool (decide (r2≠0)))] 1 ?_);refine A.c h ?_ ?_<;>intro hb h
 ·refine J4 1 1 [(4,.slice none 0 0)] 1 ?_;obtain rfl:=Vo h;refine Uy 45 T58 59 ?_;exact Uh [(0,45)] ⟨none,0,rfl,rfl⟩
 refine Jz 3 ?_;refine A.AL.mkm 46 D78 (fun x:D78=>(A.raj x)) A.ti false fun b5=>?_;refine J3 1 [(5,.map (some b5))] 3 ?_;refine Ve 3 [(18,.slice A2_ L.length c3_),(19,A.i (L.length:Int)),(20,A.i 0)] 2 ?_;refine V5 [2,5,18,19] l5k (fun f N U=>∃(W:List (D78×Int))(I:Int),N=[(20,A.i I)]/\U=[(46,.mp D78 (fun x:D78=>(A.raj x)) A.ti false b5 W)]/\A.h6 I/\F.s B L f W I=some r) ⟨[],0,rfl,rfl,Vb,h⟩ ?_;rintro f9 _ _ ⟨W,I,rfl,rfl,aw,h⟩;rcases f9 with _|f9
 ·exact V0 h
 rw[F.s]at h;refine V1 1 1 [(21,.bool (decide (I<(L.length:Int))))] 2 h ?_ ?_<;>intro hb h
 ·refine Uc 2 ?_;refine J7 [2,5,18,19,20] l5k (fun N U=>∃(a7:List (D78×Int)),N=[]/\U=[(46,.mp D78 (fun x:D78=>(A.raj x)) A.ti false b5 a7)]/\F.bV (F.s B L f9) I a7=some r) ?_ ?_
  ·refine Jz 2 ?_;have⟨p,an,h⟩:=Us h;refine A.AL.ixl 1 743 an fun a4=>?_;intro ax ay;refine J9 [] [743] [.e 0 0] [(23,(A.rak p))] (Jw 744 (cs:=l5f) Tryz.zeroValue59 fun ac=>?_);refine Vw 744 [] (A.rag p) ?_;refine Vr 2 ?_;refine J9 [4,744] [] [.b 0 0,.n,.b 1 0] [(25,.agg #[.slice A0_ B.length c1_]),(27,A.i p.1)] (Vx 745 [] h (o_bm A0_ c1_ B p.1 a4.1) (.s 0 .nil) ?_);rintro J - h _ _ ⟨a8,a9,rfl,rfl,hr21,hr22,hr25,hr26,hr27,hr28,hr29,hr30⟩;refine J5 (V6 3 [(29,(A.rai J.1 a8 a9)),(30,.bool J.2)] (Jw 785 (cs:=l5a) Tryz.zeroValue49 fun az=>?_));refine Vw 785 [] (A.rae J.1 a8 a9) ?_;refine Ve 1 [(9,.bool J.2)] 2 ?_;refine J7 [2,5,7,8,18,19,20] [0,1,2,3,4,46,744,745,785] (fun N U=>∃(aa:Bool),N=[(45,.bool aa)]/\U=[]/\F.ba (F.s B L f9) W I p J aa=some r) ?_ ?_
   ·refine Ub 0 3 [(33,.bool (!J.2))] ?_;refine Ue (j:=33) rfl h (fun h=>?_) (fun h=>?_)
    ·refine J9 [] [] [.off,.off,.off,.off,.n,.n,.off,.off,.off,.off,.off,.n] [(45,.bool true)] (Ju ?_);exact Vz ⟨true,rfl,rfl,h⟩
    refine J9 [785] [] [.on .n,.on (.b 0 1)] [(35,A.i J.1.2.1)] (J2 (dj:=33) rfl rfl ?_);refine Vx 786 [] h (o_bn J.1.2.1 hr22) .nil ?_;rintro ao - h _ _ ⟨rfl,rfl⟩;refine J5 (J9 [] [] [.on .n,.n,.n] [(39,.bool (!ao))] (Ue (j:=39) rfl h (fun h=>?_) (fun h=>?_)))
    ·refine J9 [] [] [.off,.off,.off,.off,.off,.n] [(45,.bool true)] (Ju ?_);exact Vz ⟨true,rfl,rfl,h⟩
    refine J9 [785,744] [] [.on (.b 0 0),.on (.b 1 0)] [(40,(A.rai J.1 a8 a9)),(41,(A.rak p))] (J2 (dj:=39) rfl rfl ?_);refine V7 826 (ty:=T58) (cs:=(A.rag p)) [p] ⟨⟨⟨rfl,a4.1⟩,⟨rfl,a4.2.1⟩,⟨rfl,a4.2.2.1⟩,⟨rfl,a4.2.2.2⟩⟩,rfl⟩ (fun ap=>?_) Tryz.zeroValue59 Tryz.sizeOf59
    refine J2 (dj:=39) rfl rfl ?_;refine Vx 827 [] h (o_aF a8 (some ⟨ap,0,none⟩) a9 1 J.1 [p] hr21 hr22 hr25 hr26 hr27 hr28 hr29 hr30) (.s 745 (.o 826 (.s 2 (.s 3 .nil)))) ?_;rintro ad - h _ _ ⟨rfl,rfl,hr45⟩;refine J5 (J9 [] [] [.on .n,.n] [(45,.bool (decide (ad≠0)))] (Ju ?_));exact Vz ⟨(decide (ad≠0)),rfl,rfl,h⟩
   rintro _ _ ⟨aa,rfl,rfl,h⟩;rw[F.ba]at h;refine Up h ?_ ?_<;>intro hb h
   ·refine Vp 1 ?_;exact Vz ⟨W,rfl,rfl,h⟩
   refine Ud 3 [744] [] [.n,.b 0 0,.n,.b 0 1,.n,.b 0 2,.n,.n] [(53,.agg #[A.i p.1,A.i p.2.1,.string p.2.2.1])] ?_;refine Jw 867 (cs:=l5g) Tryz.zeroValue79 fun b0=>?_;refine Vw 867 [] [A.i p.1,A.i p.2.1,.string p.2.2.1] ?_;refine Uj 1 ?_;refine J7 [2,5,7,10,18,19,20] [0,1,2,3,4,46,867] (fun N U=>∃(a3:Int),N=[]/\U=[(744,.blk ac 59 [A.i p.1,A.i p.2.1,.string p.2.2.1,A.i a3])]/\A.h6 a3/\F.bA (F.s B L f9) W I p a3=some r) ?_ ?_
   ·refine Ug 1 [785] [] [.n,.b 0 1,.n] [(56,.bool (decide (J.1.2.1=11)))] 1 ?_;refine A.c h ?_ ?_<;>intro hb h
    ·refine V4 mixed 8 9 (A.mb 9 0) ?_;refine Vs Vj [] l5d [867,744] [] (A.mb 9 15) 5 [(0,.n),(2,.n),(3,.b 0 0),(1,.b 1 3)] [(59,.map (some b5)),(60,.agg #[A.i p.1,A.i p.2.1,.string p.2.2.1]),(58,A.i p.2.2.2)] ?_;obtain⟨a5,ag,h⟩:=Vu h;refine A.okm (t:=A.ti) 46 (p.1,(p.2.1,p.2.2.1)) (z:=(0:Int)) (zs:=[A.i 0]) ⟨rfl,by decide⟩ ag fun b1=>?_;refine Uo Vj l5d l5d 4 (A.mb 9 31) rfl (fun a w hf hh=>Uv (t:=A.ti) (ok:=false) (z:=(0:Int)) (zs:=[A.i 0]) 46 ky79 (p.1,(p.2.1,p.2.2.1)) Tryz.zeroValue2 ⟨rfl,by decide⟩ ag rfl hf hh) ?_;have⟨ah,h⟩:=V3 h;refine A.AH.q Vj l5d l5d [] [] (A.mb 9 255) 1 [(5,.n),(6,.n),(7,.n)] [63,64] [Z.R64 (p.2.2.2+a5)] [(63,A.i (min 1099511627776 (p.2.2.2+a5))),(64,.pointer (some ⟨ac,3,none⟩))] ah ?_;refine J6 8 ?_;refine Vm 744 [] (new:=[A.i (min 1099511627776 (p.2.2.2+a5))]) (cs':=[A.i p.1,A.i p.2.1,.string p.2.2.1,A.i (min 1099511627776 (p.2.2.2+a5))]) ?_;refine A.AH.nm (A.mb 9 511) ?_;refine Va ?_;exact Vz ⟨(min 1099511627776 (p.2.2.2+a5)),rfl,rfl,(A.has_min (Vg 1099511627776) (J0 ah)),h⟩
    refine Vp 1 ?_;exact Vz ⟨p.2.2.2,rfl,rfl,a4.2.2.2,h⟩
   rintro _ _ ⟨a3,rfl,rfl,aq,h⟩;rw[F.bA]at h;refine Ud 0 [867,744] [] [.n,.b 0 0,.n,.b 1 3] [(65,.map (some b5)),(66,.agg #[A.i p.1,A.i p.2.1,.string p.2.2.1]),(68,A.i a3)] ?_;refine A.AL.mup (t:=A.ti) 46 [] (cs:=[A.i a3]) (u:=a3) ky79 (p.1,(p.2.1,p.2.2.1)) ⟨rfl,aq⟩ ?_;refine A.de 1 ?_;exact Vz ⟨(Z.mins W (p.1,(p.2.1,p.2.2.1)) a3),rfl,rfl,h⟩
  rintro _ _ ⟨a7,rfl,rfl,h⟩;rw[F.bV]at h;refine Jz 0 ?_;have⟨aj,h⟩:=V3 h;refine Uf 2 [Z.R64 (I+1)] [(20,A.i (I+1))] aj (Ju ?_);exact Vz ⟨_,Qy _,⟨a7,(I+1),rfl,rfl,(J0 aj),h⟩⟩
 refine Jz 3 ?_;refine J3 1 [(11,.slice none 0 0)] 3 ?_;refine V6 1 [(70,.map (some b5))] (A.AL.rgm 46 868 fun ar=>?_);refine Uj 2 ?_;refine Uy 961 T58 59 ?_;refine V5 [71] [2,3,46] (fun f N U=>∃(a6:List Nat)(E:List D58)(la65:Option (Value×Value))(Y:Option Addr)(a2:Nat),N=[(11,.slice Y E.length a2)]/\U=[(868,.mit 46 ar b5 W.length a6 la65),(961,.own T58 59 Y a2 E)]/\F.ae W f a6 E=some r) ⟨[],[],none,none,0,rfl,rfl,h⟩ ?_;rintro ak _ _ ⟨a6,E,la65,Y,a2,rfl,rfl,h⟩;rcases ak with _|ak
 ·exact V0 h
 rw[F.ae]at h;refine Jz 1 ?_;obtain⟨hend84,hev85⟩:=A.dem_some h;refine A.AL.nxm 46 868 1088 (fun hall=>?_) (fun ab y hp75 hs76 au=>?_)
 ·replace h:=hend84 hall
  refine Ve 1 [(73,.bool false)] 2 ?_;refine J1 rfl ?_;refine Ub 3 1 [(92,.slice Y E.length a2)] ?_;refine Vx 1048 [] h (o_h Y a2 E) (.m 961 .nil) ?_;rintro av - h _ _ ⟨rfl,rfl,hr72⟩;refine J5 (V8 1048 961 [] ?_);refine Vr 2 ?_;refine Ve 2 [(4,.slice Y E.length a2)] 1 ?_;obtain rfl:=Vo h;refine A.cst 4 (Z.slice_n (show E.length=av.length from(Eq.symm hr72))) ?_;exact Uh [(0,961)] ⟨Y,a2,rfl,rfl⟩
 have h:=hev85 ab y hp75 hs76
 have⟨hkc78,h⟩:=V3 h;refine Ve 1 [(73,.bool true)] 2 ?_;refine Jy rfl ?_;refine Jz 4 ?_;refine A.AL.ent 868 ?_;refine V6 2 [(75,(A.raj y.1)),(76,A.i y.2)] (Jw 1089 (cs:=l5g) Tryz.zeroValue79 fun b2=>?_);refine Vw 1089 [] (A.raf y.1) ?_;refine J3 1 [(13,A.i y.2)] 2 ?_;refine Ve 2 [(78,.bool (decide (y.2≠0)))] 1 ?_;refine A.c h ?_ ?_<;>intro hb h
 ·refine Ud 0 [1089] [] [.n,.n,.b 0 0,.n,.n,.b 0 1,.n,.n,.b 0 2,.n,.n] [(79,.slice Y E.length a2),(89,.agg #[A.i y.1.1,A.i y.1.2.1,.string y.1.2.2,A.i y.2])] ?_;refine V7 1090 (ty:=T58) (cs:=[A.i y.1.1,A.i y.1.2.1,.string y.1.2.2,A.i y.2]) [(y.1.1,y.1.2.1,y.1.2.2,y.2)] ⟨⟨⟨rfl,(Wa hkc78.1)⟩,⟨rfl,(Wa hkc78.2.1)⟩,⟨rfl,hkc78.2.2⟩,⟨rfl,au⟩⟩,rfl⟩ (fun b3=>?_) Tryz.zeroValue59 Tryz.sizeOf59
  have⟨hl83,h⟩:=V3 h;refine V9 (k:=961) [] (Uu (k:=1090) rfl) inf59 hl83 fun al am=>?_;refine V6 1 [(11,.slice al ((E++[(y.1.1,y.1.2.1,y.1.2.2,y.2)]).length) am)] (A.de 1 ?_);exact Vz ⟨_,Qy _,⟨(ab::a6),(E++[(y.1.1,y.1.2.1,y.1.2.2,y.2)]),(some ((A.raj y.1),A.i y.2)),al,am,rfl,rfl,h⟩⟩
 refine Vp 2 ?_;exact Vz ⟨_,Qy _,⟨(ab::a6),E,(some ((A.raj y.1),A.i y.2)),Y,a2,rfl,rfl,h⟩⟩
def F.ch (h:D23)(k:Int):Nat->Int->Option Int
 |0,_=>none
 |f+1,e=>if e<(h.length:Int)then((A.ix h e).bind fun o=>(if o.1=k then(some e)else(A.gd (Z.R64 (e+1)) ((F.ch h k f) (e+1)))))else(some (-1))
def F.ci (e:D23)(h:Int):Option Int:=F.ch e h A.FU 0
def F.de (h:Int->Option (Int×Bool))(k:D23)(e:Int)(o:Bool):Option (Int×Bool):=if o=true then((A.ix k e).bind fun p=>(some (p.1,true)))else(A.gd (Z.R64 (e+1)) (h (e+1)))
def F.bW (e:D23)(k:Int)(o:ByteArray):Nat->Int->Option (Int×Bool)
 |0,_=>none
 |f+1,h=>if h<(e.length:Int)then((A.ix e h).bind fun p=>(if p.2.1=k then((A.ix e h).bind fun s=>(F.de (F.bW e k o f) e h (decide (s.2.2.2.2.1=o))))else(F.de (F.bW e k o f) e h false)))else(some (0,false))
def F.dT (e:D23)(h:Int)(k:ByteArray):Option (Int×Bool):=F.bW e h k A.FU 0
def F.dc (e:UInt8):Option Bool:=if(bif decide ((97:Int)<=(e.toNat:Int))then decide ((e.toNat:Int)<=122)else false)=true then(some true)else(some (bif decide ((65:Int)<=(e.toNat:Int))then decide ((e.toNat:Int)<=90)else false))
def F.dF (e:UInt8):Option Bool:=some (bif decide ((48:Int)<=(e.toNat:Int))then decide ((e.toNat:Int)<=57)else false)
end Go.Proofs.YtligcbdjiolamaaGreatDoor
end
section
namespace Go.A
open Go.RowKit Go.Z
def sub (a k:Nat):Bool:=Nat.beq (a&&& k) a
theorem sub_iff {a k:Nat}:sub a k=true↔∀i,a.testBit i=true->k.testBit i=true:=by
 unfold sub
 constructor
 ·intro h i hi
  have h:=Qk h
  rw[<-h,Nat.testBit_and,Qf]at hi
  exact hi.2
 ·intro h
  have:a&&& k=a:=Nat.eq_of_testBit_eq fun i=>by
   rw[Nat.testBit_and]
   cases ha:a.testBit i with
   |false=>rfl
   |true=>rw[h i ha];rfl
  rw[this];exact Y5 a
theorem mb_get: ∀(n k i:Nat),i<n->(mb n k)[i]?=some (k.testBit i)
 |0,_,_,h=>absurd h (Nat.not_lt_zero _)
 |n+1,k,0,_=>by
  rw[mb,Wp,Nat.testBit_zero]
  congr 1
  rcases Xv k with h|h<;>rw[h]<;>rfl
 |n+1,k,i+1,h=>by
  rw[mb,W9,mb_get n (k / 2) i (by omega),Nat.testBit_succ]
theorem mb_len: ∀n k,(mb n k).length=n
 |0,_=>rfl
 |n+1,k=>by rw[mb,Ql,mb_len n]
theorem Qkx {n k i:Nat}{b:Bool}(h:i<n):(mb n k).toArray.getD i b=k.testBit i:=by
 rw[Q5,Xg,mb_get n k i h];rfl
theorem mb_getD_ge {n k i:Nat}{b:Bool}(h:n<=i):(mb n k).toArray.getD i b=b:=by
 rw[Q5,Xg,Wx (by rw[mb_len];exact h)];rfl
def Qkg (n:Nat):List Edge->Nat
 | []=>0
 |e::r=>bif Region.binds .any e then(1<<<(min e.on n))|||Qkg n r else Qkg n r
theorem Qjf {n k:Nat}(hk:k.testBit n=false): ∀l:List Edge,sub (Qkg n l) k=true↔∀e∈l,Region.binds .any e=true->e.on<n/\k.testBit e.on=true
 | []=>by rw[sub_iff];simp[Qkg]
 |e::r=>by
  have ih:=Qjf hk r
  rw[sub_iff]at ih ⊢
  unfold Qkg
  cases hb:Region.binds .any e with
  |false=>
   rw[cond_false,ih]
   constructor
   ·intro h x hx hbx
    rcases Qj.1 hx with rfl|hx
    ·rw[hb]at hbx;cases hbx
    ·exact h x hx hbx
   ·intro h x hx;exact h x (Qe _ hx)
  |true=>
   rw[cond_true]
   constructor
   ·intro h
    have h1:=ih.1 fun i hi=>h i (by rw[Nat.testBit_or,hi,Bool.or_true])
    intro x hx hbx
    rcases Qj.1 hx with rfl|hx
    ·have h2:=h (min x.on n) (by rw[Nat.testBit_or,Nat.one_shiftLeft,Nat.testBit_two_pow_self,Bool.true_or])
     by_cases hl:x.on<n
     ·rw[X5 (Xt hl)]at h2;exact⟨hl,h2⟩
     ·rw[Nat.min_eq_right (Y4 hl),hk]at h2;cases h2
    ·exact h1 x hx hbx
   ·intro h i hi
    rw[Nat.testBit_or,Xo]at hi
    rcases hi with hi|hi
    ·rw[Nat.one_shiftLeft,Nat.testBit_two_pow]at hi
     have:=Wa hi
     obtain⟨h1,h2⟩:=h e (Qg ..) hb
     rw[X5 (Xt h1)]at this
     rw[<-this];exact h2
    ·exact ih.2 (fun x hx=>h x (Qe _ hx)) i hi
def waits (ops:List Oper):List Nat:=ops.map fun o=>Qkg ops.length o.after.toList
def rdyF:List Nat->Nat->Nat->List Nat
 | [],_,_=>[]
 |a::ws,k,i=>bif !(k.testBit i)&&sub a k then i::rdyF ws k (i+1)else rdyF ws k (i+1)
theorem Qff {k:Nat}: ∀(ws:List Nat) (i:Nat),rdyF ws k i=((List.range ws.length).filter fun m=> !(k.testBit (i+m))&&((ws[m]?).map fun a=>sub a k).getD false).map (i+ ·)
 | [],i=>rfl
 |a::ws,i=>by
  rw[rdyF,Qff ws (i+1),Ql,List.range_succ_eq_map,X2,List.filter_map,Wp,Wo,Ys,Jr]
  have e:(List.filter (fun m=> !(k.testBit (i+1+m))&&((ws[m]?).map fun a=>sub a k).getD false) (List.range ws.length)).map (i+1+ ·)=
    ((List.filter ((fun m=> !(k.testBit (i+m))&&(((a::ws)[m]?).map fun a=>sub a k).getD false)∘Nat.succ) (List.range ws.length)).map Nat.succ).map (i+ ·):=by
   rw[Js]
   have h1:((fun m=> !(k.testBit (i+m))&&(((a::ws)[m]?).map fun a=>sub a k).getD false)∘Nat.succ)=fun m=> !(k.testBit (i+1+m))&&((ws[m]?).map fun a=>sub a k).getD false:=by
    funext m
    simp only[Function.comp_apply,Nat.succ_eq_add_one,W9]
    rw[show i+(m+1)=i+1+m by omega]
   rw[h1]
   congr 1
   funext m
   simp only[Function.comp_apply,Nat.succ_eq_add_one];omega
  rw[e]
  cases (!(k.testBit i)&&sub a k)<;>simp
theorem after_all {n k:Nat}(hk:k.testBit n=false)(o:Oper):(o.after.all fun e=> !Region.binds .any e||(mb n k).toArray.getD e.on false)=sub (Qkg n o.after.toList) k:=by
 rw[Y9,Qjf hk,Array.all_eq_true_iff_forall_mem]
 constructor
 ·intro h e he hb
  have:=h e (Array.mem_toList_iff.1 he)
  rw[hb,Xm,Xz]at this
  by_cases hl:e.on<n
  ·rw[Qkx hl]at this;exact⟨hl,this⟩
  ·rw[mb_getD_ge (Y4 hl)]at this;cases this
 ·intro h e he
  cases hb:Region.binds .any e with
  |false=>rfl
  |true=>
   obtain⟨h1,h2⟩:=h e (Array.mem_toList_iff.2 he) hb
   rw[Xm,Xz,Qkx h1];exact h2
theorem ready_eq {ops:List Oper}{n k:Nat}{ws:List Nat}(hw:waits ops=ws)(hn:ops.length=n)(hk:k.testBit n=false):Region.ready .any ops.toArray (mb n k).toArray=rdyF ws k 0:=by
 subst hw;subst hn
 rw[Qff]
 unfold Region.ready waits
 rw[Wd,Yd]
 have: ∀(p:Nat->Bool),(List.filter p (List.range ops.length)).map (0+ ·)=List.filter p (List.range ops.length):=fun p=>by
  rw[show(fun x:Nat=>0+x)=id from funext fun x=>Ww x,List.map_id]
 rw[this]
 refine List.filter_congr fun i hi=>?_
 have hi:=Jg.1 hi
 rw[Qkx hi,Ww,Xg,Q1,Qi hi]
 simp only[Wo,Ys]
 rw[after_all hk]
def maskL:List Nat->Nat
 | []=>0
 |j::r=>(1<<<j)|||maskL r
def badB (ops:Array Oper)(i:Nat)(oi:Oper)(j:Nat):Bool:= !(j==i||match ops[j]? with
 |some oj=>oj.after.any (fun e=>Region.binds .any e&&e.on==i)||oi.apart ops oj
 |none=>true)
def bads (ops:List Oper):List Nat:=(List.range ops.length).map fun i=>match ops[i]? with
 |some oi=>maskL ((List.range ops.length).filter (badB ops.toArray i oi))
 |none=>0
structure Tabs (lo:List Oper) (n:Nat) (ws bs:List Nat):Prop where
 len:lo.length=n
 w:waits lo=ws
 b:bads lo=bs
 ns:(Region.noSelect lo.toArray&&Qby lo.toArray)=true
section
variable {r:Option Nat}{P:Program}{lo:List Oper}{Q:Exit->Act->World->Prop}{C:Cx}{l:List (Nat×Value)}{H Hq:List (Nat×Res)}{m n:Nat}{ws bs:List Nat}
end
end Go.A
end
section
namespace Go.Proofs.YtligcbdjiolamaaGreatDoor
open Go.RowKit
def F.c0 (h:Int->Option Bool)(e:Int)(k:Bool):Option Bool:=if k=true then(some false)else(A.gd (Z.R64 (e+1)) (h (e+1)))
def F.bL (e:ByteArray):Nat->Int->Option Bool
 |0,_=>none
 |f+1,h=>if h<(e.size:Int)then((A.ix e.data.toList h).bind fun k=>((F.dc k).bind fun o=>(if(!o)=true then((A.ix e.data.toList h).bind fun p=>((F.dF p).bind fun s=>(F.c0 (F.bL e f) h (!s))))else(F.c0 (F.bL e f) h false))))else(some true)
def F.cz (e:ByteArray)(h:Bool):Option Bool:=if h=true then(some false)else(F.bL e A.FU 0)
def F.dP (e:ByteArray):Option Bool:=if(bif decide (e=(ByteArray.mk #[]))then true else decide ((16:Int)<(e.size:Int)))=true then(F.cz e true)else((A.ix e.data.toList 0).bind fun h=>((F.dc h).bind fun k=>(F.cz e (!k))))
def F.cZ (e:Int):Option Int:=if(bif decide (e<1)then true else decide ((16:Int)<e))=true then(some (-1))else(if e=1 then(some 0)else(if(bif decide (e=5)then true else decide (e=9))=true then(some 2)else(some 1)))
def F.cP (h:D23)(e:D48):Option Bool:=if(bif decide (e.2.1≠1)then decide (e.2.1≠15)else false)=true then(some (decide (e.2.2.2.2.1=(ByteArray.mk #[]))))else((F.dT h e.2.1 e.2.2.2.2.1).bind fun k=>((F.dP e.2.2.2.2.1).bind fun o=>(some (bif o then decide (k.1=e.1)else false))))
theorem eqq_R08_own_j1:True:=(fun _=>trivial) @F.cP.eq_1
def F.aP (h:D23)(e:D48)(k:Bool):Option Bool:=if k=true then(some false)else(if e.2.1=14 then(if(bif bif bif decide (e.2.2.2.2.2.1<1)then true else decide ((8:Int)<e.2.2.2.2.2.1)then true else decide (e.2.2.2.2.2.2<1)then true else decide ((4:Int)<e.2.2.2.2.2.2))=true then(some false)else(F.cP h e))else(if(bif decide (e.2.2.2.2.2.1≠0)then true else decide (e.2.2.2.2.2.2≠0))=true then(some false)else(F.cP h e)))
theorem eqq_R08_own_j2:True:=(fun _=>trivial) @F.aP.eq_1
def F.dN (h:D23)(k:Int):Option Bool:=(A.ix h k).bind fun e=>(if(bif decide (e.1<1)then true else decide ((255:Int)<e.1))=true then(F.aP h e true)else(if(0:Int)<k then(A.gd (Z.R64 (k-1)) ((A.ix h (k-1)).bind fun o=>(if e.1<=o.1 then(F.aP h e true)else((F.cZ e.2.1).bind fun p=>(if p<0 then(F.aP h e true)else((F.cZ e.2.1).bind fun s=>(F.aP h e (decide ((e.2.2.1.length:Int)≠s)))))))))else((F.cZ e.2.1).bind fun t=>(if t<0 then(F.aP h e true)else((F.cZ e.2.1).bind fun u=>(F.aP h e (decide ((e.2.2.1.length:Int)≠u))))))))
theorem eqq_R08_own:True:=(fun _=>trivial) @F.dN.eq_1
def F.dO (k:Int):Nat->(List Int)->Int->Option (List Int)
 |0,_,_=>none
 |f+1,h,e=>if e<=k then(A.gd ((List.length (α:=Int) h+List.length (α:=Int) [e])*8<=140737488355328) (A.gd (Z.R64 (e+1)) ((F.dO k f) (h++[e]) (e+1))))else(some h)
def F.bM (e:Int)(h:Int):Option (List Int):=F.dO h A.FU [] e
def F.cj (e:Int):Option (List Int):=if e=2 then(F.bM 1 8)else(if e=3 then(F.bM 11 13)else(if e=4 then(F.bM 21 22)else(if e=8 then(F.bM 31 34)else(if e=11 then(F.bM 41 42)else(F.bM 1 0)))))
def F.dC (e:D46)(h:Bool):Option Bool:=if h=true then(some (bif decide ((1:Int)<=e.2.1)then decide (e.2.1<=1048576)else false))else(some (decide (e.2.1=0)))
def F.dD (e:D46)(h:Bool):Option Bool:=if h=true then(some (bif decide ((0:Int)<=e.2.1)then decide (e.2.1<=64)else false))else(if e.1=6 then(F.dC e (decide (e.1=6)))else(F.dC e (decide (e.1=11))))
def F.dR (e:D46):Option Bool:=if e.1=3 then(F.dD e (decide (e.1=3)))else(F.dD e (decide (e.1=13)))
def F.ck (e:UInt8):Option Bool:=some (bif decide ((128:Int)<=(e.toNat:Int))then decide ((e.toNat:Int)<=191)else false)
def F.bB (e:UInt8)(h:UInt8)(k:Bool):Option Int:=if k=true then(if(bif decide ((e.toNat:Int)=240)then decide ((h.toNat:Int)<144)else false)=true then(some 0)else(if(bif decide ((e.toNat:Int)=244)then decide ((143:Int)<(h.toNat:Int))else false)=true then(some 0)else(some 4)))else(some 0)
theorem eqq_R05_width_j1:True:=(fun _=>trivial) @F.bB.eq_1
def F.bX (o:ByteArray)(k:Int)(e:UInt8)(h:UInt8)(p:Bool):Option Int:=if p=true then(if(bif decide ((e.toNat:Int)=224)then decide ((h.toNat:Int)<160)else false)=true then(some 0)else(if(bif decide ((e.toNat:Int)=237)then decide ((159:Int)<(h.toNat:Int))else false)=true then(some 0)else(some 3)))else(if(bif bif decide ((240:Int)<=(e.toNat:Int))then decide ((e.toNat:Int)<=244)else false then decide ((4:Int)<=(o.size:Int)-k)else false)=true then((F.ck h).bind fun s=>(if s=true then(A.gd (Z.R64 (k+2)) ((A.ix o.data.toList (k+2)).bind fun t=>((F.ck t).bind fun u=>(if u=true then(A.gd (Z.R64 (k+3)) ((A.ix o.data.toList (k+3)).bind fun x=>((F.ck x).bind fun y=>(F.bB e h y))))else(F.bB e h false)))))else(F.bB e h false)))else(F.bB e h false))
theorem eqq_R05_width_j2:True:=(fun _=>trivial) @F.bX.eq_1
def F.cl (h:ByteArray)(e:Int)(k:UInt8)(o:UInt8)(p:Bool):Option Int:=if p=true then(some 2)else(if(bif bif decide ((224:Int)<=(k.toNat:Int))then decide ((k.toNat:Int)<=239)else false then decide ((3:Int)<=(h.size:Int)-e)else false)=true then((F.ck o).bind fun s=>(if s=true then(A.gd (Z.R64 (e+2)) ((A.ix h.data.toList (e+2)).bind fun t=>((F.ck t).bind fun u=>(F.bX h e k o u))))else(F.bX h e k o false)))else(F.bX h e k o false))
theorem eqq_R05_width_j3:True:=(fun _=>trivial) @F.cl.eq_1
def F.cm (h:ByteArray)(k:Int)(e:UInt8)(o:UInt8):Option Int:=if(e.toNat:Int)<128 then(some 1)else(if(bif bif decide ((194:Int)<=(e.toNat:Int))then decide ((e.toNat:Int)<=223)else false then decide ((2:Int)<=(h.size:Int)-k)else false)=true then((F.ck o).bind fun p=>(F.cl h k e o p))else(F.cl h k e o false))
theorem eqq_R05_width_j4:True:=(fun _=>trivial) @F.cm.eq_1
def F.c6 (h:ByteArray)(e:Int):Option Int:=A.gd (Z.R64 ((h.size:Int)-e)) ((A.ix h.data.toList e).bind fun k=>(if(1:Int)<(h.size:Int)-e then(A.gd (Z.R64 (e+1)) ((A.ix h.data.toList (e+1)).bind fun o=>(F.cm h e k o)))else(F.cm h e k (0:UInt8))))
theorem eqq_R05_width:True:=(fun _=>trivial) @F.c6.eq_1
def F.cn (h:ByteArray):Nat->Int->Option Bool
 |0,_=>none
 |f+1,e=>if e<(h.size:Int)then((F.c6 h e).bind fun k=>(if k=0 then(some false)else(A.gd (Z.R64 (e+k)) ((F.cn h f) (e+k)))))else(some true)
def F.dG (e:ByteArray):Option Bool:=F.cn e A.FU 0
def F.bb (p:(List D183)->Int->Option (List D183))(h:List D183)(e:Int)(k:Int)(o:Int):Option (List D183):=A.gd ((List.length (α:=D183) h+List.length (α:=D183) [(e,o)])*16<=140737488355328) (A.gd (Z.R64 (e+k)) (p (h++[(e,o)]) (e+k)))
theorem eqq_R05_Runes_j1:True:=(fun _=>trivial) @F.bb.eq_1
def F.aA (h:ByteArray):Nat->(List D183)->Int->Option (List D183)
 |0,_,_=>none
 |f+1,o,e=>if e<(h.size:Int)then((F.c6 h e).bind fun k=>(if k=1 then((A.ix h.data.toList e).bind fun p=>(F.bb (F.aA h f) o e k (IntKind.i32.wrap ((p.toNat:Int)))))else(if k=2 then(A.gd (Z.R64 (e+1)) ((A.ix h.data.toList e).bind fun s=>(A.gd ((32:Int)≠0) ((A.ix h.data.toList (e+1)).bind fun t=>(A.gd ((64:Int)≠0) (F.bb (F.aA h f) o e k (IntKind.i32.wrap ((IntKind.i32.wrap ((IntKind.i32.wrap (Int.tmod (s.toNat:Int) 32))*64))+(IntKind.i32.wrap (Int.tmod (t.toNat:Int) 64))))))))))else(if k=3 then(A.gd (Z.R64 (e+1)/\Z.R64 (e+2)) ((A.ix h.data.toList e).bind fun u=>(A.gd ((16:Int)≠0) ((A.ix h.data.toList (e+1)).bind fun x=>(A.gd ((64:Int)≠0) ((A.ix h.data.toList (e+2)).bind fun y=>(A.gd ((64:Int)≠0) (F.bb (F.aA h f) o e k (IntKind.i32.wrap ((IntKind.i32.wrap ((IntKind.i32.wrap ((IntKind.i32.wrap ((IntKind.i32.wrap (Int.tmod (u.toNat:Int) 16))*64))+(IntKind.i32.wrap (Int.tmod (x.toNat:Int) 64))))*64))+(IntKind.i32.wrap (Int.tmod (y.toNat:Int) 64))))))))))))else(if k=4 then(A.gd (Z.R64 (e+1)/\Z.R64 (e+2)/\Z.R64 (e+3)) ((A.ix h.data.toList e).bind fun z=>(A.gd ((8:Int)≠0) ((A.ix h.data.toList (e+1)).bind fun B=>(A.gd ((64:Int)≠0) ((A.ix h.data.toList (e+2)).bind fun E=>(A.gd ((64:Int)≠0) ((A.ix h.data.toList (e+3)).bind fun I=>(A.gd ((64:Int)≠0) (F.bb (F.aA h f) o e k (IntKind.i32.wrap ((IntKind.i32.wrap ((IntKind.i32.wrap ((IntKind.i32.wrap ((IntKind.i32.wrap ((IntKind.i32.wrap ((IntKind.i32.wrap (Int.tmod (z.toNat:Int) 8))*64))+(IntKind.i32.wrap (Int.tmod (B.toNat:Int) 64))))*64))+(IntKind.i32.wrap (Int.tmod (E.toNat:Int) 64))))*64))+(IntKind.i32.wrap (Int.tmod (I.toNat:Int) 64))))))))))))))else(F.bb (F.aA h f) o e 1 65533))))))else(some o)
def F.dU (e:ByteArray):Option (List D183):=F.aA e A.FU [] 0
def F.dv (e:Bool):Option Bool:=some e
def F.c1 (e:Bool):Option Bool:=some e
def F.cA (e:D46)(h:Bool):Option Bool:=if h=true then(if(e.2.2.size:Int)<=4 then((F.dG e.2.2).bind fun k=>(if k=true then((F.dU e.2.2).bind fun o=>(F.c1 (decide ((o.length:Int)=1))))else(F.c1 false)))else(F.c1 false))else(some (decide (e.2.2=(ByteArray.mk #[]))))
theorem eqq_R06_text_j3:True:=(fun _=>trivial) @F.cA.eq_1
def F.dA (e:D46):Option Bool:=if e.1=5 then(if(bif decide ((1:Int)<=(e.2.2.size:Int))then decide ((e.2.2.size:Int)<=16)else false)=true then((F.dG e.2.2).bind fun h=>(F.dv h))else(F.dv false))else(if e.1=12 then(F.cA e (decide (e.1=12)))else(F.cA e (decide (e.1=22))))
theorem eqq_R06_text:True:=(fun _=>trivial) @F.dA.eq_1
def F.cQ (h:Int->Option Int)(e:Int)(k:Bool):Option Int:=if k=true then(some 0)else(A.gd (Z.R64 (e+1)) (h (e+1)))
def F.bc (e:D46)(h:(List Int)):Nat->Int->Option Int
 |0,_=>none
 |f+1,k=>if k<(h.length:Int)then((A.ix h k).bind fun o=>(if o=e.1 then((F.dR e).bind fun p=>(if p=true then((F.dA e).bind fun s=>(F.cQ (F.bc e h f) k s))else(F.cQ (F.bc e h f) k false)))else(F.cQ (F.bc e h f) k false)))else(some 60)
def F.bd (e:D46)(h:(List Int))(k:Bool):Option Int:=if k=true then(some 0)else(F.bc e h A.FU 0)
def F.dq (k:Int)(e:D46):Option Int:=(F.cj k).bind fun h=>(if(h.length:Int)=0 then(F.bd e h (decide (e=(0,0,ByteArray.mk #[]))))else(F.bd e h false))
def F.df (h:Int->Option Int)(e:Int)(k:Bool):Option Int:=if k=true then(some 80)else(A.gd (Z.R64 (e+1)) (h (e+1)))
def F.bY (o:Int->Option Int)(e:D23)(h:Int):Nat->Int->Option Int
 |0,_=>none
 |f+1,k=>(A.ix e h).bind fun s=>(if k<(s.2.2.1.length:Int)then((A.ix e h).bind fun t=>((A.ix t.2.2.1 k).bind fun u=>((F.ci e u).bind fun p=>(if p<0 then(F.df (F.bY o e h f) k true)else((A.ix e p).bind fun x=>(F.df (F.bY o e h f) k (decide (x.2.1=15))))))))else(A.gd (Z.R64 (h+1)) (o (h+1))))
def F.aB (e:D23):Nat->Int->Option Int
 |0,_=>none
 |f+1,h=>if h<(e.length:Int)then(F.bY (F.aB e f) e h A.FU 0)else(some 0)
def F.be (e:D23):Nat->Int->Option Int
 |0,_=>none
 |f+1,h=>if h<(e.length:Int)then((A.ix e h).bind fun k=>((A.ix e h).bind fun o=>((F.dq k.2.1 o.2.2.2.1).bind fun p=>(if p≠0 then(some 60)else(A.gd (Z.R64 (h+1)) ((F.be e f) (h+1)))))))else(F.aB e A.FU 0)
def F.bZ (e:D23):Nat->Int->Option Int
 |0,_=>none
 |f+1,h=>if h<(e.length:Int)then((F.dN e h).bind fun k=>(if(!k)=true then(some 80)else(A.gd (Z.R64 (h+1)) ((F.bZ e f) (h+1)))))else(F.be e A.FU 0)
def F.dH (e:D23):Option Int:=if(32:Int)<(e.length:Int)then(some 80)else(F.bZ e A.FU 0)
def F.dg (h:Int->Option Bool)(e:Int)(k:Bool):Option Bool:=if k=true then(some false)else(A.gd (Z.R64 (e+1)) (h (e+1)))
def F.b0 (k:D23)(e:D48)(o:(List Bool)):Nat->Int->Option Bool
 |0,_=>none
 |f+1,h=>if h<(e.2.2.1.length:Int)then(if e.2.1≠14 then((A.ix e.2.2.1 h).bind fun p=>((F.ci k p).bind fun s=>((A.ix o s).bind fun t=>(F.dg (F.b0 k e o f) h (!t)))))else(F.dg (F.b0 k e o f) h false))else(some true)
def F.dI (e:D23)(h:D48)(k:(List Bool)):Option Bool:=F.b0 e h k A.FU 0
def F.dh (h:Int->Int->Option ((List Int)×Bool))(e:Int)(k:Int):Option ((List Int)×Bool):=A.gd (Z.R64 (e+1)) (h k (e+1))
def F.cR (h:Int->Int->Option ((List Int)×Bool))(k:Int)(e:Int)(o:Bool):Option ((List Int)×Bool):=if o=true then(F.dh h e e)else(F.dh h e k)
def F.bf (s:(List Bool)->(List Int)->Option ((List Int)×Bool))(h:D23)(k:List Bool)(p:List Int):Nat->Int->Int->Option ((List Int)×Bool)
 |0,_,_=>none
 |f+1,e,o=>if(bif decide (o<(h.length:Int))then decide (o<(h.length:Int))else false)=true then(if e<0 then((A.ix k o).bind fun t=>(if(!t)=true then((A.ix h o).bind fun u=>((F.dI h u k).bind fun x=>(F.cR (F.bf s h k p f) e o x)))else(F.cR (F.bf s h k p f) e o false)))else(F.cR (F.bf s h k p f) e o false))else(if e<0 then(some ([],false))else((A.ix k e).bind fun y=>(A.gd ((List.length (α:=Int) p+List.length (α:=Int) [e])*8<=140737488355328) (s (k.set e.toNat true) (p++[e])))))
def F.co (e:D23):Nat->(List Bool)->(List Int)->Option ((List Int)×Bool)
 |0,_,_=>none
 |f+1,k,h=>if(h.length:Int)<(e.length:Int)then(F.bf (F.co e f) e k h A.FU (-1) 0)else(some (h,true))
def F.c7 (e:D23):Option ((List Int)×Bool):=A.gd (1*e.length<=140737488355328) (F.co e A.FU (List.replicate e.length (false:Bool)) [])
def F.di (e:Int):Option Int:=some e
def F.aC (e:Int):Option Int:=if(4:Int)<e then(F.di (-1))else(F.di e)
def F.cS (e:Int)(h:Bool):Option Int:=if h=true then(if e≠0 then(F.aC (-1))else(F.aC e))else(F.aC e)
def F.cp (e:D48)(k:(List Int))(h:Int)(o:Bool):Option Int:=if o=true then((A.ix k 0).bind fun p=>((A.ix k 1).bind fun s=>(if p≠s then(F.aC (-1))else(F.aC h))))else(if e.2.1=11 then(F.cS h (decide (e.2.1=11)))else(if e.2.1=16 then(F.cS h (decide (e.2.1=16)))else(F.cS h (decide (e.2.1=15)))))
theorem eqq_R08_depth_j4:True:=(fun _=>trivial) @F.cp.eq_1
def F.cq (e:D48)(k:(List Int))(h:Int):Option Int:=if e.2.1=14 then(F.aC e.2.2.2.2.2.2)else(if e.2.1=12 then(A.gd (Z.R64 (h+1)) (F.aC (h+1)))else(if e.2.1=13 then(A.gd (Z.R64 (h-1)) (F.aC (h-1)))else(if e.2.1=5 then(F.cp e k h (decide (e.2.1=5)))else(F.cp e k h (decide (e.2.1=9))))))
theorem eqq_R08_depth_j5:True:=(fun _=>trivial) @F.cq.eq_1
def F.dr (h:D48)(e:(List Int)):Option Int:=if(0:Int)<(e.length:Int)then((A.ix e 0).bind fun k=>(F.cq h e k))else(F.cq h e 0)
def F.bG (u:(List Int)->Int->Option ((List Int)×Bool))(x:D23)(p:(List Int))(e:List Int)(h:Int)(k:D48):Nat->(List Int)->Int->Option ((List Int)×Bool)
 |0,_,_=>none
 |f+1,s,o=>if o<(k.2.2.1.length:Int)then((A.ix k.2.2.1 o).bind fun B=>((F.ci x B).bind fun E=>((A.ix e E).bind fun y=>(A.gd ((List.length (α:=Int) s+List.length (α:=Int) [y])*8<=140737488355328) (A.gd (Z.R64 (o+1)) ((F.bG u x p e h k f) (s++[y]) (o+1)))))))else((A.ix p h).bind fun t=>((F.dr k s).bind fun z=>((A.ix e t).bind fun L=>((A.ix p h).bind fun I=>((A.ix (e.set t.toNat z) I).bind fun J=>(if J<0 then(some ([],false))else(A.gd (Z.R64 (h+1)) (u (e.set t.toNat z) (h+1)))))))))
def F.db (h:Int->Option ((List Int)×Bool))(e:Int)(k:Bool):Option ((List Int)×Bool):=if k=true then(some ([],false))else(A.gd (Z.R64 (e+1)) (h (e+1)))
def F.bs (e:D23)(h:List Int):Nat->Int->Option ((List Int)×Bool)
 |0,_=>none
 |f+1,k=>if k<(e.length:Int)then((A.ix e k).bind fun o=>(if o.2.1=14 then((A.ix o.2.2.1 0).bind fun p=>((F.ci e p).bind fun s=>((A.ix h s).bind fun t=>(F.db (F.bs e h f) k (decide (t≠o.2.2.2.2.2.2))))))else(F.db (F.bs e h f) k false)))else(some (h,true))
def F.b7 (e:D23)(h:(List Int)):Nat->(List Int)->Int->Option ((List Int)×Bool)
 |0,_,_=>none
 |f+1,o,k=>if k<(h.length:Int)then((A.ix h k).bind fun p=>((A.ix e p).bind fun s=>(F.bG (F.b7 e h f) e h o k s A.FU [] 0)))else(F.bs e o A.FU 0)
def F.cT (e:D23)(h:(List Int)):Option ((List Int)×Bool):=A.gd (8*e.length<=140737488355328) (F.b7 e h A.FU (List.replicate e.length (0:Int)) 0)
def F.dj (h:(List D131)->Int->Option (List D131))(e:Int)(k:List D131):Option (List D131):=A.gd (Z.R64 (e+1)) (h k (e+1))
def F.b1 (p:(List D131)->Int->Option (List D131))(t:D23)(s:(List Int))(o:Int)(e:D48):Nat->(List D131)->Int->Option (List D131)
 |0,_,_=>none
 |f+1,k,h=>if h<(e.2.2.1.length:Int)then((A.ix e.2.2.1 h).bind fun y=>((F.ci t y).bind fun z=>((A.ix s z).bind fun u=>(A.gd ((List.length (α:=D131) k+List.length (α:=D131) [((e.1,h),u)])*24<=140737488355328) (A.gd (Z.R64 (h+1)) ((F.b1 p t s o e f) (k++[((e.1,h),u)]) (h+1)))))))else(if e.2.1≠15 then((A.ix s o).bind fun x=>(A.gd ((List.length (α:=D131) k+List.length (α:=D131) [((e.1,2),x)])*24<=140737488355328) (F.dj p o (k++[((e.1,2),x)]))))else(F.dj p o k))
def F.cr (e:D23)(k:(List Int)):Nat->(List D131)->Int->Option (List D131)
 |0,_,_=>none
 |f+1,o,h=>if(bif decide (h<(e.length:Int))then decide (h<(k.length:Int))else false)=true then((A.ix e h).bind fun p=>(F.b1 (F.cr e k f) e k h p A.FU o 0))else(some o)
def F.dJ (e:D23)(h:(List Int)):Option (List D131):=F.cr e h A.FU [] 0
def F.cU (h:Int->Option Int)(e:Int)(k:Bool):Option Int:=if k=true then(some 20)else(A.gd (Z.R64 (e+1)) (h (e+1)))
def F.cs (e:D190):Nat->Int->Option Int
 |0,_=>none
 |f+1,h=>if h<4 then((A.ix [e.2.2.2.2.1,e.2.2.2.2.2.1,e.2.2.2.2.2.2.1,e.2.2.2.2.2.2.2] h).bind fun k=>(if k<0 then(F.cU (F.cs e f) h true)else((A.ix [e.2.2.2.2.1,e.2.2.2.2.2.1,e.2.2.2.2.2.2.1,e.2.2.2.2.2.2.2] h).bind fun o=>(if(1048576:Int)<o then(F.cU (F.cs e f) h true)else(if e.2.2.2.1<=h then((A.ix [e.2.2.2.2.1,e.2.2.2.2.2.1,e.2.2.2.2.2.2.1,e.2.2.2.2.2.2.2] h).bind fun p=>(F.cU (F.cs e f) h (decide (p≠0))))else(F.cU (F.cs e f) h false))))))else(some 0)
def F.dV (e:D190):Option Int:=A.gd (((bif bif bif bif bif decide (e.1<0)then true else decide ((4:Int)<e.1)then true else decide (e.2.2.2.1<0)then true else decide ((4:Int)<e.2.2.2.1)then true else decide (e.2.1<0)then true else decide (e.1<e.2.1))=false->Z.R64 (e.2.1+e.2.2.2.1))) (if(bif bif bif bif bif bif bif bif decide (e.1<0)then true else decide ((4:Int)<e.1)then true else decide (e.2.2.2.1<0)then true else decide ((4:Int)<e.2.2.2.1)then true else decide (e.2.1<0)then true else decide (e.1<e.2.1)then true else decide ((4:Int)<e.2.1+e.2.2.2.1)then true else decide (e.2.2.1<0)then true else decide ((1048576:Int)<e.2.2.1))=true then(some 20)else(if(bif decide (e.2.1=0)then decide (e.2.2.1≠0)else false)=true then(some 20)else(F.cs e A.FU 0)))
theorem eqq_R02_Check:True:=(fun _=>trivial) @F.dV.eq_1
def F.dB (e:Int)(h:Int)(k:Int)(o:Int):Option (D190×Int):=(F.dV (e,h,k,o,(0,0,0,0))).bind fun p=>(if p≠0 then(some ((0,0,0,0,(0,0,0,0)),11))else(some ((e,h,k,o,(0,0,0,0)),0)))
def F.dS (e:Int):Option (D190×Int):=(F.dB e e 0 0).bind fun h=>(some h)
def F.cE (h:D23)(o:Int):Option (D48×Bool):=(F.ci h o).bind fun k=>(if k<0 then(some ((0,0,[],(0,0,ByteArray.mk #[]),ByteArray.mk #[],0,0),false))else((A.ix h k).bind fun e=>(A.gd ((List.length (α:=Int) []+List.length (α:=Int) e.2.2.1)*8<=140737488355328) (some ((e.1,e.2.1,[]++e.2.2.1,e.2.2.2.1,e.2.2.2.2.1,e.2.2.2.2.2.1,e.2.2.2.2.2.2),true)))))
theorem eqq_R08_Find:True:=(fun _=>trivial) @F.cE.eq_1
def F.dK (e:Int):Option (D190×Int):=(F.dB e e 0 1).bind fun h=>(some h)
def F.ds (e:Int):Option (D190×Int):=if e<1 then(some ((0,0,0,0,(0,0,0,0)),11))else(A.gd (Z.R64 (e-1)) ((F.dB e (e-1) 0 0).bind fun h=>(some h)))
theorem eqq_R02_Leave:True:=(fun _=>trivial) @F.ds.eq_1
def F.dQ (e:Int):Option (D190×Int):=(F.dB e e 1 0).bind fun h=>(some h)
def F.b8 (e:Int)(h:Int)(k:Int)(o:Int)(p:Int)(s:Int)(t:Int)(u:Int):Option D190:=some (e,h,k,o,(p,s,t,u))
def F.cV (s:D48)(p:Int):Option D190:=(F.dS p).bind fun e=>(if s.2.1=12 then((F.dK p).bind fun h=>(F.b8 h.1.1 h.1.2.1 h.1.2.2.1 h.1.2.2.2.1 h.1.2.2.2.2.1 h.1.2.2.2.2.2.1 h.1.2.2.2.2.2.2.1 h.1.2.2.2.2.2.2.2))else(if s.2.1=13 then((F.ds p).bind fun k=>(F.b8 k.1.1 k.1.2.1 k.1.2.2.1 k.1.2.2.2.1 k.1.2.2.2.2.1 k.1.2.2.2.2.2.1 k.1.2.2.2.2.2.2.1 k.1.2.2.2.2.2.2.2))else(if s.2.1=14 then((F.dQ p).bind fun o=>(F.b8 o.1.1 o.1.2.1 o.1.2.2.1 o.1.2.2.2.1 o.1.2.2.2.2.1 o.1.2.2.2.2.2.1 o.1.2.2.2.2.2.2.1 o.1.2.2.2.2.2.2.2))else(F.b8 e.1.1 e.1.2.1 e.1.2.2.1 e.1.2.2.2.1 e.1.2.2.2.2.1 e.1.2.2.2.2.2.1 e.1.2.2.2.2.2.2.1 e.1.2.2.2.2.2.2.2))))
theorem eqq_R08_within:True:=(fun _=>trivial) @F.cV.eq_1
def F.cW (h:(List D193)->Int->Option (List D193))(e:Int)(k:List D193):Option (List D193):=A.gd (Z.R64 (e+1)) (h k (e+1))
def F.dk (e:(List D193)->Int->Option (List D193))(h:Int)(k:List D193):Option (List D193):=F.cW e h k
def F.dl (h:(List D193)->Int->Option (List D193))(e:Int)(k:List D193):Option (List D193):=A.gd (Z.R64 (e+1)) (h k (e+1))
def F.bC (t:(List D193)->Int->Option (List D193))(k:D23)(o:D131)(u:D48×Bool)(p:D190×Int)(e:Int):Nat->(List D193)->Int->Option (List D193)
 |0,_,_=>none
 |f+1,s,h=>(A.ix k e).bind fun y=>(if h<(y.2.2.1.length:Int)then((A.ix k e).bind fun z=>((A.ix z.2.2.1 h).bind fun B=>(if B=u.1.1 then((A.ix k e).bind fun x=>(A.gd ((List.length (α:=D193) s+List.length (α:=D193) [(o.1,(x.1,h),p.1)])*96<=140737488355328) (F.dl (F.bC t k o u p e f) h (s++[(o.1,(x.1,h),p.1)]))))else(F.dl (F.bC t k o u p e f) h s))))else(A.gd (Z.R64 (e+1)) (t s (e+1))))
def F.b2 (h:(List D193)->Int->Option (List D193))(e:D23)(k:Int)(o:D131)(p:D48×Bool)(s:D190×Int):Nat->(List D193)->Int->Option (List D193)
 |0,_,_=>none
 |f+1,t,u=>if u<(e.length:Int)then(F.bC (F.b2 h e k o p s f) e o p s u A.FU t 0)else(F.cW h k t)
def F.bD (k:D23)(e:(List D131)):Nat->(List D193)->Int->Option (List D193)
 |0,_,_=>none
 |f+1,o,h=>if h<(e.length:Int)then((A.ix e h).bind fun p=>((F.cE k p.1.1).bind fun s=>(if p.1.2≠2 then(if s.1.2.1≠15 then((A.ix e h).bind fun u=>((F.cV s.1 u.2).bind fun t=>(A.gd ((List.length (α:=D193) o+List.length (α:=D193) [(p.1,(s.1.1,2),t)])*96<=140737488355328) (F.dk (F.bD k e f) h (o++[(p.1,(s.1.1,2),t)])))))else(F.dk (F.bD k e f) h o))else((A.ix e h).bind fun x=>((F.dS x.2).bind fun y=>(F.b2 (F.bD k e f) k h p s y A.FU o 0))))))else(some o)
def F.dt (e:D23)(h:(List D131)):Option (List D193):=F.bD e h A.FU [] 0
def F.c8 (h:(List D131))(k:D129):Nat->Int->Option Int
 |0,_=>none
 |f+1,e=>if e<(h.length:Int)then((A.ix h e).bind fun o=>(if o.1=k then((A.ix h e).bind fun p=>(some p.2))else(A.gd (Z.R64 (e+1)) ((F.c8 h k f) (e+1)))))else(some (-1))
def F.dX (e:(List D131))(h:D129):Option Int:=F.c8 e h A.FU 0
def F.dm (o:D23)(p:(List D131))(e:D193)(h:Int):Option Bool:=(F.cE o e.1.1).bind fun k=>((F.dX p e.2.1).bind fun s=>(if h<=s then(some (bif bif decide (k.1.2.1≠14)then true else decide (k.1.2.2.2.2.2.2≠h)then true else decide (e.1.2=2)))else(some false)))
theorem eqq_R08_open:True:=(fun _=>trivial) @F.dm.eq_1
def F.c9 (h:(List D129))(k:D129):Nat->Int->Option Bool
 |0,_=>none
 |f+1,e=>if e<(h.length:Int)then((A.ix h e).bind fun o=>(if o=k then(some true)else(A.gd (Z.R64 (e+1)) ((F.c9 h k f) (e+1)))))else(some false)
def F.dL (e:(List D129))(h:D129):Option Bool:=F.c9 e h A.FU 0
def F.dn (h:(List D129)->(List D129)->Int->Option Bool)(e:Int)(k:List D129)(o:List D129):Option Bool:=A.gd (Z.R64 (e+1)) (h k o (e+1))
def F.ct (o:(List D129)->(List D129)->Int->Option Bool)(p:(List D193))(h:List D129)(k:List D129)(e:Int)(u:Bool):Option Bool:=if u=true then((A.ix p e).bind fun s=>(A.gd ((List.length (α:=D129) h+List.length (α:=D129) [s.2.1])*16<=140737488355328) ((A.ix p e).bind fun t=>(A.gd ((List.length (α:=D129) k+List.length (α:=D129) [t.2.1])*16<=140737488355328) (F.dn o e (h++[s.2.1]) (k++[t.2.1]))))))else(F.dn o e h k)
theorem eqq_R08_round_j2:True:=(fun _=>trivial) @F.ct.eq_1
def F.aQ (s:(List D129)->(List D129)->Int->Option Bool)(t:D23)(u:(List D131))(e:(List D193))(x:D131)(k:Int):Nat->(List D129)->(List D129)->Int->Option Bool
 |0,_,_,_=>none
 |f+1,o,p,h=>if h<(e.length:Int)then((A.ix e h).bind fun y=>((A.ix p k).bind fun z=>(if y.1=z then((A.ix e h).bind fun B=>((F.dm t u B x.2).bind fun E=>(if E=true then((A.ix e h).bind fun I=>((F.dL o I.2.1).bind fun J=>(F.ct (F.aQ s t u e x k f) e o p h (!J))))else(F.ct (F.aQ s t u e x k f) e o p h false))))else(F.ct (F.aQ s t u e x k f) e o p h false))))else(A.gd (Z.R64 (k+1)) (s o p (k+1)))
def F.cX (h:D23)(k:(List D131))(o:(List D193))(e:D131):Nat->(List D129)->(List D129)->Int->Option Bool
 |0,_,_,_=>none
 |f+1,p,s,t=>if t<(s.length:Int)then(F.aQ (F.cX h k o e f) h k o e t A.FU p s 0)else((F.dL p e.1).bind fun u=>(some u))
def F.du (h:D23)(k:(List D131))(o:(List D193))(e:D131):Option Bool:=F.cX h k o e A.FU [] [e.1] 0
def F.b3 (k:D23)(o:(List Int)×Bool)(p:(List Int)×Bool)(e:(List D131))(s:(List D193)):Nat->Int->Option ((List Int)×(List Int)×Int)
 |0,_=>none
 |f+1,h=>if h<(e.length:Int)then((A.ix e h).bind fun t=>((F.du k e s t).bind fun u=>(if u=true then(some ([],[],81))else(A.gd (Z.R64 (h+1)) ((F.b3 k o p e s f) (h+1))))))else(some (o.1,p.1,0))
def F.da (e:D23):Option ((List Int)×(List Int)×Int):=(F.dH e).bind fun o=>(if o≠0 then(some ([],[],o))else((F.c7 e).bind fun h=>(if(!h.2)=true then(some ([],[],81))else((F.cT e h.1).bind fun k=>(if(!k.2)=true then(some ([],[],80))else((F.dJ e k.1).bind fun p=>((F.dt e p).bind fun s=>(F.b3 e h k p s A.FU 0))))))))
theorem eqq_R08_whole:True:=(fun _=>trivial) @F.da.eq_1
def F.dW (e:D23):Option Int:=(F.da e).bind fun h=>(some h.2.2)
end Go.Proofs.YtligcbdjiolamaaGreatDoor
end
section
namespace Go.A
open Go.RowKit Go.Z
section
variable {r:Option Nat}{P:Program}{ops:Array Oper}{Q:Exit->Act->World->Prop}{C:Cx}{l:List (Nat×Value)}{H Hq:List (Nat×Res)}{m f:Nat}{li:List Bool}
end
section
variable {C:Cx}{l:List (Nat×Value)}{H:List (Nat×Res)}{X:Act->World->Prop}
end
section
variable {r:Option Nat}{P:Program}{ops:Array Oper}{Q:Exit->Act->World->Prop}{rest lst:List Oper}{C:Cx}{l:List (Nat×Value)}{H:List (Nat×Res)}{d:Nat}{T:TypeId}{pos:String}{af:Array Edge}
end
def b8 (x:Int):UInt8:=UInt8.ofNat (x%256).toNat
def Fz (fz:Nat×Nat)(n:Nat):Prop:=∀j,j<n->¬(fz.1<=j/\j<fz.2)
def Bs (e:TypeId)(c:Nat)(xs:List UInt8):Obj->Prop:=fun o=>∃(cur:Array Value) (fz:Nat×Nat),o=.cells cur e fz/\Fz fz c/\cur.size=c/\c<=maxLen/\xs.length<=c/\∀(j:Nat) (b:UInt8),xs[j]?=some b->cur[j]?=some (.int .u8 (b.toNat:Int))
theorem Bs.cell {w:World}{g:Nat}{e:TypeId}{c:Nat}{xs:List UInt8}{o:Obj}(ho:w.heap[g]?=some o)(h:Bs e c xs o){j:Nat}{b:UInt8}(hj:xs[j]?=some b):w.cell? ⟨g,j,none⟩=some (.int .u8 (b.toNat:Int)):=by
 obtain⟨cur,fz,rfl,_,_,_,_,h5⟩:=h
 rw[cell_of_row w g j cur e _ ho]
 exact h5 j b hj
section
variable {r:Option Nat}{P:Program}{ops:Array Oper}{Q:Exit->Act->World->Prop}{rest:List Oper}{C:Cx}{l:List (Nat×Value)}{H:List (Nat×Res)}{d:Nat}{T:TypeId}{pos:String}{af:Array Edge}
end
end Go.A
end
section
namespace Go.Z
open Go.RowKit Go.Lib
section
variable {P:Program}{a:Act}{w:World}{d:Option Tmp}{T:TypeId}{pos:String}{af:Array Edge}{gd:Option (Nat×Bool)}
end
end Go.Z
namespace Go.A
open Go.RowKit Go.Z
section
variable {r:Option Nat}{P:Program}{ops:Array Oper}{Q:Exit->Act->World->Prop}{rest lst:List Oper}{C:Cx}{l:List (Nat×Value)}{H:List (Nat×Res)}{d:Nat}{T:TypeId}{pos:String}{af:Array Edge}
theorem AL.ixv {τ:Type}(f:τ->Value)(vals:List τ){tt e:TypeId}{n:Nat}{x y:Operand}{i:Int}{kd:IntKind}{v:τ}(hi:ix vals i=some v)(h:AL r P ops Q rest C ((d,f v)::l) H)
  (hx:ev l x=some (.agg (vals.map f).toArray):=by rfl) (hy:ev l y=some (.int kd i):=by rfl) (ht:P.underlying tt=some (.array n e):=by rfl) (hl:vals.length=n:=by rfl) (hS:szB P e=some 1:=by kernel_rfl) (hA:aggB P e=some false:=by kernel_rfl) (hd:Nat.ble (d+1) C.n=true:=by rfl):
  AL r P ops Q (⟨some d,.index tt x y,T,pos,af,none⟩::rest) C l H:=fun a w hf hh=>by
 subst hl
 obtain⟨p,q⟩:=o_df hi
 obtain⟨j,rfl,hj⟩:=Qbs hi
 refine Z.val hf hd ?_ fun a' hf'=>h a' w hf' hh
 have h0:(part e (vals.map f).toArray (((j:Int)).toNat*1)).run P w=.ok (f v) w:=Z.part_one w (Qcf hA) (by simp[hj])
 simp only[execOp,Instr.index,Sem.run_bind,hf.eval hx,hf.eval hy,asIntOf,Sem.run_pure,Result.andThen_ok,run_underlying ht,Qak hS w]
 rw[Qc ⟨p,q⟩]
 simp only[Sem.run_bind,Qak hS w,Result.andThen_ok,h0,Sem.run_pure]
theorem Row.drop {t:Ty}{w:World}{F G:Nat->Prop}{A:Option Addr}{c u:Nat}{xs:List t.den}(h:Row t w F G A c xs)(hu:u<=xs.length):Row t w F G (cutA A c u t.size) (c-u) (xs.drop u):=by
 obtain⟨h2,h3,cells,h4,h5,h6⟩:=h
 refine⟨by rw[Xj];omega,by omega,cells.drop (u*t.size),by rw[Xj,Xj,h4,Nat.sub_mul],?_,fun i x hi=>?_⟩
 ·rw[Xj]
  by_cases hz:xs.length-u=0
  ·exact .inl hz
  ·rcases h5 with h5|⟨b,o,rfl,hb,hc⟩
   ·omega
   ·refine .inr ⟨b,o+u*t.size,by unfold cutA;rw[Qb (by omega),Wo,Addr.add_lit],hb,fun j v hv=>?_⟩
    rw[Wl]at hv
    rw[Xh];exact hc _ v hv
 ·rw[Wl]at hi
  rw[Yr,<-Xn]
  exact h6 _ x hi
end
section
variable {C:Cx}{l:List (Nat×Value)}{H:List (Nat×Res)}{P:Program}
end
end Go.A
end
section
namespace Go.Proofs.YtligcbdjiolamaaGreatDoor
open Go.RowKit
variable(A0_ A1_ A2_ A3_ A5_ A7_ A9_ A10_ A11_ A13_ A15_ A17_ A19_ A21_ A23_ A25_ A27_ A29_ A31_:Option Addr)(g0_ b1_ c1_ c2_ g2_ c3_ b4_ c4_ b5_ b6_ c6_ c8_ c10_ g10_ c11_ c12_ c14_ c16_ c18_ c20_ c22_ c24_ c26_ c28_ c30_ c32_:Nat)
def F.bg:Option (List (Int×(List D58))):=A.gd (Z.R64 (15+1)) (some [])
def F.bh (e:D70):Option (List (Int×(List D58))):=A.gd (Z.R64 (14+1)) (if(0:Int)<(e.2.2.2.2.2.2.2.2.2.2.2.2.2.2.2.length:Int)then((F.a e.2.2.2.2.2.2.2.2.2.2.2.2.2.2.2).bind fun h=>(A.cns (15,h) (F.bg)))else(F.bg))
def F.bi (e:D70):Option (List (Int×(List D58))):=A.gd (Z.R64 (13+1)) (if(0:Int)<(e.2.2.2.2.2.2.2.2.2.2.2.2.2.2.1.length:Int)then((F.a e.2.2.2.2.2.2.2.2.2.2.2.2.2.2.1).bind fun h=>(A.cns (14,h) (F.bh e)))else(F.bh e))
def F.bj (e:D70):Option (List (Int×(List D58))):=A.gd (Z.R64 (12+1)) (if(0:Int)<(e.2.2.2.2.2.2.2.2.2.2.2.2.2.1.length:Int)then((F.a e.2.2.2.2.2.2.2.2.2.2.2.2.2.1).bind fun h=>(A.cns (13,h) (F.bi e)))else(F.bi e))
def F.bk (e:D70):Option (List (Int×(List D58))):=A.gd (Z.R64 (11+1)) (if(0:Int)<(e.2.2.2.2.2.2.2.2.2.2.2.2.1.length:Int)then((F.a e.2.2.2.2.2.2.2.2.2.2.2.2.1).bind fun h=>(A.cns (12,h) (F.bj e)))else(F.bj e))
def F.bl (e:D70):Option (List (Int×(List D58))):=A.gd (Z.R64 (10+1)) (if(0:Int)<(e.2.2.2.2.2.2.2.2.2.2.2.1.length:Int)then((F.a e.2.2.2.2.2.2.2.2.2.2.2.1).bind fun h=>(A.cns (11,h) (F.bk e)))else(F.bk e))
def F.bm (e:D70):Option (List (Int×(List D58))):=A.gd (Z.R64 (9+1)) (if(0:Int)<(e.2.2.2.2.2.2.2.2.2.2.1.length:Int)then((F.a e.2.2.2.2.2.2.2.2.2.2.1).bind fun h=>(A.cns (10,h) (F.bl e)))else(F.bl e))
def F.bn (e:D70):Option (List (Int×(List D58))):=A.gd (Z.R64 (8+1)) (if(0:Int)<(e.2.2.2.2.2.2.2.2.2.1.length:Int)then((F.a e.2.2.2.2.2.2.2.2.2.1).bind fun h=>(A.cns (9,h) (F.bm e)))else(F.bm e))
def F.bo (e:D70):Option (List (Int×(List D58))):=A.gd (Z.R64 (7+1)) (if(0:Int)<(e.2.2.2.2.2.2.2.2.1.length:Int)then((F.a e.2.2.2.2.2.2.2.2.1).bind fun h=>(A.cns (8,h) (F.bn e)))else(F.bn e))
def F.aW (e:D70):Option (List (Int×(List D58))):=A.gd (Z.R64 (6+1)) (if(0:Int)<(e.2.2.2.2.2.2.2.1.length:Int)then((F.a e.2.2.2.2.2.2.2.1).bind fun h=>(A.cns (7,h) (F.bo e)))else(F.bo e))
def F.aX (e:D70):Option (List (Int×(List D58))):=A.gd (Z.R64 (5+1)) (if(0:Int)<(e.2.2.2.2.2.2.1.length:Int)then((F.a e.2.2.2.2.2.2.1).bind fun h=>(A.cns (6,h) (F.aW e)))else(F.aW e))
def F.aY (e:D70):Option (List (Int×(List D58))):=A.gd (Z.R64 (4+1)) (if(0:Int)<(e.2.2.2.2.2.1.length:Int)then((F.a e.2.2.2.2.2.1).bind fun h=>(A.cns (5,h) (F.aX e)))else(F.aX e))
def F.aZ (e:D70):Option (List (Int×(List D58))):=A.gd (Z.R64 (3+1)) (if(0:Int)<(e.2.2.2.2.1.length:Int)then((F.a e.2.2.2.2.1).bind fun h=>(A.cns (4,h) (F.aY e)))else(F.aY e))
def F.a0 (e:D70):Option (List (Int×(List D58))):=A.gd (Z.R64 (2+1)) (if(0:Int)<(e.2.2.2.1.length:Int)then((F.a e.2.2.2.1).bind fun h=>(A.cns (3,h) (F.aZ e)))else(F.aZ e))
def F.a1 (e:D70):Option (List (Int×(List D58))):=A.gd (Z.R64 (1+1)) (if(0:Int)<(e.2.2.1.length:Int)then((F.a e.2.2.1).bind fun h=>(A.cns (2,h) (F.a0 e)))else(F.a0 e))
def F.a2 (e:D70):Option (List (Int×(List D58))):=A.gd (Z.R64 (0+1)) (if(0:Int)<(e.2.1.length:Int)then((F.a e.2.1).bind fun h=>(A.cns (1,h) (F.a1 e)))else(F.a1 e))
def F.bq (e:D70):Option (List (Int×(List D58))):=if(0:Int)<(e.1.length:Int)then((F.a e.1).bind fun h=>(A.cns (0,h) (F.a2 e)))else(F.a2 e)
theorem o_aH(k:D70)(xs:List (Int×(List D58)))(h:F.bq k=some xs):
    A.Sq Tryz.prog 26 [.pointer (some ⟨g0_,0,none⟩)] [(0,.el none g0_ 0 (A.rah k A1_ c2_ A3_ c4_ A5_ c6_ A7_ c8_ A9_ c10_ A11_ c12_ A13_ c14_ A15_ c16_ A17_ c18_ A19_ c20_ A21_ c22_ A23_ c24_ A25_ c26_ A27_ c28_ A29_ c30_ A31_ c32_)),(1,.sh (.slice T58) [.slice A1_ k.1.length c2_] k.1),(2,.sh (.slice T58) [.slice A3_ k.2.1.length c4_] k.2.1),(3,.sh (.slice T58) [.slice A5_ k.2.2.1.length c6_] k.2.2.1),(4,.sh (.slice T58) [.slice A7_ k.2.2.2.1.length c8_] k.2.2.2.1),(5,.sh (.slice T58) [.slice A9_ k.2.2.2.2.1.length c10_] k.2.2.2.2.1),(6,.sh (.slice T58) [.slice A11_ k.2.2.2.2.2.1.length c12_] k.2.2.2.2.2.1),(7,.sh (.slice T58) [.slice A13_ k.2.2.2.2.2.2.1.length c14_] k.2.2.2.2.2.2.1),(8,.sh (.slice T58) [.slice A15_ k.2.2.2.2.2.2.2.1.length c16_] k.2.2.2.2.2.2.2.1),(9,.sh (.slice T58) [.slice A17_ k.2.2.2.2.2.2.2.2.1.length c18_] k.2.2.2.2.2.2.2.2.1),(10,.sh (.slice T58) [.slice A19_ k.2.2.2.2.2.2.2.2.2.1.length c20_] k.2.2.2.2.2.2.2.2.2.1),(11,.sh (.slice T58) [.slice A21_ k.2.2.2.2.2.2.2.2.2.2.1.length c22_] k.2.2.2.2.2.2.2.2.2.2.1),(12,.sh (.slice T58) [.slice A23_ k.2.2.2.2.2.2.2.2.2.2.2.1.length c24_] k.2.2.2.2.2.2.2.2.2.2.2.1),(13,.sh (.slice T58) [.slice A25_ k.2.2.2.2.2.2.2.2.2.2.2.2.1.length c26_] k.2.2.2.2.2.2.2.2.2.2.2.2.1),(14,.sh (.slice T58) [.slice A27_ k.2.2.2.2.2.2.2.2.2.2.2.2.2.1.length c28_] k.2.2.2.2.2.2.2.2.2.2.2.2.2.1),(15,.sh (.slice T58) [.slice A29_ k.2.2.2.2.2.2.2.2.2.2.2.2.2.2.1.length c30_] k.2.2.2.2.2.2.2.2.2.2.2.2.2.2.1),(16,.sh (.slice T58) [.slice A31_ k.2.2.2.2.2.2.2.2.2.2.2.2.2.2.2.length c32_] k.2.2.2.2.2.2.2.2.2.2.2.2.2.2.2)] (Z.Ty.pair A.ti (Z.Ty.slice T58)) (fun cs=>[Z.vof false (cs.take 1),Z.vof false (cs.drop 1)]) xs:=by
 refine A.Sq.enter Tryz.func26 rfl Tryz.ntmps26 rfl fun lid w0 J Jx Φ hY hJ0=>?_;obtain⟨rs0,hrs⟩: ∃rs0,rs0=xs:=⟨_,rfl⟩
 have hR0:A.Rem xs 0 rs0:=hrs▸A.Rem.zero xs
 rw[F.bq,<-hrs]at h
 clear hrs
 refine Ug 1 [] [0] [.e 0 0,.n] [(5,.agg #[.slice A1_ k.1.length c2_,.slice A3_ k.2.1.length c4_,.slice A5_ k.2.2.1.length c6_,.slice A7_ k.2.2.2.1.length c8_,.slice A9_ k.2.2.2.2.1.length c10_,.slice A11_ k.2.2.2.2.2.1.length c12_,.slice A13_ k.2.2.2.2.2.2.1.length c14_,.slice A15_ k.2.2.2.2.2.2.2.1.length c16_,.slice A17_ k.2.2.2.2.2.2.2.2.1.length c18_,.slice A19_ k.2.2.2.2.2.2.2.2.2.1.length c20_,.slice A21_ k.2.2.2.2.2.2.2.2.2.2.1.length c22_,.slice A23_ k.2.2.2.2.2.2.2.2.2.2.2.1.length c24_,.slice A25_ k.2.2.2.2.2.2.2.2.2.2.2.2.1.length c26_,.slice A27_ k.2.2.2.2.2.2.2.2.2.2.2.2.2.1.length c28_,.slice A29_ k.2.2.2.2.2.2.2.2.2.2.2.2.2.2.1.length c30_,.slice A31_ k.2.2.2.2.2.2.2.2.2.2.2.2.2.2.2.length c32_]),(6,A.i 0)] 2 ?_;refine A.AX.unr ?_;refine J4 1 1 [(7,.bool true)] 2 ?_;refine Jy rfl ?_;refine Uc 2 ?_;refine Vq (A.CY 22 Φ) [0,5,6] [1,2,3,4,5,6,7,8,9,10,11,12,13,14,15,16] (fun i o p=>∃(rs:List (Int×(List D58))),o=[]/\p=[]/\J i.1 i.2/\A.Rem xs i.1 rs/\F.a2 k=some rs) ?_ ?_
 ·refine Ub 2 1 [(8,A.i 0)] ?_;refine A.AL.ixv (fun v:Value=>v) (A.rah k A1_ c2_ A3_ c4_ A5_ c6_ A7_ c8_ A9_ c10_ A11_ c12_ A13_ c14_ A15_ c16_ A17_ c18_ A19_ c20_ A21_ c22_ A23_ c24_ A25_ c26_ A27_ c28_ A29_ c30_ A31_ c32_) (i:=0) (v:=.slice A1_ k.1.length c2_) rfl ?_ (hx:=by kernel_rfl)
  refine J3 2 [(3,A.i 0),(4,.slice A1_ k.1.length c2_)] 2 ?_;refine V6 4 [(13,.bool (decide ((0:Int)<(k.1.length:Int))))] (Vn (j:=13) rfl h ?_ ?_)<;>intro s h
  ·refine J9 [] [] [.on .n,.on .n,.on .n] [(14,.func (.yield lid) #[] #[]),(15,A.i 0),(16,.slice A1_ k.1.length c2_)] (J2 (dj:=13) rfl rfl ?_);refine Vx 17 [] h (o_a A1_ c2_ k.1) (.l 1 .nil (h1:=by kernel_rfl)) ?_;rintro u - h _ _ ⟨b9,bb,rfl,rfl⟩;refine J5 (J2 (dj:=13) rfl rfl ?_);refine V2 17 [] ?_;obtain⟨rs236,hqrs236,h⟩:=Vk h;refine Vl (t:=.pair A.ti (Z.Ty.slice T58)) (x:=(0,u)) hY hJ0 (hqrs236▸hR0) [A.i 0,.slice b9 u.length bb] ⟨⟨rfl,Vb⟩,.inl ⟨17,rfl⟩⟩ (fun y hJ238 hR239=>?_) (fun y hX240=>?_)
   ·refine Vf [] [] [.on .n,.n] [(20,.bool false)] 1 ?_;refine J1 rfl ?_;refine Vp 2 ?_;exact Vd (1,y) [1,2,3,4,5,6,7,8,9,10,11,12,13,14,15,16] [] [] ⟨_,rfl,rfl,hJ238,hR239,h⟩
   refine Vf [] [] [.on .n,.n] [(20,.bool true)] 1 ?_;refine Jy rfl ?_;exact Vv hY hX240
  refine Vf [] [] [.off,.off,.off,.off,.off,.off,.n] [(20,.bool false)] 1 ?_;refine J1 rfl ?_;refine Vp 2 ?_;exact Vd (0,w0) [1,2,3,4,5,6,7,8,9,10,11,12,13,14,15,16] [] [] ⟨_,rfl,rfl,hJ0,hR0,h⟩
 rintro⟨z,w2⟩ _ _ ⟨rs5,rfl,rfl,hJ3,hR4,h⟩
 rw[F.a2]at h;refine Jz 0 ?_;have⟨bc,h⟩:=V3 h;refine Uf 2 [Z.R64 (0+1)] [(6,A.i 1)] bc (Ju ?_);refine A.AE.unr ?_;refine J4 1 1 [(7,.bool true)] 2 ?_;refine Jy rfl ?_;refine Uc 2 ?_;refine Vq (A.CY 22 Φ) [0,5,6] [1,2,3,4,5,6,7,8,9,10,11,12,13,14,15,16] (fun i o p=>∃(rs:List (Int×(List D58))),o=[]/\p=[]/\J i.1 i.2/\A.Rem xs i.1 rs/\F.a1 k=some rs) ?_ ?_
 ·refine Ub 2 1 [(8,A.i 1)] ?_;refine A.AL.ixv (fun v:Value=>v) (A.rah k A1_ c2_ A3_ c4_ A5_ c6_ A7_ c8_ A9_ c10_ A11_ c12_ A13_ c14_ A15_ c16_ A17_ c18_ A19_ c20_ A21_ c22_ A23_ c24_ A25_ c26_ A27_ c28_ A29_ c30_ A31_ c32_) (i:=1) (v:=.slice A3_ k.2.1.length c4_) rfl ?_ (hx:=by kernel_rfl)
  refine J3 2 [(3,A.i 1),(4,.slice A3_ k.2.1.length c4_)] 2 ?_;refine V6 4 [(13,.bool (decide ((0:Int)<(k.2.1.length:Int))))] (Vn (j:=13) rfl h ?_ ?_)<;>intro s h
  ·refine J9 [] [] [.on .n,.on .n,.on .n] [(14,.func (.yield lid) #[] #[]),(15,A.i 1),(16,.slice A3_ k.2.1.length c4_)] (J2 (dj:=13) rfl rfl ?_);refine Vx 57 [] h (o_a A3_ c4_ k.2.1) (.l 2 .nil (h1:=by kernel_rfl)) ?_;rintro B - h _ _ ⟨be,bf,rfl,rfl⟩;refine J5 (J2 (dj:=13) rfl rfl ?_);refine V2 57 [] ?_;obtain⟨rs227,hqrs227,h⟩:=Vk h;refine Vl (t:=.pair A.ti (Z.Ty.slice T58)) (x:=(1,B)) hY hJ3 (hqrs227▸hR4) [A.i 1,.slice be B.length bf] ⟨⟨rfl,(Vg 1)⟩,.inl ⟨57,rfl⟩⟩ (fun E hJ229 hR230=>?_) (fun E hX231=>?_)
   ·refine Vf [] [] [.on .n,.n] [(20,.bool false)] 1 ?_;refine J1 rfl ?_;refine Vp 2 ?_;exact Vd (z+1,E) [1,2,3,4,5,6,7,8,9,10,11,12,13,14,15,16] [] [] ⟨_,rfl,rfl,hJ229,hR230,h⟩
   refine Vf [] [] [.on .n,.n] [(20,.bool true)] 1 ?_;refine Jy rfl ?_;exact Vv hY hX231
  refine Vf [] [] [.off,.off,.off,.off,.off,.off,.n] [(20,.bool false)] 1 ?_;refine J1 rfl ?_;refine Vp 2 ?_;exact Vd (z,w2) [1,2,3,4,5,6,7,8,9,10,11,12,13,14,15,16] [] [] ⟨_,rfl,rfl,hJ3,hR4,h⟩
 rintro⟨I,w8⟩ _ _ ⟨rs11,rfl,rfl,hJ9,hR10,h⟩
 rw[F.a1]at h;refine Jz 0 ?_;have⟨bp,h⟩:=V3 h;refine Uf 2 [Z.R64 (1+1)] [(6,A.i 2)] bp (Ju ?_);refine A.AE.unr ?_;refine J4 1 1 [(7,.bool true)] 2 ?_;refine Jy rfl ?_;refine Uc 2 ?_;refine Vq (A.CY 22 Φ) [0,5,6] [1,2,3,4,5,6,7,8,9,10,11,12,13,14,15,16] (fun i o p=>∃(rs:List (Int×(List D58))),o=[]/\p=[]/\J i.1 i.2/\A.Rem xs i.1 rs/\F.a0 k=some rs) ?_ ?_
 ·refine Ub 2 1 [(8,A.i 2)] ?_;refine A.AL.ixv (fun v:Value=>v) (A.rah k A1_ c2_ A3_ c4_ A5_ c6_ A7_ c8_ A9_ c10_ A11_ c12_ A13_ c14_ A15_ c16_ A17_ c18_ A19_ c20_ A21_ c22_ A23_ c24_ A25_ c26_ A27_ c28_ A29_ c30_ A31_ c32_) (i:=2) (v:=.slice A5_ k.2.2.1.length c6_) rfl ?_ (hx:=by kernel_rfl)
  refine J3 2 [(3,A.i 2),(4,.slice A5_ k.2.2.1.length c6_)] 2 ?_;refine V6 4 [(13,.bool (decide ((0:Int)<(k.2.2.1.length:Int))))] (Vn (j:=13) rfl h ?_ ?_)<;>intro s h
  ·refine J9 [] [] [.on .n,.on .n,.on .n] [(14,.func (.yield lid) #[] #[]),(15,A.i 2),(16,.slice A5_ k.2.2.1.length c6_)] (J2 (dj:=13) rfl rfl ?_);refine Vx 97 [] h (o_a A5_ c6_ k.2.2.1) (.l 3 .nil (h1:=by kernel_rfl)) ?_;rintro L - h _ _ ⟨br,bt,rfl,rfl⟩;refine J5 (J2 (dj:=13) rfl rfl ?_);refine V2 97 [] ?_;obtain⟨rs218,hqrs218,h⟩:=Vk h;refine Vl (t:=.pair A.ti (Z.Ty.slice T58)) (x:=(2,L)) hY hJ9 (hqrs218▸hR10) [A.i 2,.slice br L.length bt] ⟨⟨rfl,(Vg 2)⟩,.inl ⟨97,rfl⟩⟩ (fun N hJ220 hR221=>?_) (fun N hX222=>?_)
   ·refine Vf [] [] [.on .n,.n] [(20,.bool false)] 1 ?_;refine J1 rfl ?_;refine Vp 2 ?_;exact Vd (I+1,N) [1,2,3,4,5,6,7,8,9,10,11,12,13,14,15,16] [] [] ⟨_,rfl,rfl,hJ220,hR221,h⟩
   refine Vf [] [] [.on .n,.n] [(20,.bool true)] 1 ?_;refine Jy rfl ?_;exact Vv hY hX222
  refine Vf [] [] [.off,.off,.off,.off,.off,.off,.n] [(20,.bool false)] 1 ?_;refine J1 rfl ?_;refine Vp 2 ?_;exact Vd (I,w8) [1,2,3,4,5,6,7,8,9,10,11,12,13,14,15,16] [] [] ⟨_,rfl,rfl,hJ9,hR10,h⟩
 rintro⟨U,bu⟩ _ _ ⟨rs17,rfl,rfl,hJ15,hR16,h⟩
 rw[F.a0]at h;refine Jz 0 ?_;have⟨bw,h⟩:=V3 h;refine Uf 2 [Z.R64 (2+1)] [(6,A.i 3)] bw (Ju ?_);refine A.AE.unr ?_;refine J4 1 1 [(7,.bool true)] 2 ?_;refine Jy rfl ?_;refine Uc 2 ?_;refine Vq (A.CY 22 Φ) [0,5,6] [1,2,3,4,5,6,7,8,9,10,11,12,13,14,15,16] (fun i o p=>∃(rs:List (Int×(List D58))),o=[]/\p=[]/\J i.1 i.2/\A.Rem xs i.1 rs/\F.aZ k=some rs) ?_ ?_
 ·refine Ub 2 1 [(8,A.i 3)] ?_;refine A.AL.ixv (fun v:Value=>v) (A.rah k A1_ c2_ A3_ c4_ A5_ c6_ A7_ c8_ A9_ c10_ A11_ c12_ A13_ c14_ A15_ c16_ A17_ c18_ A19_ c20_ A21_ c22_ A23_ c24_ A25_ c26_ A27_ c28_ A29_ c30_ A31_ c32_) (i:=3) (v:=.slice A7_ k.2.2.2.1.length c8_) rfl ?_ (hx:=by kernel_rfl)
  refine J3 2 [(3,A.i 3),(4,.slice A7_ k.2.2.2.1.length c8_)] 2 ?_;refine V6 4 [(13,.bool (decide ((0:Int)<(k.2.2.2.1.length:Int))))] (Vn (j:=13) rfl h ?_ ?_)<;>intro s h
  ·refine J9 [] [] [.on .n,.on .n,.on .n] [(14,.func (.yield lid) #[] #[]),(15,A.i 3),(16,.slice A7_ k.2.2.2.1.length c8_)] (J2 (dj:=13) rfl rfl ?_);refine Vx 137 [] h (o_a A7_ c8_ k.2.2.2.1) (.l 4 .nil (h1:=by kernel_rfl)) ?_;rintro W - h _ _ ⟨bx,bz,rfl,rfl⟩;refine J5 (J2 (dj:=13) rfl rfl ?_);refine V2 137 [] ?_;obtain⟨rs209,hqrs209,h⟩:=Vk h;refine Vl (t:=.pair A.ti (Z.Ty.slice T58)) (x:=(3,W)) hY hJ15 (hqrs209▸hR16) [A.i 3,.slice bx W.length bz] ⟨⟨rfl,(Vg 3)⟩,.inl ⟨137,rfl⟩⟩ (fun Y hJ211 hR212=>?_) (fun Y hX213=>?_)
   ·refine Vf [] [] [.on .n,.n] [(20,.bool false)] 1 ?_;refine J1 rfl ?_;refine Vp 2 ?_;exact Vd (U+1,Y) [1,2,3,4,5,6,7,8,9,10,11,12,13,14,15,16] [] [] ⟨_,rfl,rfl,hJ211,hR212,h⟩
   refine Vf [] [] [.on .n,.n] [(20,.bool true)] 1 ?_;refine Jy rfl ?_;exact Vv hY hX213
  refine Vf [] [] [.off,.off,.off,.off,.off,.off,.n] [(20,.bool false)] 1 ?_;refine J1 rfl ?_;refine Vp 2 ?_;exact Vd (U,bu) [1,2,3,4,5,6,7,8,9,10,11,12,13,14,15,16] [] [] ⟨_,rfl,rfl,hJ15,hR16,h⟩
 rintro⟨a3,c0⟩ _ _ ⟨rs23,rfl,rfl,hJ21,hR22,h⟩
 rw[F.aZ]at h;refine Jz 0 ?_;have⟨c1,h⟩:=V3 h;refine Uf 2 [Z.R64 (3+1)] [(6,A.i 4)] c1 (Ju ?_);refine A.AE.unr ?_;refine J4 1 1 [(7,.bool true)] 2 ?_;refine Jy rfl ?_;refine Uc 2 ?_;refine Vq (A.CY 22 Φ) [0,5,6] [1,2,3,4,5,6,7,8,9,10,11,12,13,14,15,16] (fun i o p=>∃(rs:List (Int×(List D58))),o=[]/\p=[]/\J i.1 i.2/\A.Rem xs i.1 rs/\F.aY k=some rs) ?_ ?_
 ·refine Ub 2 1 [(8,A.i 4)] ?_;refine A.AL.ixv (fun v:Value=>v) (A.rah k A1_ c2_ A3_ c4_ A5_ c6_ A7_ c8_ A9_ c10_ A11_ c12_ A13_ c14_ A15_ c16_ A17_ c18_ A19_ c20_ A21_ c22_ A23_ c24_ A25_ c26_ A27_ c28_ A29_ c30_ A31_ c32_) (i:=4) (v:=.slice A9_ k.2.2.2.2.1.length c10_) rfl ?_ (hx:=by kernel_rfl)
  refine J3 2 [(3,A.i 4),(4,.slice A9_ k.2.2.2.2.1.length c10_)] 2 ?_;refine V6 4 [(13,.bool (decide ((0:Int)<(k.2.2.2.2.1.length:Int))))] (Vn (j:=13) rfl h ?_ ?_)<;>intro s h
  ·refine J9 [] [] [.on .n,.on .n,.on .n] [(14,.func (.yield lid) #[] #[]),(15,A.i 4),(16,.slice A9_ k.2.2.2.2.1.length c10_)] (J2 (dj:=13) rfl rfl ?_);refine Vx 177 [] h (o_a A9_ c10_ k.2.2.2.2.1) (.l 5 .nil (h1:=by kernel_rfl)) ?_;rintro a4 - h _ _ ⟨c2,c3,rfl,rfl⟩;refine J5 (J2 (dj:=13) rfl rfl ?_);refine V2 177 [] ?_;obtain⟨rs200,hqrs200,h⟩:=Vk h;refine Vl (t:=.pair A.ti (Z.Ty.slice T58)) (x:=(4,a4)) hY hJ21 (hqrs200▸hR22) [A.i 4,.slice c2 a4.length c3] ⟨⟨rfl,(Vg 4)⟩,.inl ⟨177,rfl⟩⟩ (fun a5 hJ202 hR203=>?_) (fun a5 hX204=>?_)
   ·refine Vf [] [] [.on .n,.n] [(20,.bool false)] 1 ?_;refine J1 rfl ?_;refine Vp 2 ?_;exact Vd (a3+1,a5) [1,2,3,4,5,6,7,8,9,10,11,12,13,14,15,16] [] [] ⟨_,rfl,rfl,hJ202,hR203,h⟩
   refine Vf [] [] [.on .n,.n] [(20,.bool true)] 1 ?_;refine Jy rfl ?_;exact Vv hY hX204
  refine Vf [] [] [.off,.off,.off,.off,.off,.off,.n] [(20,.bool false)] 1 ?_;refine J1 rfl ?_;refine Vp 2 ?_;exact Vd (a3,c0) [1,2,3,4,5,6,7,8,9,10,11,12,13,14,15,16] [] [] ⟨_,rfl,rfl,hJ21,hR22,h⟩
 rintro⟨a6,c4⟩ _ _ ⟨rs29,rfl,rfl,hJ27,hR28,h⟩
 rw[F.aY]at h;refine Jz 0 ?_;have⟨c5,h⟩:=V3 h;refine Uf 2 [Z.R64 (4+1)] [(6,A.i 5)] c5 (Ju ?_);refine A.AE.unr ?_;refine J4 1 1 [(7,.bool true)] 2 ?_;refine Jy rfl ?_;refine Uc 2 ?_;refine Vq (A.CY 22 Φ) [0,5,6] [1,2,3,4,5,6,7,8,9,10,11,12,13,14,15,16] (fun i o p=>∃(rs:List (Int×(List D58))),o=[]/\p=[]/\J i.1 i.2/\A.Rem xs i.1 rs/\F.aX k=some rs) ?_ ?_
 ·refine Ub 2 1 [(8,A.i 5)] ?_;refine A.AL.ixv (fun v:Value=>v) (A.rah k A1_ c2_ A3_ c4_ A5_ c6_ A7_ c8_ A9_ c10_ A11_ c12_ A13_ c14_ A15_ c16_ A17_ c18_ A19_ c20_ A21_ c22_ A23_ c24_ A25_ c26_ A27_ c28_ A29_ c30_ A31_ c32_) (i:=5) (v:=.slice A11_ k.2.2.2.2.2.1.length c12_) rfl ?_ (hx:=by kernel_rfl)
  refine J3 2 [(3,A.i 5),(4,.slice A11_ k.2.2.2.2.2.1.length c12_)] 2 ?_;refine V6 4 [(13,.bool (decide ((0:Int)<(k.2.2.2.2.2.1.length:Int))))] (Vn (j:=13) rfl h ?_ ?_)<;>intro s h
  ·refine J9 [] [] [.on .n,.on .n,.on .n] [(14,.func (.yield lid) #[] #[]),(15,A.i 5),(16,.slice A11_ k.2.2.2.2.2.1.length c12_)] (J2 (dj:=13) rfl rfl ?_);refine Vx 217 [] h (o_a A11_ c12_ k.2.2.2.2.2.1) (.l 6 .nil (h1:=by kernel_rfl)) ?_;rintro a7 - h _ _ ⟨c6,c7,rfl,rfl⟩;refine J5 (J2 (dj:=13) rfl rfl ?_);refine V2 217 [] ?_;obtain⟨rs191,hqrs191,h⟩:=Vk h;refine Vl (t:=.pair A.ti (Z.Ty.slice T58)) (x:=(5,a7)) hY hJ27 (hqrs191▸hR28) [A.i 5,.slice c6 a7.length c7] ⟨⟨rfl,(Vg 5)⟩,.inl ⟨217,rfl⟩⟩ (fun a8 hJ193 hR194=>?_) (fun a8 hX195=>?_)
   ·refine Vf [] [] [.on .n,.n] [(20,.bool false)] 1 ?_;refine J1 rfl ?_;refine Vp 2 ?_;exact Vd (a6+1,a8) [1,2,3,4,5,6,7,8,9,10,11,12,13,14,15,16] [] [] ⟨_,rfl,rfl,hJ193,hR194,h⟩
   refine Vf [] [] [.on .n,.n] [(20,.bool true)] 1 ?_;refine Jy rfl ?_;exact Vv hY hX195
  refine Vf [] [] [.off,.off,.off,.off,.off,.off,.n] [(20,.bool false)] 1 ?_;refine J1 rfl ?_;refine Vp 2 ?_;exact Vd (a6,c4) [1,2,3,4,5,6,7,8,9,10,11,12,13,14,15,16] [] [] ⟨_,rfl,rfl,hJ27,hR28,h⟩
 rintro⟨a9,c8⟩ _ _ ⟨rs35,rfl,rfl,hJ33,hR34,h⟩
 rw[F.aX]at h;refine Jz 0 ?_;have⟨c9,h⟩:=V3 h;refine Uf 2 [Z.R64 (5+1)] [(6,A.i 6)] c9 (Ju ?_);refine A.AE.unr ?_;refine J4 1 1 [(7,.bool true)] 2 ?_;refine Jy rfl ?_;refine Uc 2 ?_;refine Vq (A.CY 22 Φ) [0,5,6] [1,2,3,4,5,6,7,8,9,10,11,12,13,14,15,16] (fun i o p=>∃(rs:List (Int×(List D58))),o=[]/\p=[]/\J i.1 i.2/\A.Rem xs i.1 rs/\F.aW k=some rs) ?_ ?_
 ·refine Ub 2 1 [(8,A.i 6)] ?_;refine A.AL.ixv (fun v:Value=>v) (A.rah k A1_ c2_ A3_ c4_ A5_ c6_ A7_ c8_ A9_ c10_ A11_ c12_ A13_ c14_ A15_ c16_ A17_ c18_ A19_ c20_ A21_ c22_ A23_ c24_ A25_ c26_ A27_ c28_ A29_ c30_ A31_ c32_) (i:=6) (v:=.slice A13_ k.2.2.2.2.2.2.1.length c14_) rfl ?_ (hx:=by kernel_rfl)
  refine J3 2 [(3,A.i 6),(4,.slice A13_ k.2.2.2.2.2.2.1.length c14_)] 2 ?_;refine V6 4 [(13,.bool (decide ((0:Int)<(k.2.2.2.2.2.2.1.length:Int))))] (Vn (j:=13) rfl h ?_ ?_)<;>intro s h
  ·refine J9 [] [] [.on .n,.on .n,.on .n] [(14,.func (.yield lid) #[] #[]),(15,A.i 6),(16,.slice A13_ k.2.2.2.2.2.2.1.length c14_)] (J2 (dj:=13) rfl rfl ?_);refine Vx 257 [] h (o_a A13_ c14_ k.2.2.2.2.2.2.1) (.l 7 .nil (h1:=by kernel_rfl)) ?_;rintro aa - h _ _ ⟨ca,cb,rfl,rfl⟩;refine J5 (J2 (dj:=13) rfl rfl ?_);refine V2 257 [] ?_;obtain⟨rs182,hqrs182,h⟩:=Vk h;refine Vl (t:=.pair A.ti (Z.Ty.slice T58)) (x:=(6,aa)) hY hJ33 (hqrs182▸hR34) [A.i 6,.slice ca aa.length cb] ⟨⟨rfl,(Vg 6)⟩,.inl ⟨257,rfl⟩⟩ (fun ab hJ184 hR185=>?_) (fun ab hX186=>?_)
   ·refine Vf [] [] [.on .n,.n] [(20,.bool false)] 1 ?_;refine J1 rfl ?_;refine Vp 2 ?_;exact Vd (a9+1,ab) [1,2,3,4,5,6,7,8,9,10,11,12,13,14,15,16] [] [] ⟨_,rfl,rfl,hJ184,hR185,h⟩
   refine Vf [] [] [.on .n,.n] [(20,.bool true)] 1 ?_;refine Jy rfl ?_;exact Vv hY hX186
  refine Vf [] [] [.off,.off,.off,.off,.off,.off,.n] [(20,.bool false)] 1 ?_;refine J1 rfl ?_;refine Vp 2 ?_;exact Vd (a9,c8) [1,2,3,4,5,6,7,8,9,10,11,12,13,14,15,16] [] [] ⟨_,rfl,rfl,hJ33,hR34,h⟩
 rintro⟨ac,cc⟩ _ _ ⟨rs41,rfl,rfl,hJ39,hR40,h⟩
 rw[F.aW]at h;refine Jz 0 ?_;have⟨cd,h⟩:=V3 h;refine Uf 2 [Z.R64 (6+1)] [(6,A.i 7)] cd (Ju ?_);refine A.AE.unr ?_;refine J4 1 1 [(7,.bool true)] 2 ?_;refine Jy rfl ?_;refine Uc 2 ?_;refine Vq (A.CY 22 Φ) [0,5,6] [1,2,3,4,5,6,7,8,9,10,11,12,13,14,15,16] (fun i o p=>∃(rs:List (Int×(List D58))),o=[]/\p=[]/\J i.1 i.2/\A.Rem xs i.1 rs/\F.bo k=some rs) ?_ ?_
 ·refine Ub 2 1 [(8,A.i 7)] ?_;refine A.AL.ixv (fun v:Value=>v) (A.rah k A1_ c2_ A3_ c4_ A5_ c6_ A7_ c8_ A9_ c10_ A11_ c12_ A13_ c14_ A15_ c16_ A17_ c18_ A19_ c20_ A21_ c22_ A23_ c24_ A25_ c26_ A27_ c28_ A29_ c30_ A31_ c32_) (i:=7) (v:=.slice A15_ k.2.2.2.2.2.2.2.1.length c16_) rfl ?_ (hx:=by kernel_rfl)
  refine J3 2 [(3,A.i 7),(4,.slice A15_ k.2.2.2.2.2.2.2.1.length c16_)] 2 ?_;refine V6 4 [(13,.bool (decide ((0:Int)<(k.2.2.2.2.2.2.2.1.length:Int))))] (Vn (j:=13) rfl h ?_ ?_)<;>intro s h
  ·refine J9 [] [] [.on .n,.on .n,.on .n] [(14,.func (.yield lid) #[] #[]),(15,A.i 7),(16,.slice A15_ k.2.2.2.2.2.2.2.1.length c16_)] (J2 (dj:=13) rfl rfl ?_);refine Vx 297 [] h (o_a A15_ c16_ k.2.2.2.2.2.2.2.1) (.l 8 .nil (h1:=by kernel_rfl)) ?_;rintro ad - h _ _ ⟨cf,cg,rfl,rfl⟩;refine J5 (J2 (dj:=13) rfl rfl ?_);refine V2 297 [] ?_;obtain⟨rs173,hqrs173,h⟩:=Vk h;refine Vl (t:=.pair A.ti (Z.Ty.slice T58)) (x:=(7,ad)) hY hJ39 (hqrs173▸hR40) [A.i 7,.slice cf ad.length cg] ⟨⟨rfl,(Vg 7)⟩,.inl ⟨297,rfl⟩⟩ (fun ae hJ175 hR176=>?_) (fun ae hX177=>?_)
   ·refine Vf [] [] [.on .n,.n] [(20,.bool false)] 1 ?_;refine J1 rfl ?_;refine Vp 2 ?_;exact Vd (ac+1,ae) [1,2,3,4,5,6,7,8,9,10,11,12,13,14,15,16] [] [] ⟨_,rfl,rfl,hJ175,hR176,h⟩
   refine Vf [] [] [.on .n,.n] [(20,.bool true)] 1 ?_;refine Jy rfl ?_;exact Vv hY hX177
  refine Vf [] [] [.off,.off,.off,.off,.off,.off,.n] [(20,.bool false)] 1 ?_;refine J1 rfl ?_;refine Vp 2 ?_;exact Vd (ac,cc) [1,2,3,4,5,6,7,8,9,10,11,12,13,14,15,16] [] [] ⟨_,rfl,rfl,hJ39,hR40,h⟩
 rintro⟨ag,ch⟩ _ _ ⟨rs47,rfl,rfl,hJ45,hR46,h⟩
 rw[F.bo]at h;refine Jz 0 ?_;have⟨ci,h⟩:=V3 h;refine Uf 2 [Z.R64 (7+1)] [(6,A.i 8)] ci (Ju ?_);refine A.AE.unr ?_;refine J4 1 1 [(7,.bool true)] 2 ?_;refine Jy rfl ?_;refine Uc 2 ?_;refine Vq (A.CY 22 Φ) [0,5,6] [1,2,3,4,5,6,7,8,9,10,11,12,13,14,15,16] (fun i o p=>∃(rs:List (Int×(List D58))),o=[]/\p=[]/\J i.1 i.2/\A.Rem xs i.1 rs/\F.bn k=some rs) ?_ ?_
 ·refine Ub 2 1 [(8,A.i 8)] ?_;refine A.AL.ixv (fun v:Value=>v) (A.rah k A1_ c2_ A3_ c4_ A5_ c6_ A7_ c8_ A9_ c10_ A11_ c12_ A13_ c14_ A15_ c16_ A17_ c18_ A19_ c20_ A21_ c22_ A23_ c24_ A25_ c26_ A27_ c28_ A29_ c30_ A31_ c32_) (i:=8) (v:=.slice A17_ k.2.2.2.2.2.2.2.2.1.length c18_) rfl ?_ (hx:=by kernel_rfl)
  refine J3 2 [(3,A.i 8),(4,.slice A17_ k.2.2.2.2.2.2.2.2.1.length c18_)] 2 ?_;refine V6 4 [(13,.bool (decide ((0:Int)<(k.2.2.2.2.2.2.2.2.1.length:Int))))] (Vn (j:=13) rfl h ?_ ?_)<;>intro s h
  ·refine J9 [] [] [.on .n,.on .n,.on .n] [(14,.func (.yield lid) #[] #[]),(15,A.i 8),(16,.slice A17_ k.2.2.2.2.2.2.2.2.1.length c18_)] (J2 (dj:=13) rfl rfl ?_);refine Vx 337 [] h (o_a A17_ c18_ k.2.2.2.2.2.2.2.2.1) (.l 9 .nil (h1:=by kernel_rfl)) ?_;rintro ah - h _ _ ⟨cj,cm,rfl,rfl⟩;refine J5 (J2 (dj:=13) rfl rfl ?_);refine V2 337 [] ?_;obtain⟨rs164,hqrs164,h⟩:=Vk h;refine Vl (t:=.pair A.ti (Z.Ty.slice T58)) (x:=(8,ah)) hY hJ45 (hqrs164▸hR46) [A.i 8,.slice cj ah.length cm] ⟨⟨rfl,(Vg 8)⟩,.inl ⟨337,rfl⟩⟩ (fun aj hJ166 hR167=>?_) (fun aj hX168=>?_)
   ·refine Vf [] [] [.on .n,.n] [(20,.bool false)] 1 ?_;refine J1 rfl ?_;refine Vp 2 ?_;exact Vd (ag+1,aj) [1,2,3,4,5,6,7,8,9,10,11,12,13,14,15,16] [] [] ⟨_,rfl,rfl,hJ166,hR167,h⟩
   refine Vf [] [] [.on .n,.n] [(20,.bool true)] 1 ?_;refine Jy rfl ?_;exact Vv hY hX168
  refine Vf [] [] [.off,.off,.off,.off,.off,.off,.n] [(20,.bool false)] 1 ?_;refine J1 rfl ?_;refine Vp 2 ?_;exact Vd (ag,ch) [1,2,3,4,5,6,7,8,9,10,11,12,13,14,15,16] [] [] ⟨_,rfl,rfl,hJ45,hR46,h⟩
 rintro⟨ak,cn⟩ _ _ ⟨rs53,rfl,rfl,hJ51,hR52,h⟩
 rw[F.bn]at h;refine Jz 0 ?_;have⟨co,h⟩:=V3 h;refine Uf 2 [Z.R64 (8+1)] [(6,A.i 9)] co (Ju ?_);refine A.AE.unr ?_;refine J4 1 1 [(7,.bool true)] 2 ?_;refine Jy rfl ?_;refine Uc 2 ?_;refine Vq (A.CY 22 Φ) [0,5,6] [1,2,3,4,5,6,7,8,9,10,11,12,13,14,15,16] (fun i o p=>∃(rs:List (Int×(List D58))),o=[]/\p=[]/\J i.1 i.2/\A.Rem xs i.1 rs/\F.bm k=some rs) ?_ ?_
 ·refine Ub 2 1 [(8,A.i 9)] ?_;refine A.AL.ixv (fun v:Value=>v) (A.rah k A1_ c2_ A3_ c4_ A5_ c6_ A7_ c8_ A9_ c10_ A11_ c12_ A13_ c14_ A15_ c16_ A17_ c18_ A19_ c20_ A21_ c22_ A23_ c24_ A25_ c26_ A27_ c28_ A29_ c30_ A31_ c32_) (i:=9) (v:=.slice A19_ k.2.2.2.2.2.2.2.2.2.1.length c20_) rfl ?_ (hx:=by kernel_rfl)
  refine J3 2 [(3,A.i 9),(4,.slice A19_ k.2.2.2.2.2.2.2.2.2.1.length c20_)] 2 ?_;refine V6 4 [(13,.bool (decide ((0:Int)<(k.2.2.2.2.2.2.2.2.2.1.length:Int))))] (Vn (j:=13) rfl h ?_ ?_)<;>intro s h
  ·refine J9 [] [] [.on .n,.on .n,.on .n] [(14,.func (.yield lid) #[] #[]),(15,A.i 9),(16,.slice A19_ k.2.2.2.2.2.2.2.2.2.1.length c20_)] (J2 (dj:=13) rfl rfl ?_);refine Vx 377 [] h (o_a A19_ c20_ k.2.2.2.2.2.2.2.2.2.1) (.l 10 .nil (h1:=by kernel_rfl)) ?_;rintro al - h _ _ ⟨cp,cq,rfl,rfl⟩;refine J5 (J2 (dj:=13) rfl rfl ?_);refine V2 377 [] ?_;obtain⟨rs155,hqrs155,h⟩:=Vk h;refine Vl (t:=.pair A.ti (Z.Ty.slice T58)) (x:=(9,al)) hY hJ51 (hqrs155▸hR52) [A.i 9,.slice cp al.length cq] ⟨⟨rfl,(Vg 9)⟩,.inl ⟨377,rfl⟩⟩ (fun am hJ157 hR158=>?_) (fun am hX159=>?_)
   ·refine Vf [] [] [.on .n,.n] [(20,.bool false)] 1 ?_;refine J1 rfl ?_;refine Vp 2 ?_;exact Vd (ak+1,am) [1,2,3,4,5,6,7,8,9,10,11,12,13,14,15,16] [] [] ⟨_,rfl,rfl,hJ157,hR158,h⟩
   refine Vf [] [] [.on .n,.n] [(20,.bool true)] 1 ?_;refine Jy rfl ?_;exact Vv hY hX159
  refine Vf [] [] [.off,.off,.off,.off,.off,.off,.n] [(20,.bool false)] 1 ?_;refine J1 rfl ?_;refine Vp 2 ?_;exact Vd (ak,cn) [1,2,3,4,5,6,7,8,9,10,11,12,13,14,15,16] [] [] ⟨_,rfl,rfl,hJ51,hR52,h⟩
 rintro⟨an,cr⟩ _ _ ⟨rs59,rfl,rfl,hJ57,hR58,h⟩
 rw[F.bm]at h;refine Jz 0 ?_;have⟨ct,h⟩:=V3 h;refine Uf 2 [Z.R64 (9+1)] [(6,A.i 10)] ct (Ju ?_);refine A.AE.unr ?_;refine J4 1 1 [(7,.bool true)] 2 ?_;refine Jy rfl ?_;refine Uc 2 ?_;refine Vq (A.CY 22 Φ) [0,5,6] [1,2,3,4,5,6,7,8,9,10,11,12,13,14,15,16] (fun i o p=>∃(rs:List (Int×(List D58))),o=[]/\p=[]/\J i.1 i.2/\A.Rem xs i.1 rs/\F.bl k=some rs) ?_ ?_
 ·refine Ub 2 1 [(8,A.i 10)] ?_;refine A.AL.ixv (fun v:Value=>v) (A.rah k A1_ c2_ A3_ c4_ A5_ c6_ A7_ c8_ A9_ c10_ A11_ c12_ A13_ c14_ A15_ c16_ A17_ c18_ A19_ c20_ A21_ c22_ A23_ c24_ A25_ c26_ A27_ c28_ A29_ c30_ A31_ c32_) (i:=10) (v:=.slice A21_ k.2.2.2.2.2.2.2.2.2.2.1.length c22_) rfl ?_ (hx:=by kernel_rfl)
  refine J3 2 [(3,A.i 10),(4,.slice A21_ k.2.2.2.2.2.2.2.2.2.2.1.length c22_)] 2 ?_;refine V6 4 [(13,.bool (decide ((0:Int)<(k.2.2.2.2.2.2.2.2.2.2.1.length:Int))))] (Vn (j:=13) rfl h ?_ ?_)<;>intro s h
  ·refine J9 [] [] [.on .n,.on .n,.on .n] [(14,.func (.yield lid) #[] #[]),(15,A.i 10),(16,.slice A21_ k.2.2.2.2.2.2.2.2.2.2.1.length c22_)] (J2 (dj:=13) rfl rfl ?_);refine Vx 417 [] h (o_a A21_ c22_ k.2.2.2.2.2.2.2.2.2.2.1) (.l 11 .nil (h1:=by kernel_rfl)) ?_;rintro ao - h _ _ ⟨cu,cw,rfl,rfl⟩;refine J5 (J2 (dj:=13) rfl rfl ?_);refine V2 417 [] ?_;obtain⟨rs146,hqrs146,h⟩:=Vk h;refine Vl (t:=.pair A.ti (Z.Ty.slice T58)) (x:=(10,ao)) hY hJ57 (hqrs146▸hR58) [A.i 10,.slice cu ao.length cw] ⟨⟨rfl,(Vg 10)⟩,.inl ⟨417,rfl⟩⟩ (fun ap hJ148 hR149=>?_) (fun ap hX150=>?_)
   ·refine Vf [] [] [.on .n,.n] [(20,.bool false)] 1 ?_;refine J1 rfl ?_;refine Vp 2 ?_;exact Vd (an+1,ap) [1,2,3,4,5,6,7,8,9,10,11,12,13,14,15,16] [] [] ⟨_,rfl,rfl,hJ148,hR149,h⟩
   refine Vf [] [] [.on .n,.n] [(20,.bool true)] 1 ?_;refine Jy rfl ?_;exact Vv hY hX150
  refine Vf [] [] [.off,.off,.off,.off,.off,.off,.n] [(20,.bool false)] 1 ?_;refine J1 rfl ?_;refine Vp 2 ?_;exact Vd (an,cr) [1,2,3,4,5,6,7,8,9,10,11,12,13,14,15,16] [] [] ⟨_,rfl,rfl,hJ57,hR58,h⟩
 rintro⟨aq,cx⟩ _ _ ⟨rs65,rfl,rfl,hJ63,hR64,h⟩
 rw[F.bl]at h;refine Jz 0 ?_;have⟨cy,h⟩:=V3 h;refine Uf 2 [Z.R64 (10+1)] [(6,A.i 11)] cy (Ju ?_);refine A.AE.unr ?_;refine J4 1 1 [(7,.bool true)] 2 ?_;refine Jy rfl ?_;refine Uc 2 ?_;refine Vq (A.CY 22 Φ) [0,5,6] [1,2,3,4,5,6,7,8,9,10,11,12,13,14,15,16] (fun i o p=>∃(rs:List (Int×(List D58))),o=[]/\p=[]/\J i.1 i.2/\A.Rem xs i.1 rs/\F.bk k=some rs) ?_ ?_
 ·refine Ub 2 1 [(8,A.i 11)] ?_;refine A.AL.ixv (fun v:Value=>v) (A.rah k A1_ c2_ A3_ c4_ A5_ c6_ A7_ c8_ A9_ c10_ A11_ c12_ A13_ c14_ A15_ c16_ A17_ c18_ A19_ c20_ A21_ c22_ A23_ c24_ A25_ c26_ A27_ c28_ A29_ c30_ A31_ c32_) (i:=11) (v:=.slice A23_ k.2.2.2.2.2.2.2.2.2.2.2.1.length c24_) rfl ?_ (hx:=by kernel_rfl)
  refine J3 2 [(3,A.i 11),(4,.slice A23_ k.2.2.2.2.2.2.2.2.2.2.2.1.length c24_)] 2 ?_;refine V6 4 [(13,.bool (decide ((0:Int)<(k.2.2.2.2.2.2.2.2.2.2.2.1.length:Int))))] (Vn (j:=13) rfl h ?_ ?_)<;>intro s h
  ·refine J9 [] [] [.on .n,.on .n,.on .n] [(14,.func (.yield lid) #[] #[]),(15,A.i 11),(16,.slice A23_ k.2.2.2.2.2.2.2.2.2.2.2.1.length c24_)] (J2 (dj:=13) rfl rfl ?_);refine Vx 457 [] h (o_a A23_ c24_ k.2.2.2.2.2.2.2.2.2.2.2.1) (.l 12 .nil (h1:=by kernel_rfl)) ?_;rintro ar - h _ _ ⟨cz,d1,rfl,rfl⟩;refine J5 (J2 (dj:=13) rfl rfl ?_);refine V2 457 [] ?_;obtain⟨rs137,hqrs137,h⟩:=Vk h;refine Vl (t:=.pair A.ti (Z.Ty.slice T58)) (x:=(11,ar)) hY hJ63 (hqrs137▸hR64) [A.i 11,.slice cz ar.length d1] ⟨⟨rfl,(Vg 11)⟩,.inl ⟨457,rfl⟩⟩ (fun au hJ139 hR140=>?_) (fun au hX141=>?_)
   ·refine Vf [] [] [.on .n,.n] [(20,.bool false)] 1 ?_;refine J1 rfl ?_;refine Vp 2 ?_;exact Vd (aq+1,au) [1,2,3,4,5,6,7,8,9,10,11,12,13,14,15,16] [] [] ⟨_,rfl,rfl,hJ139,hR140,h⟩
   refine Vf [] [] [.on .n,.n] [(20,.bool true)] 1 ?_;refine Jy rfl ?_;exact Vv hY hX141
  refine Vf [] [] [.off,.off,.off,.off,.off,.off,.n] [(20,.bool false)] 1 ?_;refine J1 rfl ?_;refine Vp 2 ?_;exact Vd (aq,cx) [1,2,3,4,5,6,7,8,9,10,11,12,13,14,15,16] [] [] ⟨_,rfl,rfl,hJ63,hR64,h⟩
 rintro⟨av,d2⟩ _ _ ⟨rs71,rfl,rfl,hJ69,hR70,h⟩
 rw[F.bk]at h;refine Jz 0 ?_;have⟨d3,h⟩:=V3 h;refine Uf 2 [Z.R64 (11+1)] [(6,A.i 12)] d3 (Ju ?_);refine A.AE.unr ?_;refine J4 1 1 [(7,.bool true)] 2 ?_;refine Jy rfl ?_;refine Uc 2 ?_;refine Vq (A.CY 22 Φ) [0,5,6] [1,2,3,4,5,6,7,8,9,10,11,12,13,14,15,16] (fun i o p=>∃(rs:List (Int×(List D58))),o=[]/\p=[]/\J i.1 i.2/\A.Rem xs i.1 rs/\F.bj k=some rs) ?_ ?_
 ·refine Ub 2 1 [(8,A.i 12)] ?_;refine A.AL.ixv (fun v:Value=>v) (A.rah k A1_ c2_ A3_ c4_ A5_ c6_ A7_ c8_ A9_ c10_ A11_ c12_ A13_ c14_ A15_ c16_ A17_ c18_ A19_ c20_ A21_ c22_ A23_ c24_ A25_ c26_ A27_ c28_ A29_ c30_ A31_ c32_) (i:=12) (v:=.slice A25_ k.2.2.2.2.2.2.2.2.2.2.2.2.1.length c26_) rfl ?_ (hx:=by kernel_rfl)
  refine J3 2 [(3,A.i 12),(4,.slice A25_ k.2.2.2.2.2.2.2.2.2.2.2.2.1.length c26_)] 2 ?_;refine V6 4 [(13,.bool (decide ((0:Int)<(k.2.2.2.2.2.2.2.2.2.2.2.2.1.length:Int))))] (Vn (j:=13) rfl h ?_ ?_)<;>intro s h
  ·refine J9 [] [] [.on .n,.on .n,.on .n] [(14,.func (.yield lid) #[] #[]),(15,A.i 12),(16,.slice A25_ k.2.2.2.2.2.2.2.2.2.2.2.2.1.length c26_)] (J2 (dj:=13) rfl rfl ?_);refine Vx 497 [] h (o_a A25_ c26_ k.2.2.2.2.2.2.2.2.2.2.2.2.1) (.l 13 .nil (h1:=by kernel_rfl)) ?_;rintro aw - h _ _ ⟨d4,d5,rfl,rfl⟩;refine J5 (J2 (dj:=13) rfl rfl ?_);refine V2 497 [] ?_;obtain⟨rs128,hqrs128,h⟩:=Vk h;refine Vl (t:=.pair A.ti (Z.Ty.slice T58)) (x:=(12,aw)) hY hJ69 (hqrs128▸hR70) [A.i 12,.slice d4 aw.length d5] ⟨⟨rfl,(Vg 12)⟩,.inl ⟨497,rfl⟩⟩ (fun ax hJ130 hR131=>?_) (fun ax hX132=>?_)
   ·refine Vf [] [] [.on .n,.n] [(20,.bool false)] 1 ?_;refine J1 rfl ?_;refine Vp 2 ?_;exact Vd (av+1,ax) [1,2,3,4,5,6,7,8,9,10,11,12,13,14,15,16] [] [] ⟨_,rfl,rfl,hJ130,hR131,h⟩
   refine Vf [] [] [.on .n,.n] [(20,.bool true)] 1 ?_;refine Jy rfl ?_;exact Vv hY hX132
  refine Vf [] [] [.off,.off,.off,.off,.off,.off,.n] [(20,.bool false)] 1 ?_;refine J1 rfl ?_;refine Vp 2 ?_;exact Vd (av,d2) [1,2,3,4,5,6,7,8,9,10,11,12,13,14,15,16] [] [] ⟨_,rfl,rfl,hJ69,hR70,h⟩
 rintro⟨ay,d6⟩ _ _ ⟨rs77,rfl,rfl,hJ75,hR76,h⟩
 rw[F.bj]at h;refine Jz 0 ?_;have⟨d7,h⟩:=V3 h;refine Uf 2 [Z.R64 (12+1)] [(6,A.i 13)] d7 (Ju ?_);refine A.AE.unr ?_;refine J4 1 1 [(7,.bool true)] 2 ?_;refine Jy rfl ?_;refine Uc 2 ?_;refine Vq (A.CY 22 Φ) [0,5,6] [1,2,3,4,5,6,7,8,9,10,11,12,13,14,15,16] (fun i o p=>∃(rs:List (Int×(List D58))),o=[]/\p=[]/\J i.1 i.2/\A.Rem xs i.1 rs/\F.bi k=some rs) ?_ ?_
 ·refine Ub 2 1 [(8,A.i 13)] ?_;refine A.AL.ixv (fun v:Value=>v) (A.rah k A1_ c2_ A3_ c4_ A5_ c6_ A7_ c8_ A9_ c10_ A11_ c12_ A13_ c14_ A15_ c16_ A17_ c18_ A19_ c20_ A21_ c22_ A23_ c24_ A25_ c26_ A27_ c28_ A29_ c30_ A31_ c32_) (i:=13) (v:=.slice A27_ k.2.2.2.2.2.2.2.2.2.2.2.2.2.1.length c28_) rfl ?_ (hx:=by kernel_rfl)
  refine J3 2 [(3,A.i 13),(4,.slice A27_ k.2.2.2.2.2.2.2.2.2.2.2.2.2.1.length c28_)] 2 ?_;refine V6 4 [(13,.bool (decide ((0:Int)<(k.2.2.2.2.2.2.2.2.2.2.2.2.2.1.length:Int))))] (Vn (j:=13) rfl h ?_ ?_)<;>intro s h
  ·refine J9 [] [] [.on .n,.on .n,.on .n] [(14,.func (.yield lid) #[] #[]),(15,A.i 13),(16,.slice A27_ k.2.2.2.2.2.2.2.2.2.2.2.2.2.1.length c28_)] (J2 (dj:=13) rfl rfl ?_);refine Vx 537 [] h (o_a A27_ c28_ k.2.2.2.2.2.2.2.2.2.2.2.2.2.1) (.l 14 .nil (h1:=by kernel_rfl)) ?_;rintro az - h _ _ ⟨d8,d9,rfl,rfl⟩;refine J5 (J2 (dj:=13) rfl rfl ?_);refine V2 537 [] ?_;obtain⟨rs119,hqrs119,h⟩:=Vk h;refine Vl (t:=.pair A.ti (Z.Ty.slice T58)) (x:=(13,az)) hY hJ75 (hqrs119▸hR76) [A.i 13,.slice d8 az.length d9] ⟨⟨rfl,(Vg 13)⟩,.inl ⟨537,rfl⟩⟩ (fun b1 hJ121 hR122=>?_) (fun b1 hX123=>?_)
   ·refine Vf [] [] [.on .n,.n] [(20,.bool false)] 1 ?_;refine J1 rfl ?_;refine Vp 2 ?_;exact Vd (ay+1,b1) [1,2,3,4,5,6,7,8,9,10,11,12,13,14,15,16] [] [] ⟨_,rfl,rfl,hJ121,hR122,h⟩
   refine Vf [] [] [.on .n,.n] [(20,.bool true)] 1 ?_;refine Jy rfl ?_;exact Vv hY hX123
  refine Vf [] [] [.off,.off,.off,.off,.off,.off,.n] [(20,.bool false)] 1 ?_;refine J1 rfl ?_;refine Vp 2 ?_;exact Vd (ay,d6) [1,2,3,4,5,6,7,8,9,10,11,12,13,14,15,16] [] [] ⟨_,rfl,rfl,hJ75,hR76,h⟩
 rintro⟨b2,da⟩ _ _ ⟨rs83,rfl,rfl,hJ81,hR82,h⟩
 rw[F.bi]at h;refine Jz 0 ?_;have⟨db,h⟩:=V3 h;refine Uf 2 [Z.R64 (13+1)] [(6,A.i 14)] db (Ju ?_);refine A.AE.unr ?_;refine J4 1 1 [(7,.bool true)] 2 ?_;refine Jy rfl ?_;refine Uc 2 ?_;refine Vq (A.CY 22 Φ) [0,5,6] [1,2,3,4,5,6,7,8,9,10,11,12,13,14,15,16] (fun i o p=>∃(rs:List (Int×(List D58))),o=[]/\p=[]/\J i.1 i.2/\A.Rem xs i.1 rs/\F.bh k=some rs) ?_ ?_
 ·refine Ub 2 1 [(8,A.i 14)] ?_;refine A.AL.ixv (fun v:Value=>v) (A.rah k A1_ c2_ A3_ c4_ A5_ c6_ A7_ c8_ A9_ c10_ A11_ c12_ A13_ c14_ A15_ c16_ A17_ c18_ A19_ c20_ A21_ c22_ A23_ c24_ A25_ c26_ A27_ c28_ A29_ c30_ A31_ c32_) (i:=14) (v:=.slice A29_ k.2.2.2.2.2.2.2.2.2.2.2.2.2.2.1.length c30_) rfl ?_ (hx:=by kernel_rfl)
  refine J3 2 [(3,A.i 14),(4,.slice A29_ k.2.2.2.2.2.2.2.2.2.2.2.2.2.2.1.length c30_)] 2 ?_;refine V6 4 [(13,.bool (decide ((0:Int)<(k.2.2.2.2.2.2.2.2.2.2.2.2.2.2.1.length:Int))))] (Vn (j:=13) rfl h ?_ ?_)<;>intro s h
  ·refine J9 [] [] [.on .n,.on .n,.on .n] [(14,.func (.yield lid) #[] #[]),(15,A.i 14),(16,.slice A29_ k.2.2.2.2.2.2.2.2.2.2.2.2.2.2.1.length c30_)] (J2 (dj:=13) rfl rfl ?_);refine Vx 577 [] h (o_a A29_ c30_ k.2.2.2.2.2.2.2.2.2.2.2.2.2.2.1) (.l 15 .nil (h1:=by kernel_rfl)) ?_;rintro b3 - h _ _ ⟨dc,dd,rfl,rfl⟩;refine J5 (J2 (dj:=13) rfl rfl ?_);refine V2 577 [] ?_;obtain⟨rs110,hqrs110,h⟩:=Vk h;refine Vl (t:=.pair A.ti (Z.Ty.slice T58)) (x:=(14,b3)) hY hJ81 (hqrs110▸hR82) [A.i 14,.slice dc b3.length dd] ⟨⟨rfl,(Vg 14)⟩,.inl ⟨577,rfl⟩⟩ (fun b4 hJ112 hR113=>?_) (fun b4 hX114=>?_)
   ·refine Vf [] [] [.on .n,.n] [(20,.bool false)] 1 ?_;refine J1 rfl ?_;refine Vp 2 ?_;exact Vd (b2+1,b4) [1,2,3,4,5,6,7,8,9,10,11,12,13,14,15,16] [] [] ⟨_,rfl,rfl,hJ112,hR113,h⟩
   refine Vf [] [] [.on .n,.n] [(20,.bool true)] 1 ?_;refine Jy rfl ?_;exact Vv hY hX114
  refine Vf [] [] [.off,.off,.off,.off,.off,.off,.n] [(20,.bool false)] 1 ?_;refine J1 rfl ?_;refine Vp 2 ?_;exact Vd (b2,da) [1,2,3,4,5,6,7,8,9,10,11,12,13,14,15,16] [] [] ⟨_,rfl,rfl,hJ81,hR82,h⟩
 rintro⟨b5,df⟩ _ _ ⟨rs89,rfl,rfl,hJ87,hR88,h⟩
 rw[F.bh]at h;refine Jz 0 ?_;have⟨dg,h⟩:=V3 h;refine Uf 2 [Z.R64 (14+1)] [(6,A.i 15)] dg (Ju ?_);refine A.AE.unr ?_;refine J4 1 1 [(7,.bool true)] 2 ?_;refine Jy rfl ?_;refine Uc 2 ?_;refine Vq (A.CY 22 Φ) [0,5,6] [1,2,3,4,5,6,7,8,9,10,11,12,13,14,15,16] (fun i o p=>∃(rs:List (Int×(List D58))),o=[]/\p=[]/\J i.1 i.2/\A.Rem xs i.1 rs/\F.bg=some rs) ?_ ?_
 ·refine Ub 2 1 [(8,A.i 15)] ?_;refine A.AL.ixv (fun v:Value=>v) (A.rah k A1_ c2_ A3_ c4_ A5_ c6_ A7_ c8_ A9_ c10_ A11_ c12_ A13_ c14_ A15_ c16_ A17_ c18_ A19_ c20_ A21_ c22_ A23_ c24_ A25_ c26_ A27_ c28_ A29_ c30_ A31_ c32_) (i:=15) (v:=.slice A31_ k.2.2.2.2.2.2.2.2.2.2.2.2.2.2.2.length c32_) rfl ?_ (hx:=by kernel_rfl)
  refine J3 2 [(3,A.i 15),(4,.slice A31_ k.2.2.2.2.2.2.2.2.2.2.2.2.2.2.2.length c32_)] 2 ?_;refine V6 4 [(13,.bool (decide ((0:Int)<(k.2.2.2.2.2.2.2.2.2.2.2.2.2.2.2.length:Int))))] (Vn (j:=13) rfl h ?_ ?_)<;>intro s h
  ·refine J9 [] [] [.on .n,.on .n,.on .n] [(14,.func (.yield lid) #[] #[]),(15,A.i 15),(16,.slice A31_ k.2.2.2.2.2.2.2.2.2.2.2.2.2.2.2.length c32_)] (J2 (dj:=13) rfl rfl ?_);refine Vx 617 [] h (o_a A31_ c32_ k.2.2.2.2.2.2.2.2.2.2.2.2.2.2.2) (.l 16 .nil (h1:=by kernel_rfl)) ?_;rintro b6 - h _ _ ⟨dh,di,rfl,rfl⟩;refine J5 (J2 (dj:=13) rfl rfl ?_);refine V2 617 [] ?_;obtain⟨rs101,hqrs101,h⟩:=Vk h;refine Vl (t:=.pair A.ti (Z.Ty.slice T58)) (x:=(15,b6)) hY hJ87 (hqrs101▸hR88) [A.i 15,.slice dh b6.length di] ⟨⟨rfl,(Vg 15)⟩,.inl ⟨617,rfl⟩⟩ (fun b7 hJ103 hR104=>?_) (fun b7 hX105=>?_)
   ·refine Vf [] [] [.on .n,.n] [(20,.bool false)] 1 ?_;refine J1 rfl ?_;refine Vp 2 ?_;exact Vd (b5+1,b7) [1,2,3,4,5,6,7,8,9,10,11,12,13,14,15,16] [] [] ⟨_,rfl,rfl,hJ103,hR104,h⟩
   refine Vf [] [] [.on .n,.n] [(20,.bool true)] 1 ?_;refine Jy rfl ?_;exact Vv hY hX105
  refine Vf [] [] [.off,.off,.off,.off,.off,.off,.n] [(20,.bool false)] 1 ?_;refine J1 rfl ?_;refine Vp 2 ?_;exact Vd (b5,df) [1,2,3,4,5,6,7,8,9,10,11,12,13,14,15,16] [] [] ⟨_,rfl,rfl,hJ87,hR88,h⟩
 rintro⟨dn,dp⟩ _ _ ⟨rs95,rfl,rfl,hJ93,hR94,h⟩
 rw[F.bg]at h;refine Jz 0 ?_;have⟨dm,h⟩:=V3 h;refine Uf 2 [Z.R64 (15+1)] [(6,A.i 16)] dm (Ju ?_);refine A.AE.unr ?_;refine J4 1 1 [(7,.bool false)] 2 ?_;refine J1 rfl ?_;refine Vp 1 ?_;obtain rfl:=Vo h;exact A.AE.rtY hY hJ93 hR94
def F.p (h:Int):List (Int×(List D58))->(List D42)->Option (List D42)
 | [],e=>some e
 |k::f,e=>if h<=(e.length:Int)then(some e)else(A.gd ((List.length (α:=D42) e+List.length (α:=D42) [k])*32<=140737488355328) ((F.p h f) (e++[k])))
def F.an (e:D70)(h:Int):Option (List D42):=(F.bq e).bind fun k=>F.p h k []
theorem o_ag(e:D70)(B:Int)(a3:A.h6 B)(r:(List D42))(t:F.an e B=some r):
    A.Ct Tryz.prog 14 [.func (.func 26) #[] #[.pointer (some ⟨g0_,0,none⟩)],A.i B] [(0,.el none g0_ 0 (A.rah e A1_ c2_ A3_ c4_ A5_ c6_ A7_ c8_ A9_ c10_ A11_ c12_ A13_ c14_ A15_ c16_ A17_ c18_ A19_ c20_ A21_ c22_ A23_ c24_ A25_ c26_ A27_ c28_ A29_ c30_ A31_ c32_)),(1,.sh (.slice T58) [.slice A1_ e.1.length c2_] e.1),(2,.sh (.slice T58) [.slice A3_ e.2.1.length c4_] e.2.1),(3,.sh (.slice T58) [.slice A5_ e.2.2.1.length c6_] e.2.2.1),(4,.sh (.slice T58) [.slice A7_ e.2.2.2.1.length c8_] e.2.2.2.1),(5,.sh (.slice T58) [.slice A9_ e.2.2.2.2.1.length c10_] e.2.2.2.2.1),(6,.sh (.slice T58) [.slice A11_ e.2.2.2.2.2.1.length c12_] e.2.2.2.2.2.1),(7,.sh (.slice T58) [.slice A13_ e.2.2.2.2.2.2.1.length c14_] e.2.2.2.2.2.2.1),(8,.sh (.slice T58) [.slice A15_ e.2.2.2.2.2.2.2.1.length c16_] e.2.2.2.2.2.2.2.1),(9,.sh (.slice T58) [.slice A17_ e.2.2.2.2.2.2.2.2.1.length c18_] e.2.2.2.2.2.2.2.2.1),(10,.sh (.slice T58) [.slice A19_ e.2.2.2.2.2.2.2.2.2.1.length c20_] e.2.2.2.2.2.2.2.2.2.1),(11,.sh (.slice T58) [.slice A21_ e.2.2.2.2.2.2.2.2.2.2.1.length c22_] e.2.2.2.2.2.2.2.2.2.2.1),(12,.sh (.slice T58) [.slice A23_ e.2.2.2.2.2.2.2.2.2.2.2.1.length c24_] e.2.2.2.2.2.2.2.2.2.2.2.1),(13,.sh (.slice T58) [.slice A25_ e.2.2.2.2.2.2.2.2.2.2.2.2.1.length c26_] e.2.2.2.2.2.2.2.2.2.2.2.2.1),(14,.sh (.slice T58) [.slice A27_ e.2.2.2.2.2.2.2.2.2.2.2.2.2.1.length c28_] e.2.2.2.2.2.2.2.2.2.2.2.2.2.1),(15,.sh (.slice T58) [.slice A29_ e.2.2.2.2.2.2.2.2.2.2.2.2.2.2.1.length c30_] e.2.2.2.2.2.2.2.2.2.2.2.2.2.2.1),(16,.sh (.slice T58) [.slice A31_ e.2.2.2.2.2.2.2.2.2.2.2.2.2.2.2.length c32_] e.2.2.2.2.2.2.2.2.2.2.2.2.2.2.2)] [] (fun v H'=>∃(A0':Option Addr) (c1':Nat),v=.slice A0' r.length c1'/\H'=[(0,.own T42 43 A0' c1' r)]):=by
 refine A.Ct.enterM Tryz.func14 rfl Tryz.ntmps14 rfl fun w0 F0=>?_;rw[F.an]at t;refine Jz 1 ?_;refine J8 17 (cs:=[A.i B]) fun Y=>?_;refine J3 1 [] 2 ?_;refine Jw 18 (cs:=[.slice none 0 0]) Tryz.zeroValue29 fun E=>?_;refine Vr 3 ?_;refine V6 1 [(8,.func (.func 26) #[] #[.pointer (some ⟨g0_,0,none⟩)])] (Vt rfl (fun a w hf hh=>Z.r_eqfn rfl (hf.eval rfl)) ?_);refine Uj 1 ?_;refine J1 rfl ?_;refine J4 4 1 [(10,.func (.func 26) #[] #[.pointer (some ⟨g0_,0,none⟩)])] 2 ?_;refine Uy 25 T42 43 ?_;have⟨U,a0,t⟩:=Us t;refine A.AX.rgf 26 27 28 [0,1,2,3,4,5,6,7,8,9,10,11,12,13,14,15,16,17] [18,25,0,1,2,3,4,5,6,7,8,9,10,11,12,13,14,15,16,17] [27,26,18,25,0,1,2,3,4,5,6,7,8,9,10,11,12,13,14,15,16,17] (fun k nh=>∃(h:List D42)(u:Option Addr)(y:Nat),nh=[(18,.blk E 29 [.slice u h.length y]),(25,.own T42 43 u y h)]/\F.p B (List.drop k U) h=some r) [(18,.blk E 29 [.slice none 0 0]),(25,.own T42 43 none 0 [])] cf26 (o_aH A1_ A3_ A5_ A7_ A9_ A11_ A13_ A15_ A17_ A19_ A21_ A23_ A25_ A27_ A29_ A31_ g0_ c2_ c4_ c6_ c8_ c10_ c12_ c14_ c16_ c18_ c20_ c22_ c24_ c26_ c28_ c30_ c32_ e U a0) (fun _=>rfl) ⟨[],none,0,rfl,t⟩ ?_ ?_ ?_
 ·rintro a2 _ D19 L20 ⟨h,u,y,rfl,t⟩;exact⟨⟨_,(.s 0 (.s 1 (.s 2 (.s 3 (.s 4 (.s 5 (.s 6 (.s 7 (.s 8 (.s 9 (.s 10 (.s 11 (.s 12 (.s 13 (.s 14 (.s 15 (.s 16 .nil)))))))))))))))))⟩,rfl,fun o=>rfl⟩
 ·rintro a2 _ z D19 L20 a4 a5 ⟨h,u,y,rfl,t⟩ hx29 hxo30 W;intro I J;rw[A.drop_at hx29,F.p]at t
  refine Jz 1 ?_;refine J3 1 [(6,A.i z.1)] 1 ?_;refine V6 1 [(7,.slice I z.2.length J)] (Ju ?_);refine A.AE.flip 26 27 fun a6=>?_;refine Ug 3 [18,17] [] [.b 0 0,.n,.b 1 0,.n] [(16,.bool (decide (B<=(h.length:Int))))] 1 ?_;refine A.c t ?_ ?_<;>intro hb t
  ·refine A.AX.bexit W [27,1,2,3,4,5,6,7,8,9,10,11,12,13,14,15,16,17,18,25,28,26] 100000 [(27,100027),(1,100001),(2,100002),(3,100003),(4,100004),(5,100005),(6,100006),(7,100007),(8,100008),(9,100009),(10,100010),(11,100011),(12,100012),(13,100013),(14,100014),(15,100015),(16,100016),(17,100017),(18,100018),(25,100025),(28,100028),(26,100026),(0,0)] [(1,.sh (.slice T58) [.slice A1_ e.1.length c2_] e.1),(2,.sh (.slice T58) [.slice A3_ e.2.1.length c4_] e.2.1),(3,.sh (.slice T58) [.slice A5_ e.2.2.1.length c6_] e.2.2.1),(4,.sh (.slice T58) [.slice A7_ e.2.2.2.1.length c8_] e.2.2.2.1),(5,.sh (.slice T58) [.slice A9_ e.2.2.2.2.1.length c10_] e.2.2.2.2.1),(6,.sh (.slice T58) [.slice A11_ e.2.2.2.2.2.1.length c12_] e.2.2.2.2.2.1),(7,.sh (.slice T58) [.slice A13_ e.2.2.2.2.2.2.1.length c14_] e.2.2.2.2.2.2.1),(8,.sh (.slice T58) [.slice A15_ e.2.2.2.2.2.2.2.1.length c16_] e.2.2.2.2.2.2.2.1),(9,.sh (.slice T58) [.slice A17_ e.2.2.2.2.2.2.2.2.1.length c18_] e.2.2.2.2.2.2.2.2.1),(10,.sh (.slice T58) [.slice A19_ e.2.2.2.2.2.2.2.2.2.1.length c20_] e.2.2.2.2.2.2.2.2.2.1),(11,.sh (.slice T58) [.slice A21_ e.2.2.2.2.2.2.2.2.2.2.1.length c22_] e.2.2.2.2.2.2.2.2.2.2.1),(12,.sh (.slice T58) [.slice A23_ e.2.2.2.2.2.2.2.2.2.2.2.1.length c24_] e.2.2.2.2.2.2.2.2.2.2.2.1),(13,.sh (.slice T58) [.slice A25_ e.2.2.2.2.2.2.2.2.2.2.2.2.1.length c26_] e.2.2.2.2.2.2.2.2.2.2.2.2.1),(14,.sh (.slice T58) [.slice A27_ e.2.2.2.2.2.2.2.2.2.2.2.2.2.1.length c28_] e.2.2.2.2.2.2.2.2.2.2.2.2.2.1),(15,.sh (.slice T58) [.slice A29_ e.2.2.2.2.2.2.2.2.2.2.2.2.2.2.1.length c30_] e.2.2.2.2.2.2.2.2.2.2.2.2.2.2.1),(16,.sh (.slice T58) [.slice A31_ e.2.2.2.2.2.2.2.2.2.2.2.2.2.2.2.length c32_] e.2.2.2.2.2.2.2.2.2.2.2.2.2.2.2),(17,.blk Y 3 [A.i B]),(18,.blk E 29 [.slice u h.length y]),(25,.own T42 43 u y h),(28,.sh (.slice T58) [.slice I z.2.length J] z.2),(26,.ob D19 A.dfT),(0,.el none g0_ 0 (A.rah e A1_ c2_ A3_ c4_ A5_ c6_ A7_ c8_ A9_ c10_ A11_ c12_ A13_ c14_ A15_ c16_ A17_ c18_ A19_ c20_ A21_ c22_ A23_ c24_ A25_ c26_ A27_ c28_ A29_ c30_ A31_ c32_))] ?_ rfl rfl
   refine A.AE.x rfl ?_;refine A.el 2 ?_;refine Vf [18] [] [.b 0 0,.n] [(4,.slice u h.length y)] 1 ?_;obtain rfl:=Vo t;exact Uq (Ds:=[D19]) [26] [(0,25)] (.slice u h.length y) (⟨rfl,trivial⟩) (fun a w hf hh=>Um rfl (Un hf rfl)) (⟨u,y,rfl,rfl⟩)
  refine Ud 2 [18] [] [.b 0 0,.n,.n,.n] [(17,.slice u h.length y),(20,.agg #[A.i z.1,.slice I z.2.length J])] ?_;refine V7 31 (ty:=T42) (cs:=[A.i z.1,.slice I z.2.length J]) [z] ⟨⟨⟨rfl,hxo30.1⟩,.inl ⟨28,rfl⟩⟩,rfl⟩ (fun a7=>?_) Tryz.zeroValue43 Tryz.sizeOf43
  have⟨hl37,t⟩:=V3 t;refine V9 (k:=25) [] (Uu (k:=31) rfl) inf43 hl37 fun L N=>?_;refine Vw 18 [] [.slice L ((h++[z]).length) N] ?_;refine A.de 1 ?_;exact A.AE.bn W [27,26,18,25,1,2,3,4,5,6,7,8,9,10,11,12,13,14,15,16,17] 100000 [(27,100027),(26,100026),(18,100018),(25,100025),(0,0),(1,100001),(2,100002),(3,100003),(4,100004),(5,100005),(6,100006),(7,100007),(8,100008),(9,100009),(10,100010),(11,100011),(12,100012),(13,100013),(14,100014),(15,100015),(16,100016),(17,100017)] [(18,.blk E 29 [.slice L ((h++[z]).length) N]),(25,.own T42 43 L N (h++[z]))] ⟨(h++[z]),L,N,rfl,t⟩ rfl rfl
 rintro _ D19 L20 ⟨h,u,y,rfl,t⟩;rw[Y6,F.p]at t
 refine A.el 3 ?_;refine Vf [18] [] [.b 0 0,.n] [(4,.slice u h.length y)] 1 ?_;obtain rfl:=Vo t;exact Uq (Ds:=[D19]) [26] [(0,25)] (.slice u h.length y) (⟨rfl,trivial⟩) (fun a w hf hh=>Um rfl (Un hf rfl)) (⟨u,y,rfl,rfl⟩)
def F.ag (e:Bool):Option Bool:=some e
def F.au (k:D23)(o:(List D58))(p:(List D42)):Nat->(List D58)->Int->Option Bool
 |0,_,_=>none
 |f+1,e,h=>if h<(p.length:Int)then((A.ix p h).bind fun s=>(A.gd ((List.length (α:=D58) e+List.length (α:=D58) s.2)*40<=140737488355328) (A.gd (Z.R64 (h+1)) ((F.au k o p f) (e++s.2) (h+1)))))else(if(e.length:Int)=(o.length:Int)then((F.bu k e).bind fun t=>((F.bu k o).bind fun u=>((F.cD t u).bind fun x=>(F.ag x))))else(F.ag false))
def F.av (k:D23)(e:UInt8)(h:(List D58))(o:Bool):Option Bool:=if o=true then((F.dp).bind fun p=>(some p))else(A.gd (Z.R64 ((e.toNat:Int))/\(16:Int)≠0/\Z.R64 (1+(Int.tmod (e.toNat:Int) 16))) ((F.b5 (1+(Int.tmod (e.toNat:Int) 16)) h).bind fun s=>((F.an s 99).bind fun t=>(F.au k h t A.FU [] 0))))
def F.b9 (e:D23)(k:UInt8)(h:(List D58)):Option Bool:=(F.dp).bind fun o=>(if(!o)=true then(F.av e k h true)else((F.dw e).bind fun p=>(if(!p)=true then(F.av e k h true)else((F.c2 [] h).bind fun s=>(F.av e k h (!s))))))
theorem o_aR(p:D23)(y:UInt8)(t:(List D58))(r:Bool)(h:F.b9 p y t=some r):
    A.Ct Tryz.prog 4 [.agg #[.slice A0_ p.length c1_],.int .u8 (y.toNat:Int),.slice A2_ t.length c3_] [(0,.sh (.slice T48) [.slice A0_ p.length c1_] p),(1,.sh (.slice T58) [.slice A2_ t.length c3_] t),(2,.el none 0 0 A.tabF),(3,.el none 1 0 A.tabA)] [] (fun v H'=>v=.bool r/\H'=[]):=by
 refine Jv Tryz.func4 rfl Tryz.ntmps4 rfl fun w0 F0=>?_;rw[F.b9]at h;refine Jz 1 ?_;refine J8 4 (cs:=[.slice A0_ p.length c1_]) fun g1=>?_;refine Ve 1 [] 2 ?_;refine J7 [1,2,3] l5k (fun I J=>∃(N:Bool),I=[(22,.bool N)]/\J=[]/\F.av p y t N=some r) ?_ ?_
 ·refine Jz 0 ?_;refine Vx 5 [] h o_aA .nil ?_;rintro aa - h _ _ ⟨rfl,rfl⟩;refine J5 (V6 2 [(12,.bool (!aa))] (Ue (j:=12) rfl h (fun h=>?_) (fun h=>?_)))
  ·refine J9 [] [] [.off,.off,.off,.off,.n,.n,.off,.off,.off,.n] [(22,.bool true)] (Ju ?_);exact Vz ⟨true,rfl,rfl,h⟩
  refine J9 [4] [] [.on .n,.on (.b 0 0)] [(14,.slice A0_ p.length c1_)] (J2 (dj:=12) rfl rfl ?_);refine Vx 45 [] h (o_bY A0_ c1_ p) (.s 0 .nil) ?_;rintro ab - h _ _ ⟨rfl,rfl⟩;refine J5 (J9 [] [] [.on .n,.n,.n] [(18,.bool (!ab))] (Ue (j:=18) rfl h (fun h=>?_) (fun h=>?_)))
  ·refine J9 [] [] [.off,.off,.off,.n] [(22,.bool true)] (Ju ?_);exact Vz ⟨true,rfl,rfl,h⟩
  refine J9 [] [] [.on .n] [(19,.slice A2_ t.length c3_)] (J2 (dj:=18) rfl rfl ?_);refine Vx 85 [] h (o_bF none A2_ 0 c3_ [] t) (.ns (.s 1 .nil)) ?_;rintro a3 - h _ _ ⟨rfl,rfl⟩;refine J5 (J9 [] [] [.on .n,.n] [(22,.bool (!a3))] (Ju ?_));exact Vz ⟨(!a3),rfl,rfl,h⟩
 rintro _ _ ⟨N,rfl,rfl,h⟩;rw[F.av]at h;refine Up h ?_ ?_<;>intro hb h
 ·refine Jz 1 ?_;refine Vx 125 [] h o_aA .nil ?_;rintro r3 - h _ _ ⟨rfl,rfl⟩;refine J5 (Ve 1 [(6,.bool r3)] 1 ?_);exact A.ke h (Vi ⟨rfl,rfl⟩)
 refine Jz 3 ?_;refine J3 1 [(7,.slice none 0 0)] 3 ?_;have⟨a4,h⟩:=V3 h;refine Uf 5 [Z.R64 ((y.toNat:Int)),(16:Int)≠0,Z.R64 (1+(Int.tmod (y.toNat:Int) 16))] [(27,A.i (1+(Int.tmod (y.toNat:Int) 16))),(28,.slice A2_ t.length c3_)] a4 ?_;refine Vx 165 [] h (o_bj A2_ c3_ (1+(Int.tmod (y.toNat:Int) 16)) t (J0 a4.2.2)) (.s 1 .nil) ?_;rintro r6 - h _ _ ⟨g8,A9,ac,ad,ae,ah,aj,ak,al,am,an,ao,ap,aq,ar,aw,ax,ay,az,b0,b1,b2,b3,b4,b5,b6,b7,bb,bc,be,bf,bg,bh,rfl,rfl⟩;refine J5 ?_;have⟨L,bi,h⟩:=Us h;refine A.AL.call 205 [] (first:=[]) (cap:=[]) cf14 (o_ag A9 ad ah ak am ao aq aw ay b0 b2 b4 b6 bb be bg g8 ac ae aj al an ap ar ax az b1 b3 b5 b7 bc bf bh r6 99 (Vg 99) L bi) (.b 165 (.s 166 (.s 167 (.s 168 (.s 169 (.s 170 (.s 171 (.s 172 (.s 173 (.s 174 (.s 175 (.s 176 (.s 177 (.s 178 (.s 179 (.s 180 (.s 181 .nil))))))))))))))))) ?_;rintro _ _ ⟨bu,bw,rfl,rfl⟩;refine J5 (Ve 2 [(31,A.i (L.length:Int)),(32,A.i 0)] 2 ?_);refine Uy 369 T58 59 ?_;refine V5 [2,3,30,31] [0,1,2,3,4,205] (fun f I J=>∃(u:List D58)(x:Int)(B:Option Addr)(E:Nat),I=[(7,.slice B u.length E),(32,A.i x)]/\J=[(369,.own T58 59 B E u)]/\A.h6 x/\F.au p t L f u x=some r) ⟨[],0,none,0,rfl,rfl,Vb,h⟩ ?_;rintro a5 _ _ ⟨u,x,B,E,rfl,rfl,bx,h⟩;rcases a5 with _|a5
 ·exact V0 h
 rw[F.au]at h;refine V1 1 1 [(33,.bool (decide (x<(L.length:Int))))] 2 h ?_ ?_<;>intro hb h
 ·refine Jz 5 ?_;have⟨z,bj,h⟩:=Us h;refine A.AL.ixo 205 616 bj fun bz=>?_;intro U W c0 c1;refine J9 [] [616] [.e 0 0] [(35,.agg #[A.i z.1,.slice U z.2.length W])] (Jw 618 (cs:=[A.i 0,.slice none 0 0]) Tryz.zeroValue43 fun c2=>?_);refine Vw 618 [] [A.i z.1,.slice U z.2.length W] ?_;refine Vr 1 ?_;refine J9 [618] [] [.n,.n,.b 0 1] [(36,.slice B u.length E),(38,.slice U z.2.length W)] ?_;have⟨hl61,h⟩:=V3 h;refine V9 (k:=369) [] (A.rowS (k:=617) rfl) inf59 hl61 fun a6 a7=>?_;refine J3 1 [(7,.slice a6 ((u++z.2).length) a7)] 2 ?_;have⟨a8,h⟩:=V3 h;refine Uf 2 [Z.R64 (x+1)] [(32,A.i (x+1))] a8 (Ju ?_);exact Vz ⟨_,Qy _,⟨(u++z.2),(x+1),a6,a7,rfl,rfl,(J0 a8),h⟩⟩
 refine Uc 2 ?_;refine J7 [] [2,3] (fun I J=>∃(Y:Bool),I=[(6,.bool Y)]/\J=[]/\F.ag Y=some r) ?_ ?_
 ·refine V4 mixed 15 15 (A.mb 15 0) ?_;refine Vs Vj [] l5c [] [] (A.mb 15 63) 9 [(0,.n),(2,.n),(1,.n),(3,.n),(4,.n),(5,.n)] [(46,.bool (decide ((u.length:Int)=(t.length:Int))))] (A.AH.cnp (j:=46) rfl h ?_ ?_)<;>intro hb h
  ·refine Vs Vj l5c l5c [4] [] (A.mb 15 1791) 5 [(6,.on (.b 0 0)),(7,.on .n),(9,.on (.b 0 0)),(10,.on .n)] [(47,.agg #[.slice A0_ p.length c1_]),(48,.slice B u.length E),(50,.agg #[.slice A0_ p.length c1_]),(51,.slice A2_ t.length c3_)] (J6 8 ?_);refine J2 (dj:=46) rfl rfl ?_;refine Vx 619 [] h (o_aG A0_ B c1_ E p u) (.s 0 (.o 369 (.s 2 (.s 3 .nil)))) ?_;rintro bk - h _ _ ⟨bm,bp,rfl,rfl⟩;refine J5 (Vc (A.mb 15 2047) l5c ?_);refine J6 11 ?_;refine J2 (dj:=46) rfl rfl ?_;refine Vx 659 [] h (o_aG A0_ A2_ c1_ c3_ p t) (.s 0 (.l 1 (.s 2 (.s 3 .nil)))) ?_;rintro bq - h _ _ ⟨br,bt,rfl,rfl⟩;refine J5 (Vc (A.mb 15 4095) l5c ?_);refine J6 12 ?_;refine J2 (dj:=46) rfl rfl ?_;refine Vx 699 [] h (o_bL bm br bp bt bk bq) (.o 619 (.o 659 .nil)) ?_;rintro a9 - h _ _ ⟨rfl,rfl⟩;refine J5 (Vc (A.mb 15 8191) l5c ?_);refine Vs Vj l5c [0,1,2,3,4,205,369,619,659] [] [] (A.mb 15 32767) 0 [(13,.n),(14,.n)] [(6,.bool a9)] (Va ?_);exact Vz ⟨a9,rfl,rfl,h⟩
  refine Vs Vj l5c l5c [] [] (A.mb 15 32767) 0 [(6,.off),(7,.off),(9,.off),(10,.off),(8,.off),(11,.off),(12,.off),(13,.n),(14,.n)] [(6,.bool false)] (Va ?_);exact Vz ⟨false,rfl,rfl,h⟩
 rintro _ _ ⟨Y,rfl,rfl,h⟩;rw[F.ag]at h;exact A.ke h (Vi ⟨rfl,rfl⟩)
end Go.Proofs.YtligcbdjiolamaaGreatDoor
end
section
namespace Go.Proofs.YtligcbdjiolamaaGreatDoor
open Go.RowKit
end Go.Proofs.YtligcbdjiolamaaGreatDoor
end
section
end
section
namespace Go.A
open Go.RowKit Go.Z Go.Shelf Go.Proofs Go.Lib
def Hall (W:World):List (Nat×Res)->Prop
 | []=>True
 |p::H=>(p.2.bl=[]/\p.2.ref=none/\p.2.holds W (fun _=>True) (fun _ _=>False))/\Hall W H
theorem Hall.at {W:World}: ∀{H:List (Nat×Res)} {k:Nat} {r:Res},Hall W H->hk H k=some r->r.bl=[]/\r.ref=none/\r.holds W (fun _=>True) (fun _ _=>False)
 | [],_,_,_,h=>by cases h
 |(d,u)::H,k,r,ha,h=>by
  rw[Qab]at h
  split at h
  ·injection h with h;subst h;exact ha.1
  ·exact ha.2.at h
theorem Hp.start {W:World}{H:List (Nat×Res)}(h:Hall W H):Hp ⟨0,[],W,[],fun _=>True⟩ H W:=by
 have hb: ∀k b,¬Bk H k b:=fun k b ⟨r,h1,h2⟩=>by rw[(h.at h1).1]at h2;cases h2
 refine⟨Ch.refl W,fun k r hk=>?_,fun k b hB=>(hb k b hB).elim,fun k k' b hB=>(hb k b hB).elim,fun k r j hk hr=>?_⟩
 ·exact Res.to (S:=[]) (h.at hk).2.2 (Ch.refl W) (fun b _ _=>⟨by simp,fun k=>hb k b,.inl trivial⟩) (fun b _ _=>⟨by simp,fun k=>hb k b⟩) (fun i b _ hf=>hf.elim) (by simp)
 ·rw[(h.at hk).2.1]at hr;cases hr
theorem Hall.sh {W:World}{t:Ty}{cs:List Value}{x:t.den}{F:Nat->Prop}(h:t.rep W F cs x):(Res.sh t cs x).bl=[]/\(Res.sh t cs x).ref=none/\(Res.sh t cs x).holds W (fun _=>True) (fun _ _=>False):=
 ⟨rfl,rfl,Qjb h fun _ _ _=>trivial⟩
def putCells (cs:List Value):Obj->Obj
 | .cells _ t frozen=>.cells cs.toArray t frozen
 |o=>o
theorem tab_cells {w:World}{g3 g4:Nat}(h:Lib.Utf8Tabs g3 g4 w):Cells w ⟨g3,0,none⟩ tabF/\Cells w ⟨g4,0,none⟩ tabA:=by
 constructor
 ·intro j u hu
  rw[Addr.add_lit,Ww]
  have hj:j<256:=by have:=(Qd.1 hu).1;simpa[tabF] using this
  have e:tabF[j]?=some (.int .u8 (firstT j)):=by simp[tabF,hj]
  rw[e]at hu;injection hu with hu;subst hu
  exact h.1 j hj
 ·intro j u hu
  rw[Addr.add_lit,Ww]
  have hj:j<32:=by have:=(Qd.1 hu).1;simpa[tabA] using this
  have e:tabA[j]?=some (.int .u8 (if j%2=0 then accLo (j / 2)else accHi (j / 2))):=by simp[tabA,hj]
  rw[e]at hu;injection hu with hu;subst hu
  have:=h.2 (j / 2) (by omega)
  by_cases he:j%2=0
  ·rw[Qc he]
   have hj2:j=2*(j / 2):=by omega
   rw[hj2];simpa using this.1
  ·rw[Qb he]
   have hj2:j=2*(j / 2)+1:=by omega
   have h3:(2*(j / 2)+1) / 2=j / 2:=by omega
   rw[hj2,h3];exact this.2
theorem Hall.tabs {w:World}{g3 g4 i j:Nat}(h:Lib.Utf8Tabs g3 g4 w):Hall w [(i,.el none g3 0 tabF),(j,.el none g4 0 tabA)]:=by
 obtain⟨h1,h2⟩:=tab_cells h
 exact⟨⟨rfl,rfl,h1,World.block_lt_of_cell? w _ (h1 0 (.int .u8 (firstT 0)) (by simp[tabF])),fun _ h=>h⟩,⟨rfl,rfl,h2,World.block_lt_of_cell? w _ (h2 0 (.int .u8 (accLo 0)) (by simp[tabA])),fun _ h=>h⟩,trivial⟩
end Go.A
end
section
namespace Go.Graph
abbrev Fun:=Int×Int×ByteArray
abbrev Nd:=Int×Int×List Int×Fun×ByteArray×Int×Int
abbrev Pl:=Int×Int
abbrev Sp:=Pl×Int
abbrev id (x:Nd):Int:=x.1
abbrev kind (x:Nd):Int:=x.2.1
abbrev fn (x:Nd):Fun:=x.2.2.2.1
abbrev name (x:Nd):ByteArray:=x.2.2.2.2.1
abbrev cap (x:Nd):Int:=x.2.2.2.2.2.1
abbrev dep (x:Nd):Int:=x.2.2.2.2.2.2
def Few (g:List Nd):Prop:=g.length<=40/\∀x,x∈g->x.2.2.1.length<=5000/\x.2.2.2.2.1.size<=5000/\x.2.2.2.1.2.2.size<=5000
theorem Few.in {g:List Nd}{k:Nat}{x:Nd}(h:Few g)(hx:g[k]?=some x):x.2.2.1.length<=5000:=(h.2 x (Qm hx)).1
def insK (k:Int):Int:=if k<1\/16<k then-1 else if k=1 then 0 else if k=5\/k=9 then 2 else 1
def Qay (c:UInt8):Bool:=decide ((97:Int)<=(c.toNat:Int)/\(c.toNat:Int)<=122\/(65:Int)<=(c.toNat:Int)/\(c.toNat:Int)<=90)
def Qif (c:UInt8):Bool:=decide ((48:Int)<=(c.toNat:Int)/\(c.toNat:Int)<=57)
def Qdl (l:List UInt8):Bool:=l.all fun c=>Qay c||Qif c
def named (s:ByteArray):Bool:=decide (s≠ByteArray.mk #[])&&decide ((s.size:Int)<=16)&&Qay (Z.bat s 0)&&Qdl s.data.toList
theorem Qhc {s:ByteArray}{i:Nat}(h:i<s.size):s.data.toList.drop i=Z.bat s i::s.data.toList.drop (i+1):=by
 have h':i<s.data.toList.length:=by simpa using h
 rw[Ym h']
 have h2:i<s.data.size:=h
 congr 1
 simp[Z.bat,Wh h2]
theorem Qhk {s:ByteArray}{i:Nat}(h: ¬i<s.size):s.data.toList.drop i=[]:=
 W6 (by have h1:s.data.toList.length=s.size:=rfl;omega)
theorem Qhd {s:ByteArray}(h:s≠ByteArray.mk #[]):0<s.size:=by
 rcases Nat.eq_zero_or_pos s.size with h0|h0
 ·have h1:s.data=#[]:=Yu h0
  exact absurd (by cases s;simp_all) h
 ·exact h0
def idxF (id:Int):Nat->List Nd->Int
 |_,[]=> -1
 |k,x::r=>if x.1=id then(k:Int)else idxF id (k+1) r
def idx (g:List Nd)(id:Int):Int:=idxF id 0 g
def Qdf (kd:Int)(s:ByteArray):List Nd->Int×Bool
 | []=>(0,false)
 |x::r=>if kind x=kd/\name x=s then(x.1,true)else Qdf kd s r
def z0:Nd:=(0,0,[],(0,0,ByteArray.mk #[]),ByteArray.mk #[],0,0)
def at_ (g:List Nd)(i:Int):Nd:=(g[i.toNat]?).getD z0
def find (g:List Nd)(id:Int):Nd×Bool:=if idx g id<0 then(z0,false)else(at_ g (idx g id),true)
theorem idxF_le (id:Int): ∀(k:Nat) (g:List Nd),-1<=idxF id k g/\idxF id k g<k+g.length
 |k,[]=>by simp[idxF];omega
 |k,x::r=>by
  unfold idxF
  have:=idxF_le id (k+1) r
  by_cases h:x.1=id
  ·rw[Qc h];simp only[Ql];omega
  ·rw[Qb h];simp only[Ql];omega
theorem idx_le (g:List Nd)(id:Int): -1<=idx g id/\idx g id<g.length:=by
 have:=idxF_le id 0 g
 unfold idx;omega
theorem Qbg {g:List Nd}{i:Int}{x:Nd}{k:Nat}(hk:i=(k:Int))(h:g[k]?=some x):at_ g i=x:=by
 subst hk;simp[at_,h]
def ownT (g:List Nd)(n:Nd):Bool:=if n.2.1≠1/\n.2.1≠15 then decide (n.2.2.2.2.1=ByteArray.mk #[])else named n.2.2.2.2.1&&decide ((Qdf n.2.1 n.2.2.2.2.1 g).1=n.1)
def ownC (n:Nd):Prop:=n.2.1=14/\(n.2.2.2.2.2.1<1\/8<n.2.2.2.2.2.1\/n.2.2.2.2.2.2<1\/4<n.2.2.2.2.2.2)\/n.2.1≠14/\(n.2.2.2.2.2.1≠0\/n.2.2.2.2.2.2≠0)
instance (n:Nd):Decidable (ownC n):=by unfold ownC;infer_instance
def own (g:List Nd)(i:Int)(n:Nd):Bool:=
 if n.1<1\/255<n.1\/0<i/\n.1<=(at_ g (i-1)).1\/insK n.2.1<0\/(n.2.2.1.length:Int)≠insK n.2.1 then false else if ownC n then false else ownT g n
def bget (l:List Bool)(i:Int):Bool:=(l[i.toNat]?).getD false
def iget (l:List Int)(i:Int):Int:=(l[i.toNat]?).getD 0
def Fed (g:List Nd):Prop:=∀x,x∈g->∀k,k∈x.2.2.1->0<=idx g k
def Qjd (g:List Nd)(done:List Bool)(kd:Int):List Int->Bool
 | []=>true
 |k::r=>if kd≠14/\bget done (idx g k)=false then false else Qjd g done kd r
def ready (g:List Nd)(done:List Bool)(n:Nd):Bool:=Qjd g done n.2.1 n.2.2.1
def Qae (g:List Nd)(done:List Bool):Nat->List Nd->Int->Int
 |_,[],a=>a
 |i,x::r,a=>Qae g done (i+1) r (if(a<0/\bget done i=false)/\ready g done x=true then i else a)
def Qbv (g:List Nd):Nat->List Bool->List Int->Option (List Int)
 |0,_,l=>some l
 |f+1,done,l=>if Qae g done 0 g (-1)<0 then none else Qbv g f (done.set (Qae g done 0 g (-1)).toNat true) (l++[Qae g done 0 g (-1)])
def order (g:List Nd):List Int×Bool:=match Qbv g g.length (List.replicate g.length false) []with
 |some l=>(l,true)
 |none=>([],false)
def d0:List Int->Int
 | []=>0
 |a::_=>a
def capd (d:Int):Int:=if 4<d then-1 else d
def Qjo (n:Nd)(l:List Int):Int:=if n.2.1=14 then n.2.2.2.2.2.2 else if n.2.1=12 then d0 l+1 else if n.2.1=13 then d0 l-1 else
 if n.2.1=5\/n.2.1=9 then(if iget l 0≠iget l 1 then-1 else d0 l)else if n.2.1=11\/n.2.1=16\/n.2.1=15 then(if d0 l≠0 then-1 else d0 l)else d0 l
def depthOf (n:Nd)(l:List Int):Int:=capd (Qjo n l)
theorem d0_iget {l:List Int}:iget l 0=d0 l:=by cases l<;>rfl
theorem d0_nil {l:List Int}(h:l.length=0):0=d0 l:=by cases l with
 |nil=>rfl
 |cons a r=>simp at h
def Qba (g:List Nd):List Int->List Int->Option (List Int)
 | [],d=>some d
 |p::r,d=>if depthOf (at_ g p) ((at_ g p).2.2.1.map fun k=>iget d (idx g k))<0 then none else Qba g r (d.set p.toNat (depthOf (at_ g p) ((at_ g p).2.2.1.map fun k=>iget d (idx g k))))
def Qbu (g:List Nd)(d:List Int):List Nd->Bool
 | []=>true
 |x::r=>if x.2.1=14/\iget d (idx g (iget x.2.2.1 0))≠x.2.2.2.2.2.2 then false else Qbu g d r
theorem Qet (g:List Nd)(done:List Bool): ∀(i:Nat) (l:List Nd) (a:Int),-1<=a->a<i+l.length-> -1<=Qae g done i l a/\Qae g done i l a<i+l.length
 |i,[],a,h1,h2=>by simp[Qae]at*;omega
 |i,x::r,a,h1,h2=>by
  unfold Qae
  simp only[Ql]at h2 ⊢
  have:=Qet g done (i+1) r (if(a<0/\bget done i=false)/\ready g done x=true then i else a) (by split<;>omega) (by split<;>omega)
  omega
def depths (g:List Nd)(l:List Int):List Int×Bool:=match Qba g l (List.replicate g.length 0)with
 |some d=>if Qbu g d g then(d,true)else([],false)
 |none=>([],false)
abbrev inD (g:List Nd) (d:List Int) (l:List Int):List Int:=l.map fun k=>iget d (idx g k)
def InB (d:List Int):Prop:=∀i,0<=iget d i/\iget d i<=4
theorem InB.rep (n:Nat):InB (List.replicate n 0):=fun i=>by
 unfold iget;rw[Jd];split<;>simp
theorem Qgs (n:Nd)(l:List Int):depthOf n l<=4:=by unfold depthOf capd;split<;>omega
theorem InB.set {d:List Int}(h:InB d)(p:Nat){v:Int}(h0:0<=v)(h1:v<=4):InB (d.set p v):=fun i=>by
 unfold iget;rw[List.getElem?_set]
 have:=h i
 unfold iget at this
 split
 ·split<;>simp<;>omega
 ·exact this
theorem InB.d0 {d:List Int}(h:InB d)(g:List Nd)(l:List Int): -1<=Graph.d0 (inD g d l)/\Graph.d0 (inD g d l)<=4:=by
 cases l with
 |nil=>simp[Graph.d0]
 |cons k r=>have:=h (idx g k);simp only[inD,Q3,Graph.d0];omega
theorem inD_take {g:List Nd}{d l:List Int}{k:Nat}{x:Int}(h:l[k]?=some x):inD g d (l.take k)++[iget d (idx g x)]=inD g d (l.take (k+1)):=by
 have h1:=(Qd.1 h)
 rw[Yz,h];simp[inD]
def insS (g:List Nd)(d:List Int)(id:Int):Nat->List Int->List Sp
 |_,[]=>[]
 |k,x::r=>((id,(k:Int)),iget d (idx g x))::insS g d id (k+1) r
def outS (n:Nd)(v:Int):List Sp:=if n.2.1≠15 then [((n.1,2),v)]else []
def spotsF (g:List Nd)(d:List Int):Nat->List Nd->List Sp
 |_,[]=>[]
 |i,n::r=>insS g d n.1 0 n.2.2.1++(outS n (iget d i)++spotsF g d (i+1) r)
def spots (g:List Nd)(d:List Int):List Sp:=spotsF g d 0 g
def atS (p:Pl):List Sp->Int
 | []=> -1
 |x::r=>if x.1=p then x.2 else atS p r
abbrev Sm:=Int×Int×Int×Int×(Int×Int×Int×Int)
def z8:Sm:=(0,0,0,0,(0,0,0,0))
def stepP (d a b:Int)(s:Sm):Sm×Int:=if d<a\/b<d then(z8,11)else((d,s.2),0)
def idP (d:Int):Sm×Int:=stepP d 0 4 (0,d,0,0,(0,0,0,0))
def Qjh (d:Int):Sm×Int:=stepP d 0 3 (0,d,0,1,(0,0,0,0))
def Qji (d:Int):Sm×Int:=stepP d 1 4 (0,d-1,0,0,(0,0,0,0))
def nextP (d:Int):Sm×Int:=stepP d 1 4 (0,d,1,0,(0,0,0,0))
def Qdq (n:Nd)(d:Int):Sm:=if n.2.1=12 then(Qjh d).1 else if n.2.1=13 then(Qji d).1 else if n.2.1=14 then(nextP d).1 else(idP d).1
theorem Qjq (s:ByteArray)(pos:Nat):1<=(Utf8.decode s pos).2:=by
 unfold Utf8.decode;simp only[];repeat' split
 all_goals first|exact Qp 1|(simp;done)|omega
def Qdo (f:Fun):Bool:=if f.1=3\/f.1=13 then decide (0<=f.2.1/\f.2.1<=64)else if f.1=6\/f.1=11 then decide (1<=f.2.1/\f.2.1<=1048576)else decide (f.2.1=0)
def tail5 (c:UInt8):Bool:=decide (128<=(c.toNat:Int)/\(c.toNat:Int)<=191)
end Go.Graph
end
