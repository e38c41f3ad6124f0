import Derived.Test.YtlbdgahbamalcaaGreatDoorL4
set_option linter.unusedVariables false
set_option linter.unusedSimpArgs false
set_option maxRecDepth 20000
set_option maxHeartbeats 8000000
set_option synthInstance.maxSize 1000000
set_option synthInstance.maxHeartbeats 400000
set_option linter.unusedSectionVars false
section
namespace Go.Proofs.YtlbdgahbamalcaaGreatDoor
open Go.RowKit
abbrev l5a:List Value:=[A.i 0,A.i 0,.slice none 0 0,A.i 0,A.i 0,.string (ByteArray.mk #[]),.string (ByteArray.mk #[]),A.i 0,A.i 0]
abbrev l5b:List Nat:=[0,1,2,3,4,5,3600,6676,6677,6678]
abbrev l5c:List Nat:=[0,1,2,3,4,45,2048,2049,2050,2090]
abbrev l5d:List Nat:=[0,1,2,3,4,45,4049,4050,4051,4091]
abbrev l5e:List Nat:=[0,1,2,3,4,5,6676,6677,6678,7701]
abbrev l5f:List Value:=[A.i 0,A.i 0,A.i 0,.string (ByteArray.mk #[])]
abbrev l5g:List Nat:=[0,1,2,3,4,45,46,47,48,88]
abbrev l5h:List Value:=A.zz8
abbrev l5i:List Nat:=[0,1,2,3,4,5,6,7,8,588]
abbrev l5j:List Nat:=[1,2,3,131,132,133,173,174]
abbrev l5k:List Nat:=[0,1,2,3,4,5,6,500,501,502]
abbrev l5l:List Nat:=[0,1,2,3,4,5,3600,6676,6677,6678,8073]
abbrev l5m:List Value:=[A.i 0,A.i 0,A.i 0,A.i 0,A.i 0,A.i 0]
abbrev l5n:List Nat:=[0,1,2,3,4,5,6,2908,2909]
abbrev l5o:List Nat:=[1,2,3,131,132]
abbrev l5p:List Value:=[.slice none 0 0]
abbrev l5q:List Value:=[A.i 0,A.i 0]
variable(A0_ A1_ A2_ A4_ A5_ A6_ A7_ A8_ A13_:Option Addr)(b0_ g0_ b1_ c1_ b2_ c2_ g2_ b3_ c3_ b4_ g4_ b5_ c5_ b6_ c6_ g6_ c7_ c8_ c9_ g10_ c14_:Nat)
def F.aR (h:Int)(k:Int)(o:Int)(p:Int)(s:Int)(u:Int)(y:Int)(z:Int):Option D205:=some (h,k,o,p,(s,u,y,z))
def F.cB (u:D33)(s:Int):Option D205:=if u.2.1=12 then((F.cJ s).bind fun h=>(F.aR h.1.1 h.1.2.1 h.1.2.2.1 h.1.2.2.2.1 h.1.2.2.2.2.1 h.1.2.2.2.2.2.1 h.1.2.2.2.2.2.2.1 h.1.2.2.2.2.2.2.2))else(if u.2.1=13 then((F.cK s).bind fun k=>(F.aR k.1.1 k.1.2.1 k.1.2.2.1 k.1.2.2.2.1 k.1.2.2.2.2.1 k.1.2.2.2.2.2.1 k.1.2.2.2.2.2.2.1 k.1.2.2.2.2.2.2.2))else(if u.2.1=14 then((F.cO s).bind fun o=>(F.aR o.1.1 o.1.2.1 o.1.2.2.1 o.1.2.2.2.1 o.1.2.2.2.2.1 o.1.2.2.2.2.2.1 o.1.2.2.2.2.2.2.1 o.1.2.2.2.2.2.2.2))else((F.cQ s).bind fun p=>(F.aR p.1.1 p.1.2.1 p.1.2.2.1 p.1.2.2.2.1 p.1.2.2.2.2.1 p.1.2.2.2.2.2.1 p.1.2.2.2.2.2.2.1 p.1.2.2.2.2.2.2.2))))
theorem o_bm(k:D33)(o:Int)(aa:A.h6 k.1)(ab:A.h6 k.2.1)(ac:A.h6 k.2.2.2.1.1)(ad:A.h6 k.2.2.2.1.2.1)(ae:k.2.2.2.1.2.2.size<=maxLen)(ag:k.2.2.2.2.1.size<=maxLen)(ah:A.h6 k.2.2.2.2.2.1)(aj:A.h6 k.2.2.2.2.2.2)(W:A.h6 o)(r:D205)(h:F.cB k o=some r):
    A.Ct Tryz.prog 139 [(A.rao k A2_ c3_),A.i o] [(0,.sh A.TI [.slice A2_ k.2.2.1.length c3_] k.2.2.1)] [] (fun v H'=>v=(A.rag r)/\H'=[]/\A.h6 r.1/\A.h6 r.2.1/\A.h6 r.2.2.1/\A.h6 r.2.2.2.1/\A.h6 r.2.2.2.2.1/\A.h6 r.2.2.2.2.2.1/\A.h6 r.2.2.2.2.2.2.1/\A.h6 r.2.2.2.2.2.2.2):=by
 refine Jv Tryz.func139 rfl Tryz.ntmps139 rfl fun w0 F0=>?_;rw[F.cB]at h;refine J0 1 ?_;refine J1 1 (cs:=(A.rai k A2_ c3_)) fun g1=>?_;refine Jy 2 (cs:=l5h) Tryz.zeroValue206 fun g2=>?_;refine Vk 2 ?_;refine Jy 3 (cs:=l5h) Tryz.zeroValue206 fun g3=>?_;refine V4 1 ?_;refine J4 [4,5] [2] (fun nl nh=>∃(z:Int)(B:Int)(E:Int)(I:Int)(J:Int)(L:Int)(N:Int)(U:Int),nl=[]/\nh=[(3,.blk g3 206 [A.i z,A.i B,A.i E,A.i I,A.i J,A.i L,A.i N,A.i U])]/\A.h6 z/\A.h6 B/\A.h6 E/\A.h6 I/\A.h6 J/\A.h6 L/\A.h6 N/\A.h6 U/\F.aR z B E I J L N U=some r) ?_ ?_
 ·refine Vy 1 [1] [] [.n,.b 0 1] [(7,A.i k.2.1)] ?_;refine Vk 3 ?_;refine Vc 2 [(13,.bool (decide (k.2.1=12)))] 1 ?_;refine Uv h ?_ ?_<;>intro hb h
  ·refine Ub 0 1 [(16,A.i o)] ?_;refine Vx 4 [] h (o_bH o W) .nil ?_;rintro p - h _ _ ⟨rfl,rfl,hr22,hr23,hr24,hr25,hr26,hr27,hr28,hr29,hr30⟩;refine J9 (V9 3 [(18,(A.rag p.1))] (Vg 3 [] (A.rac p.1) ?_));refine U4 1 ?_;exact Vn ⟨p.1.1,p.1.2.1,p.1.2.2.1,p.1.2.2.2.1,p.1.2.2.2.2.1,p.1.2.2.2.2.2.1,p.1.2.2.2.2.2.2.1,p.1.2.2.2.2.2.2.2,rfl,rfl,hr22,hr23,hr24,hr25,hr26,hr27,hr28,hr29,h⟩
  refine Vl 1 2 [(20,.bool (decide (k.2.1=13)))] 1 h ?_ ?_<;>intro hb h
  ·refine Ub 0 1 [(23,A.i o)] ?_;refine Vx 44 [] h (o_bI o W) .nil ?_;rintro s - h _ _ ⟨rfl,rfl,hr33,hr34,hr35,hr36,hr37,hr38,hr39,hr40,hr41⟩;refine J9 (V9 3 [(25,(A.rag s.1))] (Vg 3 [] (A.rac s.1) ?_));refine U4 1 ?_;exact Vn ⟨s.1.1,s.1.2.1,s.1.2.2.1,s.1.2.2.2.1,s.1.2.2.2.2.1,s.1.2.2.2.2.2.1,s.1.2.2.2.2.2.2.1,s.1.2.2.2.2.2.2.2,rfl,rfl,hr33,hr34,hr35,hr36,hr37,hr38,hr39,hr40,h⟩
  refine Vl 1 2 [(27,.bool (decide (k.2.1=14)))] 1 h ?_ ?_<;>intro hb h
  ·refine Ub 0 1 [(30,A.i o)] ?_;refine Vx 84 [] h (o_b5 o W) .nil ?_;rintro u - h _ _ ⟨rfl,rfl,hr44,hr45,hr46,hr47,hr48,hr49,hr50,hr51,hr52⟩;refine J9 (V9 3 [(32,(A.rag u.1))] (Vg 3 [] (A.rac u.1) ?_));refine U4 1 ?_;exact Vn ⟨u.1.1,u.1.2.1,u.1.2.2.1,u.1.2.2.2.1,u.1.2.2.2.2.1,u.1.2.2.2.2.2.1,u.1.2.2.2.2.2.2.1,u.1.2.2.2.2.2.2.2,rfl,rfl,hr44,hr45,hr46,hr47,hr48,hr49,hr50,hr51,h⟩
  refine Ub 0 1 [(9,A.i o)] ?_;refine Vx 124 [] h (o_aJ o W) .nil ?_;rintro y - h _ _ ⟨rfl,rfl,hr55,hr56,hr57,hr58,hr59,hr60,hr61,hr62,hr63⟩;refine J9 (V9 3 [(11,(A.rag y.1))] (Vg 3 [] (A.rac y.1) ?_));refine U4 1 ?_;exact Vn ⟨y.1.1,y.1.2.1,y.1.2.2.1,y.1.2.2.2.1,y.1.2.2.2.2.1,y.1.2.2.2.2.2.1,y.1.2.2.2.2.2.2.1,y.1.2.2.2.2.2.2.2,rfl,rfl,hr55,hr56,hr57,hr58,hr59,hr60,hr61,hr62,h⟩
 rintro _ _ ⟨z,B,E,I,J,L,N,U,rfl,rfl,a2,a3,a4,a5,a6,a7,a8,a9,h⟩;rw[F.aR]at h;refine Vy 1 [3] [] [.b 0 0] [(34,.agg #[A.i z,A.i B,A.i E,A.i I,A.i J,A.i L,A.i N,A.i U])] ?_;refine Vg 2 [] [A.i z,A.i B,A.i E,A.i I,A.i J,A.i L,A.i N,A.i U] ?_;refine V4 1 ?_;obtain rfl:=Vf h;exact Ug [] (.agg #[A.i z,A.i B,A.i E,A.i I,A.i J,A.i L,A.i N,A.i U]) (fun a w hf hh=>Uo rfl (Ut hf rfl Tryz.isAgg206 Tryz.sizeOf206 (Vq hh 2) rfl)) (⟨rfl,rfl,a2,a3,a4,a5,a6,a7,a8,a9⟩)
def F.aB (h:(List D33)):Option ((List D33)):=some h
theorem o_u(h:(List D33))(r:((List D33)))(k:F.aB h=some r):
    A.Ct Tryz.prog 169 [.slice A0_ h.length c1_] [(0,.sh (.slice T33) [.slice A0_ h.length c1_] h)] [] (fun v H'=>∃(g0':Nat) (A1':Option Addr) (c2':Nat),v=.func (.func 191) #[] #[.pointer (some ⟨g0',0,none⟩)]/\H'=[(0,.blk g0' 35 [.slice A1' r.length c2']),(1,.sh (.slice T33) [.slice A1' r.length c2'] r)]):=by
 refine Jv Tryz.func169 rfl Tryz.ntmps169 rfl fun p s=>?_;rw[F.aB]at k;refine J0 1 ?_;refine J1 1 (cs:=[.slice A0_ h.length c1_]) fun o=>?_;refine J7 1 [] 2 ?_;refine Vc 2 [(2,.func (.func 191) #[] #[.pointer (some ⟨o,0,none⟩)])] 1 ?_;obtain rfl:=Vf k;exact V7 [(0,1),(1,0)] ⟨o,A0_,c1_,rfl,rfl⟩
def F.u (k:(List D33)):Nat->Int->Option (List D33)
 |0,_=>none
 |f+1,h=>if h<(k.length:Int)then((A.ix k h).bind fun o=>(A.cns o (A.gd (Z.R64 (h+1)) ((F.u k f) (h+1)))))else(some [])
def F.an (h:(List D33)):Option (List D33):=F.u h A.FU 0
theorem o_o(o:(List D33))(xs:List D33)(h:F.an o=some xs):
    A.Sq Tryz.prog 191 [.pointer (some ⟨g0_,0,none⟩)] [(0,.el none g0_ 0 [.slice A1_ o.length c2_]),(1,.sh (.slice T33) [.slice A1_ o.length c2_] o)] T33 (fun cs=>[Z.vof true cs]) xs:=by
 refine A.Sq.enter Tryz.func191 rfl Tryz.ntmps191 rfl fun lid L J Jx Φ hY hJ0=>?_;obtain⟨rs0,hrs⟩: ∃rs0,rs0=xs:=⟨_,rfl⟩
 have hR0:A.Rem xs 0 rs0:=hrs▸A.Rem.zero xs
 rw[F.an,<-hrs]at h
 clear hrs
 refine Uh 1 [] [0] [.e 0 0,.n,.n] [(5,.slice A1_ o.length c2_),(6,A.i (o.length:Int)),(7,A.i 0)] 2 ?_;refine A.AX.loopC (A.CY 16 Φ) (0,L) [0,5,6] [1] [1] (fun f i N U=>∃(k:Int)(rs:List D33),N=[(7,A.i k)]/\U=[]/\A.h6 k/\J i.1 i.2/\A.Rem xs i.1 rs/\F.u o f k=some rs) A.FU [(7,A.i 0)] [] ⟨0,_,rfl,rfl,J3,hJ0,hR0,h⟩ ?_;rintro B ⟨W,w5⟩ _ _ ⟨k,rs8,rfl,rfl,a1,hJ6,hR7,h⟩;rcases B with _|B
 ·exact Vb h
 rw[F.u]at h;refine Vl 1 1 [(8,.bool (decide (k<(o.length:Int))))] 2 h ?_ ?_<;>intro hb h
 ·refine J0 5 ?_;have⟨s,a0,h⟩:=V6 h;refine Vr 1 8 a0 fun p=>?_;intro y z a2 a3;refine J5 [] [8] [.e 0 0] [(10,(A.rao s y z))] (Jy 10 (cs:=l5a) Tryz.zeroValue34 fun a4=>?_);refine Vg 10 [] (A.rai s y z) ?_;refine Vk 2 ?_;refine J5 [10] [] [.n,.b 0 0] [(11,.func (.yield lid) #[] #[]),(12,(A.rao s y z))] ?_;obtain⟨rs17,hqrs17,h⟩:=A.cns_some h;refine A.AL.yield hY hJ6 (hqrs17▸hR7) (A.rai s y z) ⟨⟨rfl,p.1⟩,⟨rfl,p.2.1⟩,.inl ⟨9,rfl⟩,⟨⟨rfl,p.2.2.2.1.1⟩,⟨rfl,p.2.2.2.1.2.1⟩,⟨rfl,p.2.2.2.1.2.2⟩⟩,⟨rfl,p.2.2.2.2.1⟩,⟨rfl,p.2.2.2.2.2.1⟩,⟨rfl,p.2.2.2.2.2.2⟩⟩ (fun E hJ19 hR20=>?_) (fun E hX21=>?_)
  ·refine Vc 1 [(14,.bool false)] 1 ?_;refine V5 rfl ?_;refine J0 3 ?_;have⟨I,h⟩:=Vs h;refine Uf 2 [Z.R64 (k+1)] [(7,A.i (k+1))] I (Ju ?_);exact A.AE.jC (W+1,E) [1] [(7,A.i (k+1))] [] ⟨_,Qn _,⟨(k+1),_,rfl,rfl,(Jw I),hJ19,hR20,h⟩⟩
  refine Vc 1 [(14,.bool true)] 1 ?_;refine Ua rfl ?_;exact A.AX.rtX hY hX21
 refine V1 1 ?_;obtain rfl:=Vf h;exact A.AE.rtY hY hJ6 hR7
def F.bV (k:(List D198)->Int->Option (List D198))(h:Int)(o:List D198):Option (List D198):=A.gd (Z.R64 (h+1)) (k o (h+1))
def F.a6 (p:(List D198)->Option (List D198))(s:Int)(h:D33):Nat->(List D198)->Int->Option (List D198)
 |0,_,_=>none
 |f+1,o,k=>if k<(h.2.2.1.length:Int)then((A.ix h.2.2.1 k).bind fun u=>(if u=s then(A.gd ((List.length (α:=D198) o+List.length (α:=D198) [(h.1,k)])*16<=140737488355328) (F.bV (F.a6 p s h f) k (o++[(h.1,k)])))else(F.bV (F.a6 p s h f) k o)))else(p o)
def F.aL (k:Int):List D33->(List D198)->Option (List D198)
 | [],h=>some h
 |o::f,h=>F.a6 (F.aL k f) k o A.FU h 0
def F.cF (h:D36)(k:Int):Option (List D198):=(F.aB h).bind fun o=>((F.an o).bind fun p=>F.aL k p [])
theorem o_bw(N:D36)(z:Int)(al:A.h6 z)(r:(List D198))(h:F.cF N z=some r):
    A.Ct Tryz.prog 141 [.agg #[.slice A0_ N.length c1_],A.i z] [(0,.sh (.slice T33) [.slice A0_ N.length c1_] N)] [] (fun v H'=>∃(A0':Option Addr) (c1':Nat),v=.slice A0' r.length c1'/\H'=[(0,.own T198 199 A0' c1' r)]):=by
 refine A.Ct.enterM Tryz.func141 rfl Tryz.ntmps141 rfl fun w0 F0=>?_;rw[F.cF]at h;refine J0 1 ?_;refine J1 1 (cs:=[.slice A0_ N.length c1_]) fun g1=>?_;refine J1 2 (cs:=[A.i z]) fun g2=>?_;refine J7 1 [] 2 ?_;refine Jy 3 (cs:=l5p) Tryz.zeroValue209 fun U=>?_;refine Vk 3 ?_;refine J5 [1] [] [.n,.b 0 0] [(10,.slice A0_ N.length c1_)] (Vx 4 [] h (o_u A0_ c1_ N) (.s 0 .nil) ?_);rintro r4 - h _ _ ⟨g6,A7,c8,rfl,rfl⟩;refine J9 (V4 2 ?_);refine Ul 61 T198 199 ?_;have⟨a3,ag,h⟩:=V6 h;refine A.AX.rgf 62 63 64 [2,4,5] [3,61,2,4,5] [63,62,3,61,2,4,5] (fun k W=>∃(B:List D198)(E:Option Addr)(I:Nat),W=[(3,.blk U 209 [.slice E B.length I]),(61,.own T198 199 E I B)]/\F.aL z (List.drop k a3) B=some r) [(3,.blk U 209 [.slice none 0 0]),(61,.own T198 199 none 0 [])] cf191 (o_o A7 g6 c8 r4 a3 ag) (fun _=>rfl) ⟨[],none,0,rfl,h⟩ ?_ ?_ ?_
 ·rintro a7 _ D25 L26 ⟨B,E,I,rfl,h⟩;exact⟨⟨_,(.b 4 (.s 5 .nil))⟩,rfl,fun o=>rfl⟩
 ·rintro a7 _ u D25 L26 am an ⟨B,E,I,rfl,h⟩ hx35 hxo36 ah;intro a9 aa;rw[A.drop_at hx35,F.aL]at h
  refine J0 0 ?_;refine Jy 79 (cs:=l5a) Tryz.zeroValue34 fun ao=>?_;refine Vg 79 [] (A.rai u a9 aa) ?_;refine Ju ?_;refine A.AE.flip 62 63 fun ap=>?_;refine Uh 2 [79] [] [.n,.b 0 2,.n,.n] [(14,.slice a9 u.2.2.1.length aa),(15,A.i (u.2.2.1.length:Int)),(16,A.i 0)] 2 ?_;refine Vo [3,5,6,14,15] [2,4,5,62,63,64,79] (fun f nl W=>∃(y:List D198)(p:Int)(J:Option Addr)(L:Nat),nl=[(16,A.i p)]/\W=[(3,.blk U 209 [.slice J y.length L]),(61,.own T198 199 J L y)]/\A.h6 p/\F.a6 (F.aL z (List.drop (a7+1) a3)) z u f y p=some r) ⟨B,0,E,I,rfl,rfl,J3,h⟩ ?_;rintro a8 _ _ ⟨y,p,J,L,rfl,rfl,aj,h⟩;rcases a8 with _|a8
  ·exact Vb h
  rw[F.a6]at h;refine Vl 1 1 [(17,.bool (decide (p<(u.2.2.1.length:Int))))] 2 h ?_ ?_<;>intro hb h
  ·refine Um 2 ?_;refine J4 [3,5,6,14,15,16] [2,4,5,62,63,64,79] (fun nl W=>∃(a2:List D198)(a4:Option Addr)(a5:Nat),nl=[]/\W=[(3,.blk U 209 [.slice a4 a2.length a5]),(61,.own T198 199 a4 a5 a2)]/\F.bV (F.a6 (F.aL z (List.drop (a7+1) a3)) z u a8) p a2=some r) ?_ ?_
   ·refine Ub 2 1 [(18,A.i p)] ?_;have⟨ab,ak,h⟩:=V6 h;refine Vr 64 84 ak fun aq=>?_;intro ar au;refine J5 [] [84] [.e 0 0,.n,.n] [(7,A.i p),(8,A.i ab)] (Vk 2 ?_);refine Vw [2] [] [.n,.b 0 0,.n] [(23,.bool (decide (ab=z)))] 1 ?_;refine Uv h ?_ ?_<;>intro hb h
    ·refine Vy 0 [3,79] [] [.b 0 0,.n,.b 1 0,.n,.n] [(24,.slice J y.length L),(28,.agg #[A.i u.1,A.i p])] ?_;refine Ve 85 (ty:=T198) (cs:=[A.i u.1,A.i p]) [(u.1,p)] ⟨⟨⟨rfl,hxo36.1⟩,⟨rfl,aj⟩⟩,rfl⟩ (fun av=>?_) Tryz.zeroValue199 Tryz.sizeOf199
     have⟨hl59,h⟩:=Vs h;refine Vt (k:=61) [] (Uc (k:=85) rfl) inf199 hl59 fun ac ad=>?_;refine Vg 3 [] [.slice ac ((y++[(u.1,p)]).length) ad] ?_;refine U4 1 ?_;exact Vn ⟨(y++[(u.1,p)]),ac,ad,rfl,rfl,h⟩
    refine V1 2 ?_;exact Vn ⟨y,J,L,rfl,rfl,h⟩
   rintro _ _ ⟨a2,a4,a5,rfl,rfl,h⟩;rw[F.bV]at h;refine J0 0 ?_;have⟨ae,h⟩:=Vs h;refine Uf 2 [Z.R64 (p+1)] [(16,A.i (p+1))] ae (Ju ?_);exact Vn ⟨_,Qn _,⟨a2,(p+1),a4,a5,rfl,rfl,(Jw ae),h⟩⟩
  refine V1 2 ?_;exact A.AE.bn ah [63,62,3,61,2,4,5] 100000 [(63,100063),(62,100062),(3,100003),(61,100061),(2,100002),(4,100004),(5,100005)] [(3,.blk U 209 [.slice J y.length L]),(61,.own T198 199 J L y)] ⟨y,J,L,rfl,h⟩ rfl rfl
 rintro _ D25 L26 ⟨B,E,I,rfl,h⟩;rw[List.drop_length,F.aL]at h
 refine U1 3 ?_;refine Vw [3] [] [.b 0 0,.n] [(4,.slice E B.length I)] 1 ?_;obtain rfl:=Vf h;exact A.AX.rtM (Ds:=[D25]) [62] [(0,61)] (.slice E B.length I) (⟨rfl,trivial⟩) (fun a w hf hh=>Uo rfl (Ux hf rfl)) (⟨E,I,rfl,rfl⟩)
def F.be (k:(List D207)->Int->Option (List D207))(h:Int)(o:List D207):Option (List D207):=A.gd (Z.R64 (h+1)) (k o (h+1))
def F.bf (L:(List D207)->Int->Option (List D207))(N:Int)(k:D33)(o:Int)(p:Int)(s:Int)(u:Int)(y:Int)(z:Int)(B:Int)(E:Int)(I:(List D198)):Nat->(List D207)->Int->Option (List D207)
 |0,_,_=>none
 |f+1,J,h=>if h<(I.length:Int)then((A.ix I h).bind fun U=>(A.gd ((List.length (α:=D207) J+List.length (α:=D207) [((k.1,2),U,(o,p,s,u,(y,z,B,E)))])*96<=140737488355328) (A.gd (Z.R64 (h+1)) ((F.bf L N k o p s u y z B E I f) (J++[((k.1,2),U,(o,p,s,u,(y,z,B,E)))]) (h+1)))))else(F.be L N J)
def F.bN (k:(List D207)->Int->Option (List D207))(o:D36)(p:Int)(h:D33)(s:List D207)(u:Int)(y:Int)(z:Int)(B:Int)(E:Int)(I:Int)(J:Int)(L:Int):Option (List D207):=(F.cF o h.1).bind fun N=>(F.bf k p h u y z B E I J L N A.FU s 0)
def F.bg (u:(List D207)->Int->Option (List D207))(p:((List (Int×D33))×(List Int)×(List (Int×Int))))(y:D36)(z:Int)(h:D33):Nat->(List D207)->Int->Option (List D207)
 |0,_,_=>none
 |f+1,s,o=>if o<(h.2.2.1.length:Int)then((A.ix h.2.2.1 o).bind fun E=>(A.lt (Z.mget (0:Int) p.2.2 E) fun I=>((F.cB h I).bind fun B=>(A.gd ((List.length (α:=D207) s+List.length (α:=D207) [((h.1,o),(h.1,2),B)])*96<=140737488355328) (A.gd (Z.R64 (o+1)) ((F.bg u p y z h f) (s++[((h.1,o),(h.1,2),B)]) (o+1)))))))else(A.lt (Z.mget (0:Int) p.2.2 h.1) fun J=>((F.cQ J).bind fun k=>(F.bN u y z h s k.1.1 k.1.2.1 k.1.2.2.1 k.1.2.2.2.1 k.1.2.2.2.2.1 k.1.2.2.2.2.2.1 k.1.2.2.2.2.2.2.1 k.1.2.2.2.2.2.2.2)))
def F.w (o:((List (Int×D33))×(List Int)×(List (Int×Int))))(h:D36):Nat->(List D207)->Int->Option (List D207)
 |0,_,_=>none
 |f+1,p,k=>if k<(h.length:Int)then((A.ix h k).bind fun s=>(if s.2.1=15 then(F.be (F.w o h f) k p)else(F.bg (F.w o h f) o h k s A.FU p 0)))else(some p)
def F.ca (h:((List (Int×D33))×(List Int)×(List (Int×Int))))(k:D36):Option (List D207):=F.w h k A.FU [] 0
theorem o_aO(E:((List (Int×D33))×(List Int)×(List (Int×Int))))(y:D36)(r:(List D207))(h:F.ca E y=some r):
    A.Ct Tryz.prog 125 [.pointer (some ⟨g0_,0,none⟩),.agg #[.slice A5_ y.length c6_]] [(0,.blk g0_ 155 [.map (some b1_),.slice A2_ E.2.1.length c3_,.map (some b4_)]),(1,.mp Int (fun i:Int=>A.i i) T33 true b1_ E.1),(2,.own A.ti 3 A2_ c3_ E.2.1),(3,.mp Int (fun i:Int=>A.i i) A.ti false b4_ E.2.2),(4,.sh (.slice T33) [.slice A5_ y.length c6_] y)] ([g0_]++([b1_]++(Z.obl A2_++([b4_]++[])))) (fun v H'=>∃(A0':Option Addr) (c1':Nat),v=.slice A0' r.length c1'/\H'=[(0,.own T207 208 A0' c1' r),(1,.blk g0_ 155 [.map (some b1_),.slice A2_ E.2.1.length c3_,.map (some b4_)]),(2,.mp Int (fun i:Int=>A.i i) T33 true b1_ E.1),(3,.own A.ti 3 A2_ c3_ E.2.1),(4,.mp Int (fun i:Int=>A.i i) A.ti false b4_ E.2.2)]):=by
 refine Jv Tryz.func125 rfl Tryz.ntmps125 rfl fun w0 F0=>?_;rw[F.ca]at h;refine J0 1 ?_;refine J1 5 (cs:=[.slice A5_ y.length c6_]) fun g1=>?_;refine J7 1 [] 2 ?_;refine J7 1 [(5,.slice none 0 0)] 3 ?_;refine Vw [5] [] [.n,.b 0 0,.n,.n] [(16,.slice A5_ y.length c6_),(17,A.i (y.length:Int)),(18,A.i 0)] 2 ?_;refine Ul 3600 T207 208 ?_;refine Vo [0,3,16,17] [0,1,2,3,4,5] (fun f nl nh=>∃(aa:List D207)(I:Int)(A2:Option Addr)(c3:Nat),nl=[(5,.slice A2 aa.length c3),(18,A.i I)]/\nh=[(3600,.own T207 208 A2 c3 aa)]/\A.h6 I/\F.w E y f aa I=some r) ⟨[],0,none,0,rfl,rfl,J3,h⟩ ?_;rintro f7 _ _ ⟨aa,I,A2,c3,rfl,rfl,br,h⟩;rcases f7 with _|f7
 ·exact Vb h
 rw[F.w]at h;refine Vl 1 1 [(19,.bool (decide (I<(y.length:Int))))] 2 h ?_ ?_<;>intro hb h
 ·refine Um 2 ?_;refine J4 [0,3,16,17,18] [0,1,2,3,4,5] (fun nl nh=>∃(ab:List D207)(A8:Option Addr)(c9:Nat),nl=[(5,.slice A8 ab.length c9)]/\nh=[(3600,.own T207 208 A8 c9 ab)]/\F.be (F.w E y f7) I ab=some r) ?_ ?_
  ·refine J0 2 ?_;have⟨o,b4,h⟩:=V6 h;refine Vr 4 6675 b4 fun J=>?_;intro ac ad bs bt;refine J5 [] [6675] [.e 0 0] [(21,(A.rao o ac ad))] (Jy 6677 (cs:=l5a) Tryz.zeroValue34 fun bu=>?_);refine Vg 6677 [] (A.rai o ac ad) ?_;refine Vk 3 ?_;refine Vw [6677] [] [.n,.b 0 1,.n] [(24,.bool (decide (o.2.1=15)))] 1 ?_;refine Uv h ?_ ?_<;>intro hb h
   ·refine V1 1 ?_;exact Vn ⟨aa,A2,c3,rfl,rfl,h⟩
   refine Vy 3 [6677] [] [.n,.b 0 0,.n] [(27,.agg #[A.i o.1,A.i 2])] ?_;refine Jy 6678 (cs:=l5q) Tryz.zeroValue199 fun bw=>?_;refine Vg 6678 [] [A.i o.1,A.i 2] ?_;refine Vk 3 ?_;refine Vw [6677] [] [.n,.b 0 2,.n,.n] [(29,.slice ac o.2.2.1.length ad),(30,A.i (o.2.2.1.length:Int)),(31,A.i 0)] 2 ?_;refine Vo [0,3,7,8,16,17,18,29,30] [0,1,2,3,4,5,6676,6677,6678] (fun f nl nh=>∃(a6:List D207)(B:Int)(ae:Option Addr)(ag:Nat),nl=[(5,.slice ae a6.length ag),(31,A.i B)]/\nh=[(3600,.own T207 208 ae ag a6)]/\A.h6 B/\F.bg (F.w E y f7) E y I o f a6 B=some r) ⟨aa,0,A2,c3,rfl,rfl,J3,h⟩ ?_;rintro ao _ _ ⟨a6,B,ae,ag,rfl,rfl,b5,h⟩;rcases ao with _|ao
   ·exact Vb h
   rw[F.bg]at h;refine Vl 1 1 [(32,.bool (decide (B<(o.2.2.1.length:Int))))] 2 h ?_ ?_<;>intro hb h
   ·refine Ub 5 1 [(33,A.i B)] ?_;have⟨ak,b6,h⟩:=V6 h;refine Vr 6676 7701 b6 fun bx=>?_;intro bz c0;refine Vw [] [7701] [.e 0 0,.n,.n] [(9,A.i B),(10,A.i ak)] 1 ?_;refine Vj mixed 18 18 (A.mb 18 0) ?_;refine Vm Vd [] l5e [6678,6677,0] [] (A.mb 18 4095) 6 [(0,.n),(1,.n),(3,.n),(5,.b 0 0),(6,.b 1 0),(7,.n),(11,.n),(2,.b 1 0),(8,.n),(4,.n),(9,.n),(10,.b 2 2)] [(36,.slice ae a6.length ag),(41,.agg #[A.i o.1,A.i 2]),(42,(A.rao o ac ad)),(47,A.i ak),(40,.agg #[A.i o.1,A.i B]),(46,.map (some b4_))] ?_;obtain⟨b7,ap,h⟩:=Vi h;refine A.okm (t:=A.ti) 3 ak (z:=(0:Int)) (zs:=[A.i 0]) ⟨rfl,by decide⟩ ap fun b9=>?_;refine V0 Vd l5e l5e 12 (A.mb 18 8191) rfl (fun a w hf hh=>A.r_lkf (t:=A.ti) (ok:=false) (z:=(0:Int)) (zs:=[A.i 0]) 3 ky3 ak Tryz.zeroValue3 ⟨rfl,by decide⟩ ap rfl hf hh) ?_;refine Jz 13 ?_;refine Vx 7702 [] h (o_bm ac ad o b7 J.1 J.2.1 J.2.2.2.1.1 J.2.2.2.1.2.1 J.2.2.2.1.2.2 J.2.2.2.2.1 J.2.2.2.2.2.1 J.2.2.2.2.2.2 b9) (.s 6676 .nil) ?_;rintro u - h _ _ ⟨rfl,rfl,hr37,hr38,hr39,hr40,hr41,hr42,hr43,hr44⟩;refine J9 (J2 (A.mb 18 16383) l5e ?_);refine Vm Vd l5e l5e [] [] (A.mb 18 32767) 3 [(14,.n)] [(50,.agg #[A.i o.1,A.i B,A.i o.1,A.i 2,A.i u.1,A.i u.2.1,A.i u.2.2.1,A.i u.2.2.2.1,A.i u.2.2.2.2.1,A.i u.2.2.2.2.2.1,A.i u.2.2.2.2.2.2.1,A.i u.2.2.2.2.2.2.2])] (Jz 15 ?_);refine Ve 7742 (ty:=T207) (cs:=[A.i o.1,A.i B,A.i o.1,A.i 2,A.i u.1,A.i u.2.1,A.i u.2.2.1,A.i u.2.2.2.1,A.i u.2.2.2.2.1,A.i u.2.2.2.2.2.1,A.i u.2.2.2.2.2.2.1,A.i u.2.2.2.2.2.2.2]) [((o.1,B),(o.1,2),u)] ⟨⟨⟨⟨rfl,J.1⟩,⟨rfl,b5⟩⟩,⟨⟨rfl,J.1⟩,⟨rfl,(Vp 2)⟩⟩,⟨⟨rfl,hr37⟩,⟨rfl,hr38⟩,⟨rfl,hr39⟩,⟨rfl,hr40⟩,⟨⟨rfl,hr41⟩,⟨rfl,hr42⟩,⟨rfl,hr43⟩,⟨rfl,hr44⟩⟩⟩⟩,rfl⟩ (fun c1=>?_) Tryz.zeroValue208 Tryz.sizeOf208
    refine J2 (A.mb 18 65535) l5e ?_;refine Jz 16 ?_;have⟨hl48,h⟩:=Vs h;refine Vt (k:=3600) [] (Uc (k:=7742) rfl) inf208 hl48 fun aq ar=>?_;refine J2 (A.mb 18 131071) l5e ?_;refine Vm Vd l5e [0,1,2,3,4,5,3600,6676,6677,6678,7701,7742] [] [] (A.mb 18 262143) 0 [(17,.n)] [(5,.slice aq ((a6++[((o.1,B),(o.1,2),u)]).length) ar)] (J6 ?_);refine U1 2 ?_;have⟨au,h⟩:=Vs h;refine Uf 2 [Z.R64 (B+1)] [(31,A.i (B+1))] au (Ju ?_);exact Vn ⟨_,Qn _,⟨(a6++[((o.1,B),(o.1,2),u)]),(B+1),aq,ar,rfl,rfl,(Jw au),h⟩⟩
   refine Um 2 ?_;refine J4 [0,3,5,7,8,16,17,18] l5b (fun nl nh=>∃(L:Int)(N:Int)(U:Int)(W:Int)(a2:Int)(a3:Int)(a4:Int)(a5:Int)(al:Nat),nl=[(11,.pointer (some ⟨al,0,none⟩))]/\nh=[(8073,.blk al 206 [A.i L,A.i N,A.i U,A.i W,A.i a2,A.i a3,A.i a4,A.i a5])]/\A.h6 L/\A.h6 N/\A.h6 U/\A.h6 W/\A.h6 a2/\A.h6 a3/\A.h6 a4/\A.h6 a5/\F.bN (F.w E y f7) y I o a6 L N U W a2 a3 a4 a5=some r) ?_ ?_
   ·refine Vj mixed 14 14 (A.mb 14 0) ?_;refine Vm Vd [] l5b [6677,0] [] (A.mb 14 63) 8 [(0,.n),(4,.n),(1,.n),(5,.b 0 0),(2,.n),(3,.b 1 2)] [(60,A.i o.1),(58,.map (some b4_))] ?_;obtain⟨av,aw,h⟩:=Vi h;refine A.okm (t:=A.ti) 3 o.1 (z:=(0:Int)) (zs:=[A.i 0]) ⟨rfl,by decide⟩ aw fun ax=>?_;refine V0 Vd l5b l5b 6 (A.mb 14 127) rfl (fun a w hf hh=>A.r_lkf (t:=A.ti) (ok:=false) (z:=(0:Int)) (zs:=[A.i 0]) 3 ky3 o.1 Tryz.zeroValue3 ⟨rfl,by decide⟩ aw rfl hf hh) ?_;refine A.AH.two 7 11 ?_ ?_
    ·refine Vx 7953 [] h (o_aJ av ax) .nil ?_;rintro p c2 h _ _ ⟨rfl,rfl,hr513,hr514,hr515,hr516,hr517,hr518,hr519,hr520,hr521⟩;refine J9 (J2 (A.mb 14 255) l5b ?_);refine Vm Vd l5b l5b [] [] (A.mb 14 2047) 3 [(8,.n),(9,.n),(10,.n)] [(63,(A.rag p.1)),(64,A.i p.2)] (Jz 11 ?_);refine Jy 8073 (cs:=l5h) Tryz.zeroValue206 fun am=>?_;refine J2 (A.mb 14 4095) l5b ?_;refine Jz 12 ?_;refine Vg 8073 [] (A.rac p.1) ?_;refine J2 (A.mb 14 8191) l5b ?_;refine Vm Vd l5b l5l [] [] (A.mb 14 16383) 0 [(13,.n)] [] (J6 ?_);exact Vn ⟨p.1.1,p.1.2.1,p.1.2.2.1,p.1.2.2.2.1,p.1.2.2.2.2.1,p.1.2.2.2.2.2.1,p.1.2.2.2.2.2.2.1,p.1.2.2.2.2.2.2.2,am,rfl,rfl,hr513,hr514,hr515,hr516,hr517,hr518,hr519,hr520,h⟩
    refine Jy 8073 (cs:=l5h) Tryz.zeroValue206 fun am=>?_;refine J2 (A.mb 14 2175) l5b ?_;refine Jz 7 ?_;refine Vx 7953 [] h (o_aJ av ax) .nil ?_;rintro p - h _ _ ⟨rfl,rfl,hr513,hr514,hr515,hr516,hr517,hr518,hr519,hr520,hr521⟩;refine J9 (J2 (A.mb 14 2303) l5b ?_);refine Vm Vd l5b l5b [] [] (A.mb 14 4095) 2 [(8,.n),(9,.n),(10,.n)] [(63,(A.rag p.1)),(64,A.i p.2)] (Jz 12 ?_);refine Vg 8073 [] (A.rac p.1) ?_;refine J2 (A.mb 14 8191) l5b ?_;refine Vm Vd l5b l5l [] [] (A.mb 14 16383) 0 [(13,.n)] [] (J6 ?_);exact Vn ⟨p.1.1,p.1.2.1,p.1.2.2.1,p.1.2.2.2.1,p.1.2.2.2.2.1,p.1.2.2.2.2.2.1,p.1.2.2.2.2.2.2.1,p.1.2.2.2.2.2.2.2,am,rfl,rfl,hr513,hr514,hr515,hr516,hr517,hr518,hr519,hr520,h⟩
   rintro _ _ ⟨L,N,U,W,a2,a3,a4,a5,al,rfl,rfl,bb,bc,bh,bi,bj,bk,bm,bp,h⟩;rw[F.bN]at h;refine Vy 1 [5,6677] [] [.b 0 0,.n,.b 1 0] [(65,.agg #[.slice A5_ y.length c6_]),(67,A.i o.1)] ?_;refine Vx 8163 [] h (o_bw A5_ c6_ y o.1 J.1) (.s 4 .nil) ?_;rintro an - h _ _ ⟨c4,c5,rfl,rfl⟩;refine J9 (Vc 2 [(69,A.i (an.length:Int)),(70,A.i 0)] 2 ?_);refine Vo [0,3,8,11,16,17,18,68,69] [0,1,2,3,4,5,6678,8073,8163] (fun f nl nh=>∃(a8:List D207)(a9:Int)(ah:Option Addr)(aj:Nat),nl=[(5,.slice ah a8.length aj),(70,A.i a9)]/\nh=[(3600,.own T207 208 ah aj a8)]/\A.h6 a9/\F.bf (F.w E y f7) I o L N U W a2 a3 a4 a5 an f a8 a9=some r) ⟨a6,0,ae,ag,rfl,rfl,J3,h⟩ ?_;rintro ay _ _ ⟨a8,a9,ah,aj,rfl,rfl,c6,h⟩;rcases ay with _|ay
   ·exact Vb h
   rw[F.bf]at h;refine Vl 1 1 [(71,.bool (decide (a9<(an.length:Int))))] 2 h ?_ ?_<;>intro hb h
   ·refine J0 5 ?_;have⟨a7,bq,h⟩:=V6 h;refine Uq 8163 8209 bq fun az=>?_;intro c7 c8;refine J5 [] [8209] [.e 0 0] [(73,(A.rad a7))] (Jy 8210 (cs:=l5q) Tryz.zeroValue199 fun cb=>?_);refine Vg 8210 [] (A.raa a7) ?_;refine Vk 1 ?_;refine J5 [6678,8210,8073] [] [.n,.b 0 0,.b 1 0,.b 2 0,.n] [(74,.slice ah a8.length aj),(78,.agg #[A.i o.1,A.i 2,A.i a7.1,A.i a7.2,A.i L,A.i N,A.i U,A.i W,A.i a2,A.i a3,A.i a4,A.i a5])] (Ve 8211 (ty:=T207) (cs:=[A.i o.1,A.i 2,A.i a7.1,A.i a7.2,A.i L,A.i N,A.i U,A.i W,A.i a2,A.i a3,A.i a4,A.i a5]) [((o.1,2),a7,(L,N,U,W,(a2,a3,a4,a5)))] ⟨⟨⟨⟨rfl,J.1⟩,⟨rfl,(Vp 2)⟩⟩,⟨⟨rfl,az.1⟩,⟨rfl,az.2⟩⟩,⟨⟨rfl,bb⟩,⟨rfl,bc⟩,⟨rfl,bh⟩,⟨rfl,bi⟩,⟨⟨rfl,bj⟩,⟨rfl,bk⟩,⟨rfl,bm⟩,⟨rfl,bp⟩⟩⟩⟩,rfl⟩ (fun cc=>?_) Tryz.zeroValue208 Tryz.sizeOf208)
    have⟨hl86,h⟩:=Vs h;refine Vt (k:=3600) [] (Uc (k:=8211) rfl) inf208 hl86 fun b0 b1=>?_;refine J7 1 [(5,.slice b0 ((a8++[((o.1,2),a7,(L,N,U,W,(a2,a3,a4,a5)))]).length) b1)] 2 ?_;have⟨b2,h⟩:=Vs h;refine Uf 2 [Z.R64 (a9+1)] [(70,A.i (a9+1))] b2 (Ju ?_);exact Vn ⟨_,Qn _,⟨(a8++[((o.1,2),a7,(L,N,U,W,(a2,a3,a4,a5)))]),(a9+1),b0,b1,rfl,rfl,(Jw b2),h⟩⟩
   refine V1 2 ?_;exact Vn ⟨a8,ah,aj,rfl,rfl,h⟩
  rintro _ _ ⟨ab,A8,c9,rfl,rfl,h⟩;rw[F.be]at h;refine J0 0 ?_;have⟨b3,h⟩:=Vs h;refine Uf 2 [Z.R64 (I+1)] [(18,A.i (I+1))] b3 (Ju ?_);exact Vn ⟨_,Qn _,⟨ab,(I+1),A8,c9,rfl,rfl,(Jw b3),h⟩⟩
 refine Va 3 2 [(4,.slice A2 aa.length c3)] 1 ?_;obtain rfl:=Vf h;exact V7 [(0,3600),(1,0),(2,1),(3,2),(4,3)] ⟨A2,c3,rfl,rfl⟩
def F.aS (k:(List (D198×Bool))->(List D198)->Int->Option Bool)(h:Int)(o:List (D198×Bool))(p:List D198):Option Bool:=A.gd (Z.R64 (h+1)) (k o p (h+1))
def F.aT (o:(List (D198×Bool))->(List D198)->Int->Option Bool)(p:List (D198×Bool))(h:List D198)(s:Int)(k:D198)(u:Bool):Option Bool:=if u=true then(A.gd ((List.length (α:=D198) h+List.length (α:=D198) [k])*16<=140737488355328) (F.aS o s (Z.mins p k true) (h++[k])))else(F.aS o s p h)
def F.ag (s:(List (D198×Bool))->(List D198)->Option Bool)(u:(List (D198×Int)))(y:D198)(z:Int)(k:(List D198)):Nat->(List (D198×Bool))->(List D198)->Int->Option Bool
 |0,_,_,_=>none
 |f+1,o,B,p=>if p<(k.length:Int)then((A.ix k p).bind fun h=>(if h=y then(some true)else(A.lt (Z.mget (0:Int) u h) fun E=>(if z<=E then(A.lt (Z.mget (false:Bool) o h) fun I=>(F.aT (F.ag s u y z k f) o B p h (!I)))else(F.aT (F.ag s u y z k f) o B p h false)))))else(s o B)
def F.bA (k:(List (D198×Bool))->(List D198)->Option Bool)(s:(List (D198×(List D198))))(u:(List (D198×Int)))(y:D198)(o:Int)(p:List (D198×Bool))(h:List D198)(z:D198)(J:List Int)(L:Int)(B:Int)(N:Int)(U:Int)(W:ByteArray)(a0:ByteArray)(a5:Int)(E:Int):Option Bool:=if(bif decide (B=14)then decide (E=o)else false)=true then(k p (List.take (((h.length:Int)-1).toNat) h))else(A.lt (Z.mget ([]:(List D198)) s z) fun I=>(F.ag k u y o I A.FU p (List.take (((h.length:Int)-1).toNat) h) 0))
def F.x (o:((List (Int×D33))×(List Int)×(List (Int×Int))))(p:(List (D198×(List D198))))(s:(List (D198×Int)))(u:D198)(y:Int):Nat->(List (D198×Bool))->(List D198)->Option Bool
 |0,_,_=>none
 |f+1,B,h=>if(0:Int)<(h.length:Int)then(A.gd (Z.R64 ((h.length:Int)-1)) ((A.ix h ((h.length:Int)-1)).bind fun z=>(A.gd (Z.R64 ((h.length:Int)-1)) (A.gd (0<=(h.length:Int)-1/\((h.length:Int)-1).toNat<=h.length) (A.lt (Z.mget ((0,0,[],(0,0,(ByteArray.mk #[])),(ByteArray.mk #[]),0,0):D33) o.1 z.1) fun k=>(F.bA (F.x o p s u y f) p s u y B h z k.2.2.1 k.1 k.2.1 k.2.2.2.1.1 k.2.2.2.1.2.1 k.2.2.2.1.2.2 k.2.2.2.2.1 k.2.2.2.2.2.1 k.2.2.2.2.2.2))))))else(some false)
def F.bR (k:((List (Int×D33))×(List Int)×(List (Int×Int))))(o:(List (D198×(List D198))))(p:(List (D198×Int)))(h:D198)(s:Int):Option Bool:=F.x k o p h s A.FU [] [h]
theorem o_az(I:((List (Int×D33))×(List Int)×(List (Int×Int))))(a1:(List (D198×(List D198))))(L:(List (D198×Int)))(p:D198)(J:Int)(b9:A.h6 p.1)(bb:A.h6 p.2)(bp:A.h6 J)(r:Bool)(h:F.bR I a1 L p J=some r):
    A.Ct Tryz.prog 126 [.pointer (some ⟨g0_,0,none⟩),.map (some b5_),.map (some b6_),(A.rad p),A.i J] [(0,.blk g0_ 155 [.map (some b1_),.slice A2_ I.2.1.length c3_,.map (some b4_)]),(1,.mp Int (fun i:Int=>A.i i) T33 true b1_ I.1),(2,.own A.ti 3 A2_ c3_ I.2.1),(3,.mp Int (fun i:Int=>A.i i) A.ti false b4_ I.2.2),(4,.lmp D198 (fun x:D198=>(A.rad x)) (Z.Ty.slice T198) false b5_ a1),(5,.lmp D198 (fun x:D198=>(A.rad x)) A.ti false b6_ L)] ([g0_]++([b1_]++(Z.obl A2_++([b4_]++[])))) (fun v H'=>v=.bool r/\H'=[(0,.blk g0_ 155 [.map (some b1_),.slice A2_ I.2.1.length c3_,.map (some b4_)]),(1,.mp Int (fun i:Int=>A.i i) T33 true b1_ I.1),(2,.own A.ti 3 A2_ c3_ I.2.1),(3,.mp Int (fun i:Int=>A.i i) A.ti false b4_ I.2.2)]):=by
 refine Jv Tryz.func126 rfl Tryz.ntmps126 rfl fun w0 F0=>?_;rw[F.bR]at h;refine J0 1 ?_;refine J1 6 (cs:=(A.raa p)) fun g1=>?_;refine J7 1 [] 2 ?_;refine Uj 7 D198 (fun x:D198=>(A.rad x)) Z.Ty.bool false fun b2=>?_;refine J7 1 [(11,.map (some b2))] 2 ?_;refine J5 [6] [] [.b 0 0] [(18,(A.rad p))] (Ve 8 (ty:=T198) (cs:=(A.raa p)) [p] ⟨⟨⟨rfl,b9⟩,⟨rfl,bb⟩⟩,rfl⟩ (fun g3=>?_) Tryz.zeroValue199 Tryz.sizeOf199)
 refine Vc 1 [(12,.slice (some ⟨g3,0,none⟩) 1 1)] 3 ?_;refine Vo [0,1,2,4,8,11] [0,1,2,3,4,5,6] (fun f W nh=>∃(m4:List (D198×Bool))(s:List D198)(A5:Option Addr)(c6:Nat),W=[(12,.slice A5 s.length c6)]/\nh=[(7,.mp D198 (fun x:D198=>(A.rad x)) Z.Ty.bool false b2 m4),(8,.own T198 199 A5 c6 s)]/\F.x I a1 L p J f m4 s=some r) ⟨[],[p],(some ⟨g3,0,none⟩),1,rfl,rfl,h⟩ ?_;rintro f8 _ _ ⟨m4,s,A5,c6,rfl,rfl,h⟩;rcases f8 with _|f8
 ·exact Vb h
 rw[F.x]at h;refine Vl 2 3 [(22,.bool (decide ((0:Int)<(s.length:Int))))] 1 h ?_ ?_<;>intro hb h
 ·refine J0 4 ?_;have⟨bc,h⟩:=Vs h;refine Uf 4 [Z.R64 ((s.length:Int)-1)] [(23,.slice A5 s.length c6),(26,A.i ((s.length:Int)-1))] bc ?_;have⟨a5,be,h⟩:=V6 h;refine Uq 8 587 be fun bq=>?_;intro br bs;refine J5 [] [587] [.e 0 0] [(28,(A.rad a5))] (Jy 588 (cs:=l5q) Tryz.zeroValue199 fun bt=>?_);refine Vg 588 [] (A.raa a5) ?_;refine Vk 2 ?_;have⟨bg,h⟩:=Vs h;refine Uf 4 [Z.R64 ((s.length:Int)-1)] [(29,.slice A5 s.length c6),(32,A.i ((s.length:Int)-1))] bg ?_;have⟨b1,h⟩:=Vs h;refine A.AL.cuto 8 [587] (v:=((s.length:Int)-1).toNat) (Xk b1.1).symm b1.2 ?_;refine Vc 1 [(12,.slice A5 ((List.take (((s.length:Int)-1).toNat) s).length) c6)] 2 ?_;refine J4 [0,1,2,4,8,11,12,13] l5i (fun W nh=>∃(a9:List Int)(aj:Int)(aa:Int)(ak:Int)(al:Int)(am:ByteArray)(an:ByteArray)(ao:Int)(ab:Int)(av:Option Addr)(aw:Nat)(ax:Nat),W=[(14,.pointer (some ⟨ax,0,none⟩))]/\nh=[(770,.sh A.TI [.slice av a9.length aw] a9),(800,.blk ax 34 [A.i aj,A.i aa,.slice av a9.length aw,A.i ak,A.i al,.string am,.string an,A.i ao,A.i ab])]/\A.h6 aj/\A.h6 aa/\A.h6 ak/\A.h6 al/\am.size<=maxLen/\an.size<=maxLen/\A.h6 ao/\A.h6 ab/\F.bA (F.x I a1 L p J f8) a1 L p J m4 s a5 a9 aj aa ak al am an ao ab=some r) ?_ ?_
  ·refine Vj mixed 8 9 (A.mb 9 0) ?_;refine Vm Vd [] l5i [588,0] [] (A.mb 9 63) 3 [(0,.n),(4,.n),(1,.n),(5,.b 0 0),(2,.n),(3,.b 1 0)] [(39,A.i a5.1),(37,.map (some b1_))] (A.AH.two 6 7 ?_ ?_)
   ·obtain⟨o,ay,h⟩:=Vi h;refine V8 (t:=T33) 1 770 (z:=((0,0,[],(0,0,(ByteArray.mk #[])),(ByteArray.mk #[]),0,0):D33)) (zs:=l5a) ky3 a5.1 Tryz.zeroValue34 ⟨⟨rfl,by decide⟩,⟨rfl,by decide⟩,(.inr ⟨rfl,rfl⟩),⟨⟨rfl,by decide⟩,⟨rfl,by decide⟩,⟨rfl,by decide⟩⟩,⟨rfl,by decide⟩,⟨rfl,by decide⟩,⟨rfl,by decide⟩⟩ ay fun B=>?_;intro ac ad;refine J2 (A.mb 9 127) l5i ?_;refine Jz 7 ?_;refine Jy 800 (cs:=l5a) Tryz.zeroValue34 fun az=>?_;refine J2 (A.mb 9 255) l5i ?_;refine Jz 8 ?_;refine Vg 800 [] (A.rai o ac ad) ?_;refine Vv (A.mb 9 511) ?_;refine J6 ?_;exact Vn ⟨o.2.2.1,o.1,o.2.1,o.2.2.2.1.1,o.2.2.2.1.2.1,o.2.2.2.1.2.2,o.2.2.2.2.1,o.2.2.2.2.2.1,o.2.2.2.2.2.2,ac,ad,az,rfl,rfl,B.1,B.2.1,B.2.2.2.1.1,B.2.2.2.1.2.1,B.2.2.2.1.2.2,B.2.2.2.2.1,B.2.2.2.2.2.1,B.2.2.2.2.2.2,h⟩
   refine Jy 800 (cs:=l5a) Tryz.zeroValue34 fun az=>?_;refine J2 (A.mb 9 191) l5i ?_;refine Jz 6 ?_;obtain⟨o,ay,h⟩:=Vi h;refine V8 (t:=T33) 1 770 (z:=((0,0,[],(0,0,(ByteArray.mk #[])),(ByteArray.mk #[]),0,0):D33)) (zs:=l5a) ky3 a5.1 Tryz.zeroValue34 ⟨⟨rfl,by decide⟩,⟨rfl,by decide⟩,(.inr ⟨rfl,rfl⟩),⟨⟨rfl,by decide⟩,⟨rfl,by decide⟩,⟨rfl,by decide⟩⟩,⟨rfl,by decide⟩,⟨rfl,by decide⟩,⟨rfl,by decide⟩⟩ ay fun B=>?_;intro ac ad;refine J2 (A.mb 9 255) l5i ?_;refine Jz 8 ?_;refine Vg 800 [] (A.rai o ac ad) ?_;refine Vv (A.mb 9 511) ?_;refine J6 ?_;exact Vn ⟨o.2.2.1,o.1,o.2.1,o.2.2.2.1.1,o.2.2.2.1.2.1,o.2.2.2.1.2.2,o.2.2.2.2.1,o.2.2.2.2.2.1,o.2.2.2.2.2.2,ac,ad,az,rfl,rfl,B.1,B.2.1,B.2.2.2.1.1,B.2.2.2.1.2.1,B.2.2.2.1.2.2,B.2.2.2.2.1,B.2.2.2.2.2.1,B.2.2.2.2.2.2,h⟩
  rintro _ _ ⟨a9,aj,aa,ak,al,am,an,ao,ab,av,aw,ax,rfl,rfl,bu,bw,bx,bz,c0,c1,c2,c3,h⟩;rw[F.bA]at h;refine Uh 1 [800] [] [.n,.b 0 1,.n,.n,.sy .n,.sy (.b 0 8),.sy .n,.sy .n,.pk] [(49,.bool (bif decide (aa=14)then decide (ab=J)else false))] 1 ?_;refine Uk h ?_ ?_<;>intro hb h
  ·refine V1 1 ?_;exact Vn ⟨_,Qn _,⟨m4,(List.take (((s.length:Int)-1).toNat) s),A5,c6,rfl,rfl,h⟩⟩
  refine Vy 3 [588] [] [.n,.b 0 0] [(50,.map (some b5_)),(51,(A.rad a5))] ?_;obtain⟨ae,bh,h⟩:=Vi h;refine V8 (t:=(Z.Ty.slice T198)) 4 860 (z:=([]:(List D198))) (zs:=l5p) ky199 a5 Tryz.zeroValue209 (.inr ⟨rfl,rfl⟩) bh fun c4=>?_;intro c5 c7;refine Vc 2 [(53,A.i (ae.length:Int)),(54,A.i 0)] 2 ?_;refine Vo [0,1,2,4,8,11,52,53] [0,1,2,3,4,5,6,860] (fun f W nh=>∃(a6:List (D198×Bool))(N:List D198)(U:Int)(a7:Option Addr)(a8:Nat),W=[(12,.slice a7 N.length a8),(54,A.i U)]/\nh=[(7,.mp D198 (fun x:D198=>(A.rad x)) Z.Ty.bool false b2 a6),(8,.own T198 199 a7 a8 N)]/\A.h6 U/\F.ag (F.x I a1 L p J f8) L p J ae f a6 N U=some r) ⟨m4,(List.take (((s.length:Int)-1).toNat) s),0,A5,c6,rfl,rfl,J3,h⟩ ?_;rintro ap _ _ ⟨a6,N,U,a7,a8,rfl,rfl,c8,h⟩;rcases ap with _|ap
  ·exact Vb h
  rw[F.ag]at h;refine Vl 1 1 [(55,.bool (decide (U<(ae.length:Int))))] 2 h ?_ ?_<;>intro hb h
  ·refine Um 2 ?_;refine J4 [0,1,2,4,8,11,52,53,54] [0,1,2,3,4,5,6,860] (fun W nh=>∃(aq:List (D198×Bool))(ah:List D198)(ar:Option Addr)(au:Nat),W=[(12,.slice ar ah.length au)]/\nh=[(7,.mp D198 (fun x:D198=>(A.rad x)) Z.Ty.bool false b2 aq),(8,.own T198 199 ar au ah)]/\F.aS (F.ag (F.x I a1 L p J f8) L p J ae ap) U aq ah=some r) ?_ ?_
   ·refine J0 2 ?_;have⟨E,bi,h⟩:=V6 h;refine Vr 860 871 bi fun b3=>?_;intro c9 ca;refine J5 [] [871] [.e 0 0] [(57,(A.rad E))] (Jy 872 (cs:=l5q) Tryz.zeroValue199 fun cb=>?_);refine Vg 872 [] (A.raa E) ?_;refine Vk 3 ?_;refine J5 [872,6] [] [.b 0 0,.b 1 0] [(58,(A.rad E)),(59,(A.rad p))] (Uy rfl (fun a w hf hh=>eqagg_eql199 (x:=E) (y:=p) (hf.eval rfl) (hf.eval rfl)) ?_);refine V4 1 ?_;refine Uv h ?_ ?_<;>intro hb h
    ·refine Va 1 1 [(10,.bool true)] 1 ?_;obtain rfl:=Vf h;exact V7 [(0,0),(1,1),(2,2),(3,3)] ⟨rfl,rfl⟩
    refine Um 2 ?_;refine J4 [0,1,2,4,8,11,12,16,52,53,54] [0,1,2,3,4,5,6,7,8,860,872] (fun W nh=>∃(b0:Bool),W=[(71,.bool b0)]/\nh=[]/\F.aT (F.ag (F.x I a1 L p J f8) L p J ae ap) a6 N U E b0=some r) ?_ ?_
    ·refine Vy 0 [872] [] [.n,.b 0 0] [(61,.map (some b6_)),(62,(A.rad E))] ?_;obtain⟨bj,bk,h⟩:=Vi h;refine V8 (t:=A.ti) 5 873 (z:=(0:Int)) (zs:=[A.i 0]) ky199 E Tryz.zeroValue3 ⟨rfl,by decide⟩ bk fun cc=>?_;refine V9 3 [(66,.bool (decide (J<=bj)))] (Up (j:=66) rfl h ?_ ?_)<;>intro hb h
     ·refine J5 [872] [] [.on .n,.on (.b 0 0)] [(67,.map (some b2)),(68,(A.rad E))] (Vu (dj:=66) rfl rfl ?_);obtain⟨b4,bm,h⟩:=Vi h;refine V8 (t:=Z.Ty.bool) 7 874 (z:=(false:Bool)) (zs:=[.bool false]) ky199 E Tryz.zeroValue4 rfl bm fun cd=>?_;refine J5 [] [] [.on .n,.n] [(71,.bool (!b4))] (Ju ?_);exact Vn ⟨(!b4),rfl,rfl,h⟩
     refine J5 [] [] [.off,.off,.off,.off,.n] [(71,.bool false)] (Ju ?_);exact Vn ⟨false,rfl,rfl,h⟩
    rintro _ _ ⟨b0,rfl,rfl,h⟩;rw[F.aT]at h;refine Uk h ?_ ?_<;>intro hb h
    ·refine Vy 1 [872] [] [.n,.b 0 0] [(72,.map (some b2)),(73,(A.rad E))] ?_;refine Uz (t:=Z.Ty.bool) 7 [] (cs:=[.bool true]) (u:=true) ky199 E rfl ?_;refine Vk 1 ?_;refine J5 [872] [] [.n,.b 0 0] [(74,.slice a7 N.length a8),(75,(A.rad E))] (Ve 875 (ty:=T198) (cs:=(A.raa E)) [E] ⟨⟨⟨rfl,b3.1⟩,⟨rfl,b3.2⟩⟩,rfl⟩ (fun cf=>?_) Tryz.zeroValue199 Tryz.sizeOf199)
     have⟨hl68,h⟩:=Vs h;refine Vt (k:=8) [] (Uc (k:=875) rfl) inf199 hl68 fun b5 b6=>?_;refine V9 1 [(12,.slice b5 ((N++[E]).length) b6)] (U4 1 ?_);exact Vn ⟨(Z.mins a6 E true),(N++[E]),b5,b6,rfl,rfl,h⟩
    refine V1 2 ?_;exact Vn ⟨a6,N,a7,a8,rfl,rfl,h⟩
   rintro _ _ ⟨aq,ah,ar,au,rfl,rfl,h⟩;rw[F.aS]at h;refine J0 0 ?_;have⟨b7,h⟩:=Vs h;refine Uf 2 [Z.R64 (U+1)] [(54,A.i (U+1))] b7 (Ju ?_);exact Vn ⟨_,Qn _,⟨aq,ah,(U+1),ar,au,rfl,rfl,(Jw b7),h⟩⟩
  refine V1 2 ?_;exact Vn ⟨_,Qn _,⟨a6,N,a7,a8,rfl,rfl,h⟩⟩
 refine Va 3 1 [(10,.bool false)] 1 ?_;obtain rfl:=Vf h;exact V7 [(0,0),(1,1),(2,2),(3,3)] ⟨rfl,rfl⟩
def F.bO (k:((List (Int×D33))×(List Int)×(List (Int×Int))))(o:List (D198×Int))(p:List (D198×(List D198)))(h:D198×Int):Option (Option Bool):=A.gd (decide (A.h6 h.1.1)=true/\decide (A.h6 h.1.2)=true) ((F.bR k p o h.1 h.2).bind fun s=>(if s=true then(some (some true))else(some none)))
def F.bh (u:((List (Int×D33))×(List Int)×(List (Int×Int))))(p:List (D198×Int))(s:(List D207)):Nat->(List (D198×(List D198)))->Int->Option Bool
 |0,_,_=>none
 |f+1,k,o=>if o<(s.length:Int)then((A.ix s o).bind fun h=>(A.gd (((Z.mget ([]:List D198) k h.1).length+List.length (α:=D198) [h.2.1])*16<=140737488355328) (A.gd (Z.R64 (o+1)) ((F.bh u p s f) (Z.mins k h.1 (Z.mget ([]:List D198) k h.1++[h.2.1])) (o+1)))))else(A.mrg (F.bO u p k) (some false) p)
def F.bi (k:((List (Int×D33))×(List Int)×(List (Int×Int))))(p:D36)(o:(List D200)):Nat->(List (D198×Int))->Int->Option Bool
 |0,_,_=>none
 |f+1,s,h=>if h<(o.length:Int)then((A.ix o h).bind fun u=>(A.gd (Z.R64 (h+1)) ((F.bi k p o f) (Z.mins s u.1 u.2) (h+1))))else((F.ca k p).bind fun y=>(F.bh k s y A.FU [] 0))
def F.cb (h:((List (Int×D33))×(List Int)×(List (Int×Int))))(k:D36):Option Bool:=(F.b9 h k).bind fun o=>(F.bi h k o A.FU [] 0)
theorem o_aP(y:((List (Int×D33))×(List Int)×(List (Int×Int))))(I:D36)(r:Bool)(k:F.cb y I=some r):
    A.Ct Tryz.prog 86 [.pointer (some ⟨g0_,0,none⟩),.agg #[.slice A5_ I.length c6_]] [(0,.blk g0_ 155 [.map (some b1_),.slice A2_ y.2.1.length c3_,.map (some b4_)]),(1,.mp Int (fun i:Int=>A.i i) T33 true b1_ y.1),(2,.own A.ti 3 A2_ c3_ y.2.1),(3,.mp Int (fun i:Int=>A.i i) A.ti false b4_ y.2.2),(4,.sh (.slice T33) [.slice A5_ I.length c6_] I)] ([g0_]++([b1_]++(Z.obl A2_++([b4_]++[])))) (fun v H'=>v=.bool r/\H'=[(0,.blk g0_ 155 [.map (some b1_),.slice A2_ y.2.1.length c3_,.map (some b4_)]),(1,.mp Int (fun i:Int=>A.i i) T33 true b1_ y.1),(2,.own A.ti 3 A2_ c3_ y.2.1),(3,.mp Int (fun i:Int=>A.i i) A.ti false b4_ y.2.2)]):=by
 refine Jv Tryz.func86 rfl Tryz.ntmps86 rfl fun w0 F0=>?_;rw[F.cb]at k;refine J0 1 ?_;refine J1 5 (cs:=[.slice A5_ I.length c6_]) fun g1=>?_;refine J7 1 [] 2 ?_;refine Uj 6 D198 (fun x:D198=>(A.rad x)) A.ti false fun J=>?_;refine J7 1 [(5,.map (some J))] 3 ?_;refine J5 [5] [] [.n,.b 0 0] [(14,.pointer (some ⟨g0_,0,none⟩)),(15,.agg #[.slice A5_ I.length c6_])] (Vx 7 [] k (o_aN A2_ A5_ g0_ b1_ c3_ b4_ c6_ y I) (.m 0 (.m 1 (.m 2 (.m 3 (.s 4 .nil))))) ?_);rintro r3 - k _ _ ⟨A5,c6,rfl,rfl⟩;refine J9 (J8 8 0 [] ?_);refine J8 9 1 [] ?_;refine J8 10 2 [] ?_;refine J8 11 3 [] ?_;refine Vc 2 [(17,A.i (r3.length:Int)),(18,A.i 0)] 2 ?_;refine Vo [0,3,5,16,17] [0,1,2,3,4,5,7] (fun f W nh=>∃(z:List (D198×Int))(L:Int),W=[(18,A.i L)]/\nh=[(6,.mp D198 (fun x:D198=>(A.rad x)) A.ti false J z)]/\A.h6 L/\F.bi y I r3 f z L=some r) ⟨[],0,rfl,rfl,J3,k⟩ ?_;rintro a5 _ _ ⟨z,L,rfl,rfl,ak,k⟩;rcases a5 with _|a5
 ·exact Vb k
 rw[F.bi]at k;refine Vl 1 1 [(19,.bool (decide (L<(r3.length:Int))))] 2 k ?_ ?_<;>intro hb k
 ·refine J0 5 ?_;have⟨B,aa,k⟩:=V6 k;refine Uq 7 409 aa fun ab=>?_;intro al am;refine J5 [] [409] [.e 0 0] [(21,.agg #[A.i B.1.1,A.i B.1.2,A.i B.2])] (Jy 410 (cs:=[A.i 0,A.i 0,A.i 0]) Tryz.zeroValue201 fun an=>?_);refine Vg 410 [] [A.i B.1.1,A.i B.1.2,A.i B.2] ?_;refine Vk 1 ?_;refine J5 [410] [] [.n,.n,.b 0 0,.n,.b 0 2] [(22,.map (some J)),(24,(A.rad B.1)),(26,A.i B.2)] (Uz (t:=A.ti) 6 [] (cs:=[A.i B.2]) (u:=B.2) ky199 B.1 ⟨rfl,ab.2⟩ ?_);refine Vk 2 ?_;have⟨a6,k⟩:=Vs k;refine Uf 2 [Z.R64 (L+1)] [(18,A.i (L+1))] a6 (Ju ?_);exact Vn ⟨_,Qn _,⟨(Z.mins z B.1 B.2),(L+1),rfl,rfl,(Jw a6),k⟩⟩
 refine J0 3 ?_;refine A.AL.mkmr 411 D198 (fun x:D198=>(A.rad x)) T198 199 fun a2=>?_;refine J7 1 [(8,.map (some a2))] 3 ?_;refine J5 [5] [] [.n,.b 0 0] [(29,.pointer (some ⟨g0_,0,none⟩)),(30,.agg #[.slice A5_ I.length c6_])] (Vx 412 [] k (o_aO A2_ A5_ g0_ b1_ c3_ b4_ c6_ y I) (.m 0 (.m 1 (.m 2 (.m 3 (.s 4 .nil))))) ?_);rintro a3 - k _ _ ⟨ao,ap,rfl,rfl⟩;refine J9 (J8 413 0 [] ?_);refine J8 414 1 [] ?_;refine J8 415 2 [] ?_;refine J8 416 3 [] ?_;refine Vc 2 [(32,A.i (a3.length:Int)),(33,A.i 0)] 2 ?_;refine Vo [0,5,8,31,32] [0,1,2,3,6,412] (fun f W nh=>∃(U:List (D198×(List D198)))(N:Int)(As23:List (Option Addr×Nat)),W=[(33,A.i N)]/\nh=[(411,.mr D198 (fun x:D198=>(A.rad x)) T198 199 a2 As23 U)]/\A.h6 N/\F.bh y z a3 f U N=some r) ⟨[],0,[],rfl,rfl,J3,k⟩ ?_;rintro a7 _ _ ⟨U,N,As23,rfl,rfl,aq,k⟩;rcases a7 with _|a7
 ·exact Vb k
 rw[F.bh]at k;refine Vl 1 1 [(34,.bool (decide (N<(a3.length:Int))))] 2 k ?_ ?_<;>intro hb k
 ·refine J0 5 ?_;have⟨o,ac,k⟩:=V6 k;refine Uq 412 544 ac fun a8=>?_;intro ar au;refine J5 [] [544] [.e 0 0] [(36,.agg #[A.i o.1.1,A.i o.1.2,A.i o.2.1.1,A.i o.2.1.2,A.i o.2.2.1,A.i o.2.2.2.1,A.i o.2.2.2.2.1,A.i o.2.2.2.2.2.1,A.i o.2.2.2.2.2.2.1,A.i o.2.2.2.2.2.2.2.1,A.i o.2.2.2.2.2.2.2.2.1,A.i o.2.2.2.2.2.2.2.2.2])] (Jy 545 (cs:=[A.i 0,A.i 0,A.i 0,A.i 0,A.i 0,A.i 0,A.i 0,A.i 0,A.i 0,A.i 0,A.i 0,A.i 0]) Tryz.zeroValue208 fun av=>?_);refine Vg 545 [] [A.i o.1.1,A.i o.1.2,A.i o.2.1.1,A.i o.2.1.2,A.i o.2.2.1,A.i o.2.2.2.1,A.i o.2.2.2.2.1,A.i o.2.2.2.2.2.1,A.i o.2.2.2.2.2.2.1,A.i o.2.2.2.2.2.2.2.1,A.i o.2.2.2.2.2.2.2.2.1,A.i o.2.2.2.2.2.2.2.2.2] ?_;refine Vk 1 ?_;refine J5 [545] [] [.n,.n,.b 0 0,.n,.b 0 2] [(37,.map (some a2)),(39,(A.rad o.1)),(42,(A.rad o.2.1))] (Ve 546 (ty:=T198) (cs:=(A.raa o.2.1)) [o.2.1] ⟨⟨⟨rfl,a8.2.1.1⟩,⟨rfl,a8.2.1.2⟩⟩,rfl⟩ (fun aw=>?_) Tryz.zeroValue199 Tryz.sizeOf199)
  have⟨hl35,k⟩:=Vs k;refine A.AL.mapp (t:=T198) (ys:=[o.2.1]) 411 546 [] ky199 o.1 Tryz.zeroValue209 inf199 hl35 fun As36 ax ay az b0=>?_;refine Vk 2 ?_;have⟨a9,k⟩:=Vs k;refine Uf 2 [Z.R64 (N+1)] [(33,A.i (N+1))] a9 (Ju ?_);exact Vn ⟨_,Qn _,⟨(Z.mins U o.1 (Z.mget ([]:List D198) U o.1++[o.2.1])),(N+1),As36,rfl,rfl,(Jw a9),k⟩⟩
 refine Ub 4 1 [(48,.map (some J))] ?_;refine A.AL.rgm 6 547 fun a4=>?_;refine V4 2 ?_;refine A.frzM 411 [] ?_;obtain⟨hev,hend⟩:=A.mrg_all k;refine A.AX.loop [0,5,8,49] [0,1,2,3,6,411] [547,0,1,2,3,6,411] (fun f W nh=>∃(sn:List Nat) (la:Option (Value×Value)),W=[]/\nh=[(547,.mit 6 a4 J z.length sn la)]/\sn.Nodup/\(∀i∈sn,i<z.length)/\(∀i∈sn,∀p,(z)[i]?=some p->F.bO y z U p=some none)/\f+sn.length=z.length+1) (z.length+1) [] [(547,.mit 6 a4 J z.length [] none)] ⟨[],none,rfl,rfl,Ji,by simp,by simp,rfl⟩ ?_;rintro b1 _ _ ⟨ad,la44,rfl,rfl,hnd,hbd,hse,hff⟩;refine J0 1 ?_;refine A.AL.nxm 6 547 548 (fun hall=>?_) (fun ae E hp48 hs49 ag=>?_)
 ·replace k:=hend (A.seen_all hse hall)
  refine Vc 1 [(51,.bool false)] 2 ?_;refine V5 rfl ?_;refine Va 3 1 [(4,.bool false)] 1 ?_;obtain rfl:=Vf k;exact V7 [(0,0),(1,1),(2,2),(3,3)] ⟨rfl,rfl⟩
 obtain⟨q,hB,hq⟩:=hev E (Qt hp48)
 have k:=hB
 rw[F.bO]at k;have⟨hkc51,k⟩:=Vs k;refine Vc 1 [(51,.bool true)] 2 ?_;refine Ua rfl ?_;refine J0 4 ?_;refine A.AL.ent 547 ?_;refine V9 2 [(53,(A.rad E.1)),(54,A.i E.2)] (Jy 549 (cs:=l5q) Tryz.zeroValue199 fun b3=>?_);refine Vg 549 [] (A.raa E.1) ?_;refine J7 1 [(12,A.i E.2)] 2 ?_;refine J5 [549] [] [.n,.n,.n,.b 0 0,.n] [(55,.pointer (some ⟨g0_,0,none⟩)),(56,.map (some a2)),(57,.map (some J)),(58,(A.rad E.1)),(59,A.i E.2)] ?_;have⟨ah,aj,k⟩:=V6 k;refine V3 550 [] (first:=[]) (cap:=[]) cf126 (o_az A2_ g0_ b1_ c3_ b4_ a2 J y U z E.1 E.2 (Wf hkc51.1) (Wf hkc51.2) ag ah aj) (.m 0 (.m 1 (.m 2 (.m 3 (.lm 411 (.lm 6 .nil)))))) ?_;rintro _ _ ⟨rfl,rfl⟩;refine J9 (J8 550 0 [] ?_);refine J8 551 1 [] ?_;refine J8 552 2 [] ?_;refine J8 553 3 [] ?_;refine V4 1 ?_;refine Uk k ?_ ?_<;>intro hb k
 ·refine Va 1 1 [(4,.bool true)] 1 ?_;obtain rfl:=Vf k;obtain rfl:=Ws (hq.resolve_left (by intro h;cases h))
  exact V7 [(0,0),(1,1),(2,2),(3,3)] ⟨rfl,rfl⟩
 refine V1 2 ?_;obtain rfl:=Vf k;exact A.AE.j [547,0,1,2,3,6,411] [] [(547,.mit 6 a4 J z.length (ae::ad) (some ((A.rad E.1),A.i E.2)))] ⟨_,(A.seen_f hnd (U0 hbd hp48) hs49 hff).1,_,_,rfl,rfl,Wv.2 ⟨hs49,hnd⟩,U0 hbd hp48,A.seen_cons hse hp48 hB,(A.seen_f hnd (U0 hbd hp48) hs49 hff).2⟩
def F.cv (h:D33)(k:D33):Option Bool:=some (bif decide (h.2.1=k.2.1)then decide (h.2.2.2.2.1=k.2.2.2.2.1)else false)
theorem o_a8(h:D33)(k:D33)(p:A.h6 h.1)(s:A.h6 h.2.1)(u:A.h6 h.2.2.2.1.1)(y:A.h6 h.2.2.2.1.2.1)(z:h.2.2.2.1.2.2.size<=maxLen)(B:h.2.2.2.2.1.size<=maxLen)(E:A.h6 h.2.2.2.2.2.1)(I:A.h6 h.2.2.2.2.2.2)(J:A.h6 k.1)(L:A.h6 k.2.1)(N:A.h6 k.2.2.2.1.1)(U:A.h6 k.2.2.2.1.2.1)(W:k.2.2.2.1.2.2.size<=maxLen)(a1:k.2.2.2.2.1.size<=maxLen)(a2:A.h6 k.2.2.2.2.2.1)(a3:A.h6 k.2.2.2.2.2.2)(r:Bool)(o:F.cv h k=some r):
    A.Ct Tryz.prog 81 [(A.rao h A2_ c3_),.pointer (some ⟨g10_,0,none⟩)] [(0,.sh A.TI [.slice A2_ h.2.2.1.length c3_] h.2.2.1),(1,.el none g10_ 0 (A.rai k A13_ c14_)),(2,.sh A.TI [.slice A13_ k.2.2.1.length c14_] k.2.2.1)] [] (fun v H'=>v=.bool r/\H'=[]):=by
 refine Jv Tryz.func81 rfl Tryz.ntmps81 rfl fun w0 F0=>?_;rw[F.cv]at o;refine J0 1 ?_;refine J1 3 (cs:=(A.rai h A2_ c3_)) fun g1=>?_;refine J7 1 [] 2 ?_;refine Vw [3] [1] [.n,.b 0 1,.n,.e 0 1,.n,.n,.sy .n,.sy (.b 0 6),.sy .n,.sy (.e 0 6),.sy .n,.pk,.n] [(3,.bool (bif decide (h.2.1=k.2.1)then decide (h.2.2.2.2.1=k.2.2.2.2.1)else false))] 1 ?_;exact A.ke o (Vh ⟨rfl,rfl⟩)
def F.h (o:(List D33))(p:D33):Nat->Int->Option Int
 |0,_=>none
 |f+1,k=>if k<(o.length:Int)then((A.ix o k).bind fun s=>((F.cv s p).bind fun u=>(if u=true then(some k)else(A.gd (Z.R64 (k+1)) ((F.h o p f) (k+1))))))else(some (-1))
def F.v (k:(List D33))(o:D33):Option Int:=F.h k o A.FU 0
theorem o_f(y:(List D33))(o:D33)(L:A.h6 o.1)(N:A.h6 o.2.1)(U:A.h6 o.2.2.2.1.1)(W:A.h6 o.2.2.2.1.2.1)(a1:o.2.2.2.1.2.2.size<=maxLen)(a2:o.2.2.2.2.1.size<=maxLen)(a3:A.h6 o.2.2.2.2.2.1)(a4:A.h6 o.2.2.2.2.2.2)(r:Int)(k:F.v y o=some r):
    A.Ct Tryz.prog 57 [.slice A0_ y.length c1_,.func (.func 81) #[] #[.pointer (some ⟨g2_,0,none⟩)]] [(0,.ln T33 A0_ c1_ y),(1,.el none g2_ 0 (A.rai o A5_ c6_)),(2,.sh A.TI [.slice A5_ o.2.2.1.length c6_] o.2.2.1)] [] (fun v H'=>v=A.i r/\H'=[]/\A.h6 r):=by
 refine Jv Tryz.func57 rfl Tryz.ntmps57 rfl fun w0 F0=>?_;rw[F.v]at k;refine J0 1 ?_;refine J7 1 [] 3 ?_;refine Vc 3 [(7,A.i (y.length:Int)),(8,A.i 0)] 2 ?_;refine Vo [0,1,7] [0,1,2] (fun f nl nh=>∃(p:Int),nl=[(8,A.i p)]/\nh=[]/\A.h6 p/\F.h y o f p=some r) ⟨0,rfl,rfl,J3,k⟩ ?_;rintro z _ _ ⟨p,rfl,rfl,a5,k⟩;rcases z with _|z
 ·exact Vb k
 rw[F.h]at k;refine Vl 1 1 [(9,.bool (decide (p<(y.length:Int))))] 2 k ?_ ?_<;>intro hb k
 ·refine J0 5 ?_;refine J7 2 [(5,A.i p)] 2 ?_;refine V9 3 [(11,.func (.func 81) #[] #[.pointer (some ⟨g2_,0,none⟩)]),(12,.slice A0_ y.length c1_),(13,A.i p)] ?_;have⟨B,a6,k⟩:=V6 k;refine Vz 0 87 a6 fun u=>?_;intro E I b9 a9;refine J5 [] [87] [.e 0 0] [(15,(A.rao B E I))] ?_;have⟨a7,a8,k⟩:=V6 k;refine V3 89 [] (first:=[]) (cap:=[.pointer (some ⟨g2_,0,none⟩)]) cf81 (o_a8 E A5_ I g2_ c6_ B o u.1 u.2.1 u.2.2.2.1.1 u.2.2.2.1.2.1 u.2.2.2.1.2.2 u.2.2.2.2.1 u.2.2.2.2.2.1 u.2.2.2.2.2.2 L N U W a1 a2 a3 a4 a7 a8) (.s 88 (.s 1 (.s 2 .nil))) ?_;rintro _ _ ⟨rfl,rfl⟩;refine J9 (V4 1 ?_);refine Uk k ?_ ?_<;>intro hb k
  ·refine Va 1 2 [(4,A.i p)] 1 ?_;exact A.ke k (Vh ⟨rfl,rfl,a5⟩)
  refine J0 3 ?_;have⟨J,k⟩:=Vs k;refine Uf 2 [Z.R64 (p+1)] [(8,A.i (p+1))] J (Ju ?_);exact Vn ⟨_,Qn _,⟨(p+1),rfl,rfl,(Jw J),k⟩⟩
 refine Va 3 1 [(4,A.i (-1))] 1 ?_;exact A.ke k (Vh ⟨rfl,rfl,(Vp (-1))⟩)
def F.q (h:(List D33))(k:D33):Option Bool:=(F.v h k).bind fun o=>(some (decide ((0:Int)<=o)))
theorem o_d(k:(List D33))(h:D33)(p:A.h6 h.1)(u:A.h6 h.2.1)(y:A.h6 h.2.2.2.1.1)(z:A.h6 h.2.2.2.1.2.1)(B:h.2.2.2.1.2.2.size<=maxLen)(E:h.2.2.2.2.1.size<=maxLen)(I:A.h6 h.2.2.2.2.2.1)(J:A.h6 h.2.2.2.2.2.2)(r:Bool)(o:F.q k h=some r):
    A.Ct Tryz.prog 80 [.slice A0_ k.length c1_,.func (.func 81) #[] #[.pointer (some ⟨g2_,0,none⟩)]] [(0,.ln T33 A0_ c1_ k),(1,.el none g2_ 0 (A.rai h A5_ c6_)),(2,.sh A.TI [.slice A5_ h.2.2.1.length c6_] h.2.2.1)] [] (fun v H'=>v=.bool r/\H'=[]):=by
 refine Jv Tryz.func80 rfl Tryz.ntmps80 rfl fun N U=>?_;rw[F.q]at o;refine J0 1 ?_;refine J7 1 [] 2 ?_;refine V9 2 [(5,.slice A0_ k.length c1_),(6,.func (.func 81) #[] #[.pointer (some ⟨g2_,0,none⟩)])] (Vx 3 [] o (o_f A0_ A5_ c1_ g2_ c6_ k h p u y z B E I J) (.s 0 (.s 1 (.s 2 .nil))) ?_);rintro L - o _ _ ⟨rfl,rfl,hr3⟩;refine J9 (Vc 2 [(4,.bool (decide ((0:Int)<=L)))] 1 ?_);exact A.ke o (Vh ⟨rfl,rfl⟩)
def F.bW (o:(List (Int×D33))->Int->Int->Option ((Option ((List (Int×D33))×(List Int)×(List (Int×Int))))×Int))(p:List (Int×D33))(k:Int)(h:D33)(s:Bool):Option ((Option ((List (Int×D33))×(List Int)×(List (Int×Int))))×Int):=if s=true then(some (none,80))else(A.gd (Z.R64 (k+1)) (o (Z.mins p h.1 h) h.1 (k+1)))
def F.bX (k:(List (Int×D33))->Int->Int->Option ((Option ((List (Int×D33))×(List Int)×(List (Int×Int))))×Int))(o:List (Int×D33))(s:Int)(p:Int)(h:D33)(u:Bool):Option ((Option ((List (Int×D33))×(List Int)×(List (Int×Int))))×Int):=if h.1<=s then(F.bW k o p h true)else((F.cL h).bind fun y=>(F.bW k o p h (bif !y then true else u)))
def F.bY (s:Int->Option ((Option ((List (Int×D33))×(List Int)×(List (Int×Int))))×Int))(k:List (Int×D33))(o:Int)(p:D33):Nat->Int->Option ((Option ((List (Int×D33))×(List Int)×(List (Int×Int))))×Int)
 |0,_=>none
 |f+1,h=>if h<(p.2.2.1.length:Int)then((A.ix p.2.2.1 h).bind fun u=>(A.lt (Z.mget ((0,0,[],(0,0,(ByteArray.mk #[])),(ByteArray.mk #[]),0,0):D33) k u) fun y=>(if(bif !(Z.mhas k u)then true else decide (y.2.1=15))=true then(some (none,80))else(A.gd (Z.R64 (h+1)) ((F.bY s k o p f) (h+1))))))else(A.gd (Z.R64 (o+1)) (s (o+1)))
def F.bB (h:D36)(k:List (Int×D33)):Nat->Int->Option ((Option ((List (Int×D33))×(List Int)×(List (Int×Int))))×Int)
 |0,_=>none
 |f+1,o=>if o<(h.length:Int)then((A.ix h o).bind fun u=>(F.bY (F.bB h k f) k o u A.FU 0))else((F.ck (k,[],[]) h).bind fun s=>(if(!s.1)=true then(some (none,81))else((F.b2 s.2).bind fun p=>(if(!p.1)=true then(some (none,80))else((F.cb p.2 h).bind fun y=>(if y=true then(some (none,81))else(some (some p.2,0))))))))
def F.bZ (h:D36)(o:List (Int×D33)):Nat->Int->Option ((Option ((List (Int×D33))×(List Int)×(List (Int×Int))))×Int)
 |0,_=>none
 |f+1,k=>if k<(h.length:Int)then((A.ix h k).bind fun p=>((F.cR p.2.1 p.2.2.2.1).bind fun s=>(if s≠0 then(some (none,s))else(A.gd (Z.R64 (k+1)) ((F.bZ h o f) (k+1))))))else(F.bB h o A.FU 0)
def F.aM (h:D36):Nat->(List (Int×D33))->Int->Int->Option ((Option ((List (Int×D33))×(List Int)×(List (Int×Int))))×Int)
 |0,_,_,_=>none
 |f+1,p,s,k=>if k<(h.length:Int)then((A.ix h k).bind fun o=>((F.aW o.2.1).bind fun u=>(if u=true then(A.gd (0<=k/\k.toNat<=h.length) ((F.q (List.take k.toNat h) o).bind fun y=>(F.bX (F.aM h f) p s k o y)))else(F.bX (F.aM h f) p s k o false))))else(F.bZ h p A.FU 0)
def F.cG (h:D36):Option ((Option ((List (Int×D33))×(List Int)×(List (Int×Int))))×Int):=if(32:Int)<(h.length:Int)then(some (none,80))else(F.aM h A.FU [] 0 0)
theorem o_bx(k:D36)(r:(Option ((List (Int×D33))×(List Int)×(List (Int×Int))))×Int)(h:F.cG k=some r):
    A.Ct Tryz.prog 56 [.agg #[.slice A0_ k.length c1_]] [(0,.sh (.slice T33) [.slice A0_ k.length c1_] k),(1,.el none 0 0 A.tabF),(2,.el none 1 0 A.tabA)] [] (fun v H'=>(r.1=none/\v=.tuple #[.pointer none,A.i r.2]/\H'=[]/\A.h6 r.2)\/(∃(p0:((List (Int×D33))×(List Int)×(List (Int×Int)))),r.1=some p0/\∃(g0':Nat) (b1':Nat) (A2':Option Addr) (c3':Nat) (b4':Nat),v=.tuple #[.pointer (some ⟨g0',0,none⟩),A.i r.2]/\H'=[(0,.blk g0' 155 [.map (some b1'),.slice A2' p0.2.1.length c3',.map (some b4')]),(1,.mp Int (fun i:Int=>A.i i) T33 true b1' p0.1),(2,.own A.ti 3 A2' c3' p0.2.1),(3,.mp Int (fun i:Int=>A.i i) A.ti false b4' p0.2.2)]/\A.h6 r.2)):=by
 refine Jv Tryz.func56 rfl Tryz.ntmps56 rfl fun w0 F0=>?_;rw[F.cG]at h;refine J0 1 ?_;refine J1 3 (cs:=[.slice A0_ k.length c1_]) fun g1=>?_;refine J7 2 [] 3 ?_;refine Vw [3] [] [.n,.b 0 0,.n,.n] [(21,.bool (decide ((32:Int)<(k.length:Int))))] 1 ?_;refine Uv h ?_ ?_<;>intro E h
 ·refine Va 1 2 [(2,.pointer none),(3,A.i 80)] 1 ?_;obtain rfl:=Vf h;exact Ue [] (.inl ⟨rfl,⟨rfl,rfl,(Vp 80)⟩⟩)
 refine J0 3 ?_;refine Uj 4 Int (fun i:Int=>A.i i) T33 true fun b2=>?_;refine Uj 5 Int (fun i:Int=>A.i i) A.ti false fun b3=>?_;refine V9 1 [(24,.agg #[.map (some b2),.slice none 0 0,.map (some b3)])] (J1 6 (cs:=[.map (some b2),.slice none 0 0,.map (some b3)]) fun L=>?_);refine J7 1 [(4,.pointer (some ⟨L,0,none⟩))] 2 ?_;refine J7 1 [(5,A.i 0)] 3 ?_;refine Vw [3] [] [.n,.b 0 0,.n,.n] [(27,.slice A0_ k.length c1_),(28,A.i (k.length:Int)),(29,A.i 0)] 2 ?_;refine Vo [1,4,27,28] [0,1,2,3,5,6] (fun f I J=>∃(B:List (Int×D33))(y6:Int)(y:Int),I=[(5,A.i y6),(29,A.i y)]/\J=[(4,.mp Int (fun i:Int=>A.i i) T33 true b2 B)]/\A.h6 y6/\A.h6 y/\F.aM k f B y6 y=some r) ⟨[],0,0,rfl,rfl,J3,J3,h⟩ ?_;rintro a7 _ _ ⟨B,y6,y,rfl,rfl,bm,bp,h⟩;rcases a7 with _|a7
 ·exact Vb h
 rw[F.aM]at h;refine Vl 1 1 [(30,.bool (decide (y<(k.length:Int))))] 2 h ?_ ?_<;>intro E h
 ·refine Ub 5 1 [(31,A.i y)] ?_;have⟨p,b5,h⟩:=V6 h;refine Vr 0 2907 b5 fun o=>?_;intro a1 a2 bq br;refine J5 [] [2907] [.e 0 0] [(33,(A.rao p a1 a2))] (Jy 2909 (cs:=l5a) Tryz.zeroValue34 fun ah=>?_);refine V9 1 [(6,A.i y)] (Vg 2909 [] (A.rai p a1 a2) ?_);refine V4 1 ?_;refine J4 [1,4,5,7,27,28,29] l5n (fun I J=>∃(a6:Bool),I=[(8,.bool a6)]/\J=[]/\F.bX (F.aM k a7) B y6 y p a6=some r) ?_ ?_
  ·refine Vy 0 [2909] [] [.n,.b 0 1] [(35,A.i p.2.1)] ?_;refine Vx 2910 [] h (o_l p.2.1 o.2.1) .nil ?_;rintro b6 - h _ _ ⟨rfl,rfl⟩;refine J9 (V9 1 [(37,.bool b6)] (V2 (j:=37) rfl h (fun h=>?_) (fun h=>?_)))
   ·refine J5 [3] [] [.on .n,.on (.b 0 0),.on .n] [(39,.slice A0_ k.length c1_),(40,A.i y)] (Vu (dj:=37) rfl rfl ?_);have⟨aj,h⟩:=Vs h;refine A.AL.cuth 0 2950 (v:=y.toNat) (Xk aj.1).symm aj.2 fun b7=>?_;refine J5 [] [] [.on .n] [(42,.func (.func 81) #[] #[.pointer (some ⟨ah,0,none⟩)])] (Vu (dj:=37) rfl rfl ?_);refine Vx 2951 [] h (o_d A0_ a1 b7 ah a2 (List.take y.toNat k) p o.1 o.2.1 o.2.2.2.1.1 o.2.2.2.1.2.1 o.2.2.2.1.2.2 o.2.2.2.2.1 o.2.2.2.2.2.1 o.2.2.2.2.2.2) (.l 2950 (.b 2909 (.s 2908 .nil))) ?_;rintro ak - h _ _ ⟨rfl,rfl⟩;refine J9 (V9 2 [(8,.bool ak)] (Ju ?_));exact Vn ⟨ak,rfl,rfl,h⟩
   refine J5 [] [] [.off,.off,.off,.off,.off,.off,.n,.n] [(8,.bool false)] (Ju ?_);exact Vn ⟨false,rfl,rfl,h⟩
  rintro _ _ ⟨a6,rfl,rfl,h⟩;rw[F.bX]at h;refine Um 1 ?_;refine J4 [1,4,7,27,28,29] l5n (fun I J=>∃(a9:Bool),I=[(56,.bool a9)]/\J=[]/\F.bW (F.aM k a7) B y p a9=some r) ?_ ?_
  ·refine Vy 0 [2909] [] [.n,.b 0 0,.n,.n,.n] [(49,.bool (decide (p.1<=y6)))] ?_;refine Up (j:=49) rfl h ?_ ?_<;>intro E h
   ·refine J5 [] [] [.off,.off,.off,.n,.n,.off,.n] [(56,.bool true)] (Ju ?_);exact Vn ⟨true,rfl,rfl,h⟩
   refine J5 [2909] [] [.on (.b 0 0)] [(50,(A.rao p a1 a2))] (Vu (dj:=49) rfl rfl ?_);refine Vx 2991 [] h (o_b2 a1 a2 p o.1 o.2.1 o.2.2.2.1.1 o.2.2.2.1.2.1 o.2.2.2.1.2.2 o.2.2.2.2.1 o.2.2.2.2.2.1 o.2.2.2.2.2.2) (.s 2908 .nil) ?_;rintro al - h _ _ ⟨rfl,rfl⟩;refine J9 (J5 [] [] [.on .n,.n,.n,.sy .n,.pk] [(56,.bool (bif !al then true else a6))] (Ju ?_));exact Vn ⟨(bif !al then true else a6),rfl,rfl,h⟩
  rintro _ _ ⟨a9,rfl,rfl,h⟩;rw[F.bW]at h;refine Uk h ?_ ?_<;>intro E h
  ·refine Va 1 2 [(2,.pointer none),(3,A.i 80)] 1 ?_;obtain rfl:=Vf h;exact Ue [] (.inl ⟨rfl,⟨rfl,rfl,(Vp 80)⟩⟩)
  refine Uh 3 [2909] [] [.n,.b 0 0,.n] [(5,A.i p.1)] 1 ?_;refine Vj mixed 7 8 (A.mb 8 0) ?_;refine Vm Vd [] l5n [2909,6] [] (A.mb 8 127) 1 [(0,.n),(4,.n),(6,.b 0 0),(1,.n),(5,.b 0 0),(2,.n),(3,.b 1 0)] [(65,(A.rao p a1 a2)),(64,A.i p.1),(62,.map (some b2))] (Jz 7 ?_);refine Uz (t:=T33) 4 [] (cs:=(A.rai p a1 a2)) (u:=p) ky3 p.1 ⟨⟨rfl,o.1⟩,⟨rfl,o.2.1⟩,.inl ⟨2908,rfl⟩,⟨⟨rfl,o.2.2.2.1.1⟩,⟨rfl,o.2.2.2.1.2.1⟩,⟨rfl,o.2.2.2.1.2.2⟩⟩,⟨rfl,o.2.2.2.2.1⟩,⟨rfl,o.2.2.2.2.2.1⟩,⟨rfl,o.2.2.2.2.2.2⟩⟩ ?_;refine Vv (A.mb 8 255) ?_;refine J6 ?_;refine U1 2 ?_;have⟨am,h⟩:=Vs h;refine Uf 2 [Z.R64 (y+1)] [(29,A.i (y+1))] am (Ju ?_);exact Vn ⟨_,Qn _,⟨(Z.mins B p.1 p),p.1,(y+1),rfl,rfl,o.1,(Jw am),h⟩⟩
 refine Uh 4 [3] [] [.n,.b 0 0,.n,.n] [(68,.slice A0_ k.length c1_),(69,A.i (k.length:Int)),(70,A.i 0)] 2 ?_;refine Vo [1,4,68,69] [0,1,2,3,4,5,6] (fun f I J=>∃(U:Int),I=[(70,A.i U)]/\J=[]/\A.h6 U/\F.bZ k B f U=some r) ⟨0,rfl,rfl,J3,h⟩ ?_;rintro an _ _ ⟨U,rfl,rfl,bs,h⟩;rcases an with _|an
 ·exact Vb h
 rw[F.bZ]at h;refine Vl 1 1 [(71,.bool (decide (U<(k.length:Int))))] 2 h ?_ ?_<;>intro E h
 ·refine J0 5 ?_;have⟨a3,b9,h⟩:=V6 h;refine Vr 0 3915 b9 fun a8=>?_;intro ao ap bt bu;refine J5 [] [3915] [.e 0 0] [(73,(A.rao a3 ao ap))] (Jy 3917 (cs:=l5a) Tryz.zeroValue34 fun bw=>?_);refine Vg 3917 [] (A.rai a3 ao ap) ?_;refine Vk 2 ?_;refine J5 [3917] [] [.n,.b 0 1,.n,.b 0 3] [(75,A.i a3.2.1),(77,(A.rap a3.2.2.2.1))] (Vx 3918 [] h (o_b8 a3.2.1 a3.2.2.2.1 a8.2.1 a8.2.2.2.1.1 a8.2.2.2.1.2.1 a8.2.2.2.1.2.2) (.s 1 (.s 2 .nil)) ?_);rintro aa - h _ _ ⟨rfl,rfl,hr44⟩;refine J9 (J7 1 [(11,A.i aa)] 2 ?_);refine Vc 2 [(80,.bool (decide (aa≠0)))] 1 ?_;refine Uv h ?_ ?_<;>intro E h
  ·refine Va 1 3 [(2,.pointer none),(3,A.i aa)] 1 ?_;obtain rfl:=Vf h;exact Ue [] (.inl ⟨rfl,⟨rfl,rfl,hr44⟩⟩)
  refine J0 3 ?_;have⟨aq,h⟩:=Vs h;refine Uf 2 [Z.R64 (U+1)] [(70,A.i (U+1))] aq (Ju ?_);exact Vn ⟨_,Qn _,⟨(U+1),rfl,rfl,(Jw aq),h⟩⟩
 refine Uh 4 [3] [] [.n,.b 0 0,.n,.n] [(84,.slice A0_ k.length c1_),(85,A.i (k.length:Int)),(86,A.i 0)] 2 ?_;refine Vo [1,4,84,85] [0,1,2,3,4,5,6] (fun f I J=>∃(N:Int),I=[(86,A.i N)]/\J=[]/\A.h6 N/\F.bB k B f N=some r) ⟨0,rfl,rfl,J3,h⟩ ?_;rintro ab _ _ ⟨N,rfl,rfl,bx,h⟩;rcases ab with _|ab
 ·exact Vb h
 rw[F.bB]at h;refine Vl 1 1 [(87,.bool (decide (N<(k.length:Int))))] 2 h ?_ ?_<;>intro E h
 ·refine J0 5 ?_;have⟨a4,bb,h⟩:=V6 h;refine Vr 0 4224 bb fun bz=>?_;intro ac ad c0 c1;refine J5 [] [4224] [.e 0 0] [(89,(A.rao a4 ac ad))] (Jy 4226 (cs:=l5a) Tryz.zeroValue34 fun c2=>?_);refine Vg 4226 [] (A.rai a4 ac ad) ?_;refine Vk 2 ?_;refine Vw [4226] [] [.n,.b 0 2,.n,.n] [(91,.slice ac a4.2.2.1.length ad),(92,A.i (a4.2.2.1.length:Int)),(93,A.i 0)] 2 ?_;refine Vo [1,4,84,85,86,91,92] [0,1,2,3,4,5,6,4225] (fun f I J=>∃(W:Int),I=[(93,A.i W)]/\J=[]/\A.h6 W/\F.bY (F.bB k B ab) B N a4 f W=some r) ⟨0,rfl,rfl,J3,h⟩ ?_;rintro ar _ _ ⟨W,rfl,rfl,c3,h⟩;rcases ar with _|ar
  ·exact Vb h
  rw[F.bY]at h;refine Vl 1 1 [(94,.bool (decide (W<(a4.2.2.1.length:Int))))] 2 h ?_ ?_<;>intro E h
  ·refine J0 5 ?_;have⟨a5,bc,h⟩:=V6 h;refine Vr 4225 4233 bc fun c4=>?_;intro c5 c6;refine J5 [] [4233] [.e 0 0,.n] [(15,A.i a5)] (Vk 2 ?_);refine J5 [6] [] [.n,.n,.n,.b 0 0,.n] [(101,.map (some b2)),(102,A.i a5)] ?_;obtain⟨ae,be,h⟩:=Vi h;refine A.AL.lk2 (t:=T33) 4 4234 (z:=((0,0,[],(0,0,(ByteArray.mk #[])),(ByteArray.mk #[]),0,0):D33)) (zs:=l5a) ky3 a5 Tryz.zeroValue34 ⟨⟨rfl,by decide⟩,⟨rfl,by decide⟩,(.inr ⟨rfl,rfl⟩),⟨⟨rfl,by decide⟩,⟨rfl,by decide⟩,⟨rfl,by decide⟩⟩,⟨rfl,by decide⟩,⟨rfl,by decide⟩,⟨rfl,by decide⟩⟩ be fun c7=>?_;intro au av;refine V9 3 [(104,(A.rao ae au av)),(105,.bool (Z.mhas B a5))] (Jy 4235 (cs:=l5a) Tryz.zeroValue34 fun c8=>?_);refine Vg 4235 [] (A.rai ae au av) ?_;refine J7 1 [(17,.bool (Z.mhas B a5))] 2 ?_;refine Vw [4235] [] [.n,.n,.n,.sy .n,.sy (.b 0 1),.sy .n,.pk] [(112,.bool (bif !(Z.mhas B a5)then true else decide (ae.2.1=15)))] 1 ?_;refine Uk h ?_ ?_<;>intro E h
   ·refine Va 1 2 [(2,.pointer none),(3,A.i 80)] 1 ?_;obtain rfl:=Vf h;exact Ue [] (.inl ⟨rfl,⟨rfl,rfl,(Vp 80)⟩⟩)
   refine J0 3 ?_;have⟨aw,h⟩:=Vs h;refine Uf 2 [Z.R64 (W+1)] [(93,A.i (W+1))] aw (Ju ?_);exact Vn ⟨_,Qn _,⟨(W+1),rfl,rfl,(Jw aw),h⟩⟩
  refine J0 3 ?_;have⟨ax,h⟩:=Vs h;refine Uf 2 [Z.R64 (N+1)] [(86,A.i (N+1))] ax (Ju ?_);exact Vn ⟨_,Qn _,⟨(N+1),rfl,rfl,(Jw ax),h⟩⟩
 refine Vy 5 [3] [] [.n,.b 0 0] [(116,.pointer (some ⟨L,0,none⟩)),(117,.agg #[.slice A0_ k.length c1_])] ?_;refine Ul 4236 A.ti 3 ?_;refine Vx 4237 [] h (o_aV none A0_ L b2 0 b3 c1_ (B,[],[]) k) (.m 6 (.m 4 (.m 4236 (.m 5 (.s 0 .nil))))) ?_;rintro ay - h _ _ ⟨bg,bh,bi,bj,rfl,rfl⟩;refine J9 (J8 4237 6 [] ?_);refine J8 4238 4 [] ?_;refine J8 4239 4236 [] ?_;refine J8 4240 5 [] ?_;refine Vc 2 [(115,.bool (!ay.1))] 1 ?_;refine Uk h ?_ ?_<;>intro E h
 ·refine Va 1 2 [(2,.pointer none),(3,A.i 81)] 1 ?_;obtain rfl:=Vf h;exact Ue [] (.inl ⟨rfl,⟨rfl,rfl,(Vp 81)⟩⟩)
 refine Ub 1 1 [(121,.pointer (some ⟨L,0,none⟩))] ?_;refine Vx 4277 [] h (o_aI bh L bg bi bj ay.2) (.m 6 (.m 4 (.m 4236 (.m 5 .nil)))) ?_;rintro ag - h _ _ ⟨az,b0,b1,b4,rfl,rfl⟩;refine J9 (J8 4277 6 [] ?_);refine J8 4278 4 [] ?_;refine J8 4279 4236 [] ?_;refine J8 4280 5 [] ?_;refine Vc 2 [(120,.bool (!ag.1))] 1 ?_;refine Uk h ?_ ?_<;>intro E h
 ·refine Va 1 2 [(2,.pointer none),(3,A.i 80)] 1 ?_;obtain rfl:=Vf h;exact Ue [] (.inl ⟨rfl,⟨rfl,rfl,(Vp 80)⟩⟩)
 refine Vy 1 [3] [] [.n,.b 0 0] [(125,.pointer (some ⟨L,0,none⟩)),(126,.agg #[.slice A0_ k.length c1_])] ?_;refine Vx 4317 [] h (o_aP b0 A0_ L az b1 b4 c1_ ag.2 k) (.m 6 (.m 4 (.m 4236 (.m 5 (.s 0 .nil))))) ?_;rintro bk - h _ _ ⟨rfl,rfl⟩;refine J9 (J8 4317 6 [] ?_);refine J8 4318 4 [] ?_;refine J8 4319 4236 [] ?_;refine J8 4320 5 [] ?_;refine Vc 1 [(124,.bool bk)] 1 ?_;refine Uk h ?_ ?_<;>intro E h
 ·refine Va 1 2 [(2,.pointer none),(3,A.i 81)] 1 ?_;obtain rfl:=Vf h;exact Ue [] (.inl ⟨rfl,⟨rfl,rfl,(Vp 81)⟩⟩)
 refine Va 4 3 [(2,.pointer (some ⟨L,0,none⟩)),(3,A.i 0)] 1 ?_;obtain rfl:=Vf h;exact Ue [(0,6),(1,4),(2,4236),(3,5)] (.inr ⟨ag.2,rfl,⟨L,az,b0,b1,b4,rfl,rfl,J3⟩⟩)
def F.b5 (k:D36):Option Int:=(F.cG k).bind fun h=>A.om h.1 (some h.2) fun o=>(some h.2)
theorem o_bz(h:D36)(r:Int)(k:F.b5 h=some r):
    A.Ct Tryz.prog 43 [.agg #[.slice A0_ h.length c1_]] [(0,.sh (.slice T33) [.slice A0_ h.length c1_] h),(1,.el none 0 0 A.tabF),(2,.el none 1 0 A.tabA)] [] (fun v H'=>v=A.i r/\H'=[]/\A.h6 r):=by
 refine Jv Tryz.func43 rfl Tryz.ntmps43 rfl fun p u=>?_;rw[F.b5]at k;refine J0 1 ?_;refine J1 3 (cs:=[.slice A0_ h.length c1_]) fun y=>?_;refine J7 1 [] 2 ?_;refine J5 [3] [] [.b 0 0] [(6,.agg #[.slice A0_ h.length c1_])] (Vx 4 [] k (o_bx A0_ c1_ h) (.s 0 (.s 1 (.s 2 .nil))) ?_);rintro o - k _ _ (⟨hp12,rfl,rfl,hr4⟩|⟨z,hp12,B,E,I,J,L,rfl,rfl,hr11⟩)
 ·refine J9 ?_;rw[A.om_n hp12]at k
  refine J7 5 [(4,A.i o.2)] 2 ?_;refine Vc 2 [(2,A.i o.2)] 1 ?_;exact A.ke k (Vh ⟨rfl,rfl,hr4⟩)
 refine J9 ?_;rw[A.om_s hp12]at k
 refine J7 5 [(4,A.i o.2)] 2 ?_;refine Vc 2 [(2,A.i o.2)] 1 ?_;exact A.ke k (Vh ⟨rfl,rfl,hr11⟩)
def F.bH (h:(List Int)):Option (List Int):=A.gd ((List.length (α:=Int) []+List.length (α:=Int) h)*8<=140737488355328) (some ([]++h))
theorem o_aw(o:(List Int))(r:(List Int))(h:F.bH o=some r):
    A.Ct Tryz.prog 88 [.slice A0_ o.length c1_] [(0,.ln A.ti A0_ c1_ o)] [] (fun v H'=>∃(A0':Option Addr) (c1':Nat),v=.slice A0' r.length c1'/\H'=[(0,.own A.ti 3 A0' c1' r)]):=by
 refine Jv Tryz.func88 rfl Tryz.ntmps88 rfl fun y z=>?_;rw[F.bH]at h;refine J0 1 ?_;refine J7 1 [] 3 ?_;refine Vc 2 [(4,.bool A0_.isNone)] 1 ?_;refine A.AX.cnn rfl (fun p=>?_) (fun p=>?_)
 ·refine A.nilL 0 p fun p=>?_;subst p
  replace h:some []=some r:=by simpa[A.gd,A.ix] using h
  refine Va 1 1 [(2,.slice none 0 0)] 1 ?_;obtain rfl:=Vf h;refine Ul 2 A.ti 3 ?_;exact V7 [(0,2)] ⟨none,0,rfl,rfl⟩
 refine J0 3 ?_;refine A.AL.bs0 1 A.ti (fun B=>?_) Tryz.sizeOf3
 refine V9 1 [(6,.slice A0_ o.length c1_)] ?_;have⟨hl4,h⟩:=Vs h;refine Vt (k:=1) [] (A.rowL (k:=0) rfl) inf3 hl4 fun s u=>?_;refine Vc 1 [(2,.slice s (([]++o).length) u)] 1 ?_;obtain rfl:=Vf h;exact V7 [(0,1)] ⟨s,u,rfl,rfl⟩
def F.aE (h:(List D33)):Option (List D33):=A.gd ((List.length (α:=D33) []+List.length (α:=D33) h)*104<=140737488355328) (some ([]++h))
theorem o_w(o:(List D33))(r:(List D33))(h:F.aE o=some r):
    A.Ct Tryz.prog 87 [.slice A0_ o.length c1_] [(0,.ln T33 A0_ c1_ o)] [] (fun v H'=>∃(A0':Option Addr) (c1':Nat),v=.slice A0' r.length c1'/\H'=[(0,.own T33 34 A0' c1' r)]):=by
 refine Jv Tryz.func87 rfl Tryz.ntmps87 rfl fun y z=>?_;rw[F.aE]at h;refine J0 1 ?_;refine J7 1 [] 3 ?_;refine Vc 2 [(4,.bool A0_.isNone)] 1 ?_;refine A.AX.cnn rfl (fun p=>?_) (fun p=>?_)
 ·refine A.nilL 0 p fun p=>?_;subst p
  replace h:some []=some r:=by simpa[A.gd,A.ix] using h
  refine Va 1 1 [(2,.slice none 0 0)] 1 ?_;obtain rfl:=Vf h;refine Ul 2 T33 34 ?_;exact V7 [(0,2)] ⟨none,0,rfl,rfl⟩
 refine J0 3 ?_;refine A.AL.bs0 1 T33 (fun B=>?_) Tryz.sizeOf34
 refine V9 1 [(6,.slice A0_ o.length c1_)] ?_;have⟨hl4,h⟩:=Vs h;refine Vt (k:=1) [] (A.rowL (k:=0) rfl) inf34 hl4 fun s u=>?_;refine Vc 1 [(2,.slice s (([]++o).length) u)] 1 ?_;obtain rfl:=Vf h;exact V7 [(0,1)] ⟨s,u,rfl,rfl⟩
def F.b0 (p:(List D33)):Nat->(List D33)->Int->Option D36
 |0,_,_=>none
 |f+1,o,h=>if h<(p.length:Int)then((A.ix o h).bind fun s=>((F.bH s.2.2.1).bind fun u=>((A.ix o h).bind fun k=>(A.gd (Z.R64 (h+1)) ((F.b0 p f) (o.set h.toNat (k.1,k.2.1,u,k.2.2.2.1,k.2.2.2.2.1,k.2.2.2.2.2.1,k.2.2.2.2.2.2)) (h+1))))))else(some o)
def F.cH (k:D36):Option D36:=(F.aE k).bind fun h=>(F.b0 h A.FU h 0)
theorem o_bA(E:D36)(r:D36)(h:F.cH E=some r):
    A.Ct Tryz.prog 59 [.agg #[.slice A0_ E.length c1_]] [(0,.sh (.slice T33) [.slice A0_ E.length c1_] E)] [] (fun v H'=>∃(A0':Option Addr) (c1':Nat),v=.agg #[.slice A0' r.length c1']/\H'=[(0,.sh (.slice T33) [.slice A0' r.length c1'] r)]):=by
 refine Jv Tryz.func59 rfl Tryz.ntmps59 rfl fun w0 F0=>?_;rw[F.cH]at h;refine J0 1 ?_;refine J1 1 (cs:=[.slice A0_ E.length c1_]) fun g1=>?_;refine Jy 2 (cs:=l5p) Tryz.zeroValue37 fun g2=>?_;refine Vk 2 ?_;refine J5 [1] [] [.n,.b 0 0] [(5,.slice A0_ E.length c1_)] (Vx 3 [] h (o_w A0_ c1_ E) (.l 0 .nil) ?_);rintro k - h _ _ ⟨u,y,rfl,rfl⟩;refine J9 (V9 1 [(7,.pointer (some ⟨g1,0,none⟩))] (Vg 1 [] [.slice u k.length y] ?_));refine Vk 3 ?_;refine Vw [1] [] [.n,.b 0 0,.n,.n] [(10,A.i (k.length:Int)),(11,A.i 0)] 2 ?_;refine Vo [1,2,10] [1,2] (fun f nl nh=>∃(z:List D33)(p:Int),nl=[(11,A.i p)]/\nh=[(3,.own T33 34 u y z)]/\k.length=z.length/\A.h6 p/\F.b0 k f z p=some r) ⟨k,0,rfl,rfl,rfl,J3,h⟩ ?_;rintro L _ _ ⟨z,p,rfl,rfl,hn10,aa,h⟩;rcases L with _|L
 ·exact Vb h
 rw[F.b0]at h;refine Vl 1 1 [(12,.bool (decide (p<(k.length:Int))))] 2 h ?_ ?_<;>intro hb h
 ·refine Va 5 2 [(3,A.i p)] 1 ?_;refine Vj mixed 12 13 (A.mb 13 0) ?_;refine Vm Vd [] [1,2,3] [1] [] (A.mb 13 63) 7 [(0,.n),(2,.n),(3,.n),(5,.n),(1,.b 0 0),(4,.b 0 0)] [(16,A.i p),(19,A.i p),(15,.slice u k.length y),(18,.slice u k.length y)] (A.cst 18 (Ud (show k.length=z.length from hn10)) ?_);have⟨N,U,h⟩:=V6 h;refine A.AH.pko 3 131 U fun ab=>?_;intro W a1 ac a4;refine V0 Vd [1,2,3] l5o 6 (A.mb 13 127) rfl (fun a w hf hh=>A.r_ixo (t:=T33) U a4 hf) ?_;refine Vm Vd l5o l5o [] [131] (A.mb 13 511) 4 [(7,.n),(8,.e 0 2)] [(22,.slice W N.2.2.1.length a1)] (Jz 9 ?_);refine Vx 133 [] h (o_aw W a1 N.2.2.1) (.l 132 .nil) ?_;rintro I - h _ _ ⟨a5,a6,rfl,rfl⟩;refine J9 (J2 (A.mb 13 1023) l5o ?_);refine A.cst 15 (Ud (show k.length=z.length from hn10)) ?_;have⟨s,J,h⟩:=V6 h;refine A.AH.pko 3 173 J fun B=>?_;intro a7 a8 a9 a2;refine V0 Vd l5o l5j 10 (A.mb 13 2047) rfl (fun a w hf hh=>A.r_ixo (t:=T33) J a2 hf) ?_;refine Vm Vd l5j l5j [] [] (A.mb 13 4095) 1 [(11,.n)] [(25,.pointer (some ⟨a9,p.toNat*(T33).size+2,none⟩))] (Jz 12 ?_);refine U3 133 [] ?_;refine A.AL.setel 3 173 [131,173] (o:=2) (m:=1) (t:=T33) (new:=[.slice a5 I.length a6]) (es:=(A.rai s a7 a8)) (s.1,s.2.1,I,s.2.2.2.1,s.2.2.2.2.1,s.2.2.2.2.2.1,s.2.2.2.2.2.2) J a2 ⟨⟨rfl,B.1⟩,⟨rfl,B.2.1⟩,.inl ⟨133,rfl⟩,⟨⟨rfl,B.2.2.2.1.1⟩,⟨rfl,B.2.2.2.1.2.1⟩,⟨rfl,B.2.2.2.1.2.2⟩⟩,⟨rfl,B.2.2.2.2.1⟩,⟨rfl,B.2.2.2.2.2.1⟩,⟨rfl,B.2.2.2.2.2.2⟩⟩ ?_;refine Vv (A.mb 13 8191) ?_;refine J6 ?_;refine U1 2 ?_;have⟨a3,h⟩:=Vs h;refine Uf 2 [Z.R64 (p+1)] [(11,A.i (p+1))] a3 (Ju ?_);exact Vn ⟨_,Qn _,⟨(z.set p.toNat (s.1,s.2.1,I,s.2.2.2.1,s.2.2.2.2.1,s.2.2.2.2.2.1,s.2.2.2.2.2.2)),(p+1),rfl,rfl,(by rw[X0];exact hn10),(Jw a3),h⟩⟩
 refine Vy 3 [1] [] [.b 0 0] [(27,.agg #[.slice u k.length y])] ?_;refine Vg 2 [] [.slice u k.length y] ?_;refine V4 1 ?_;obtain rfl:=Vf h;refine U3 3 [] ?_;exact Ug [(0,3)] (.agg #[.slice u k.length y]) (fun a w hf hh=>Uo rfl (Ut hf rfl Tryz.isAgg37 Tryz.sizeOf37 (Vq hh 2) rfl)) (by rw[show k.length=z.length from hn10];exact⟨u,y,rfl,rfl⟩)
def F.cC (h:D33)(k:Int):Option Bool:=some (decide (h.1=k))
theorem o_bn(h:D33)(k:Int)(p:A.h6 h.1)(s:A.h6 h.2.1)(u:A.h6 h.2.2.2.1.1)(y:A.h6 h.2.2.2.1.2.1)(z:h.2.2.2.1.2.2.size<=maxLen)(B:h.2.2.2.2.1.size<=maxLen)(E:A.h6 h.2.2.2.2.2.1)(I:A.h6 h.2.2.2.2.2.2)(J:A.h6 k)(r:Bool)(o:F.cC h k=some r):
    A.Ct Tryz.prog 58 [(A.rao h A2_ c3_),.pointer (some ⟨g10_,0,none⟩)] [(0,.sh A.TI [.slice A2_ h.2.2.1.length c3_] h.2.2.1),(1,.el none g10_ 0 [A.i k])] [] (fun v H'=>v=.bool r/\H'=[]):=by
 refine Jv Tryz.func58 rfl Tryz.ntmps58 rfl fun L N=>?_;rw[F.cC]at o;refine J0 1 ?_;refine J1 2 (cs:=(A.rai h A2_ c3_)) fun U=>?_;refine J7 1 [] 2 ?_;refine Vw [2] [1] [.n,.b 0 0,.e 0 0,.n,.n] [(3,.bool (decide (h.1=k)))] 1 ?_;exact A.ke o (Vh ⟨rfl,rfl⟩)
def F.j (k:(List D33))(o:Int):Nat->Int->Option Int
 |0,_=>none
 |f+1,h=>if h<(k.length:Int)then((A.ix k h).bind fun p=>((F.cC p o).bind fun s=>(if s=true then(some h)else(A.gd (Z.R64 (h+1)) ((F.j k o f) (h+1))))))else(some (-1))
def F.y (h:(List D33))(k:Int):Option Int:=F.j h k A.FU 0
theorem o_g(p:(List D33))(u:Int)(L:A.h6 u)(r:Int)(h:F.y p u=some r):
    A.Ct Tryz.prog 57 [.slice A0_ p.length c1_,.func (.func 58) #[] #[.pointer (some ⟨g2_,0,none⟩)]] [(0,.ln T33 A0_ c1_ p),(1,.el none g2_ 0 [A.i u])] [] (fun v H'=>v=A.i r/\H'=[]/\A.h6 r):=by
 refine Jv Tryz.func57 rfl Tryz.ntmps57 rfl fun w0 F0=>?_;rw[F.y]at h;refine J0 1 ?_;refine J7 1 [] 3 ?_;refine Vc 3 [(7,A.i (p.length:Int)),(8,A.i 0)] 2 ?_;refine Vo [0,1,7] [0,1] (fun f N U=>∃(k:Int),N=[(8,A.i k)]/\U=[]/\A.h6 k/\F.j p u f k=some r) ⟨0,rfl,rfl,J3,h⟩ ?_;rintro z _ _ ⟨k,rfl,rfl,W,h⟩;rcases z with _|z
 ·exact Vb h
 rw[F.j]at h;refine Vl 1 1 [(9,.bool (decide (k<(p.length:Int))))] 2 h ?_ ?_<;>intro hb h
 ·refine J0 5 ?_;refine J7 2 [(5,A.i k)] 2 ?_;refine V9 3 [(11,.func (.func 58) #[] #[.pointer (some ⟨g2_,0,none⟩)]),(12,.slice A0_ p.length c1_),(13,A.i k)] ?_;have⟨B,a1,h⟩:=V6 h;refine Vz 0 86 a1 fun o=>?_;intro E I b9 a4;refine J5 [] [86] [.e 0 0] [(15,(A.rao B E I))] ?_;have⟨a2,a3,h⟩:=V6 h;refine V3 88 [] (first:=[]) (cap:=[.pointer (some ⟨g2_,0,none⟩)]) cf58 (o_bn E I g2_ B u o.1 o.2.1 o.2.2.2.1.1 o.2.2.2.1.2.1 o.2.2.2.1.2.2 o.2.2.2.2.1 o.2.2.2.2.2.1 o.2.2.2.2.2.2 L a2 a3) (.s 87 (.s 1 .nil)) ?_;rintro _ _ ⟨rfl,rfl⟩;refine J9 (V4 1 ?_);refine Uk h ?_ ?_<;>intro hb h
  ·refine Va 1 2 [(4,A.i k)] 1 ?_;exact A.ke h (Vh ⟨rfl,rfl,W⟩)
  refine J0 3 ?_;have⟨J,h⟩:=Vs h;refine Uf 2 [Z.R64 (k+1)] [(8,A.i (k+1))] J (Ju ?_);exact Vn ⟨_,Qn _,⟨(k+1),rfl,rfl,(Jw J),h⟩⟩
 refine Va 3 1 [(4,A.i (-1))] 1 ?_;exact A.ke h (Vh ⟨rfl,rfl,(Vp (-1))⟩)
def F.bn (k:D36)(o:Int):Option (D33×Bool):=(F.y k o).bind fun h=>(if h<0 then(some ((0,0,[],(0,0,ByteArray.mk #[]),ByteArray.mk #[],0,0),false))else(A.gd (Z.R64 (h+1)) (A.gd (0<=h/\h<=h+1/\(h+1).toNat<=k.length) ((F.cH (List.drop h.toNat (List.take ((h+1).toNat) k))).bind fun p=>((A.ix p 0).bind fun s=>(some (s,true)))))))
theorem o_ak(o:D36)(y:Int)(U:A.h6 y)(r:D33×Bool)(h:F.bn o y=some r):
    A.Ct Tryz.prog 44 [.agg #[.slice A0_ o.length c1_],A.i y] [(0,.sh (.slice T33) [.slice A0_ o.length c1_] o)] [] (fun v H'=>∃(A0':Option Addr) (c1':Nat),v=.tuple #[.agg #[A.i r.1.1,A.i r.1.2.1,.slice A0' r.1.2.2.1.length c1',A.i r.1.2.2.2.1.1,A.i r.1.2.2.2.1.2.1,.string r.1.2.2.2.1.2.2,.string r.1.2.2.2.2.1,A.i r.1.2.2.2.2.2.1,A.i r.1.2.2.2.2.2.2],.bool r.2]/\H'=[(0,.sh A.TI [.slice A0' r.1.2.2.1.length c1'] r.1.2.2.1)]/\A.h6 r.1.1/\A.h6 r.1.2.1/\A.h6 r.1.2.2.2.1.1/\A.h6 r.1.2.2.2.1.2.1/\r.1.2.2.2.1.2.2.size<=maxLen/\r.1.2.2.2.2.1.size<=maxLen/\A.h6 r.1.2.2.2.2.2.1/\A.h6 r.1.2.2.2.2.2.2):=by
 refine Jv Tryz.func44 rfl Tryz.ntmps44 rfl fun w0 F0=>?_;rw[F.bn]at h;refine J0 1 ?_;refine J1 1 (cs:=[.slice A0_ o.length c1_]) fun g1=>?_;refine J1 2 (cs:=[A.i y]) fun J=>?_;refine Jy 3 (cs:=l5a) Tryz.zeroValue34 fun g3=>?_;refine J7 1 [] 2 ?_;refine J5 [1] [] [.n,.b 0 0,.n] [(8,.slice A0_ o.length c1_),(9,.func (.func 58) #[] #[.pointer (some ⟨J,0,none⟩)])] (Vx 4 [] h (o_g A0_ c1_ J o y U) (.l 0 (.b 2 .nil)) ?_);rintro k - h _ _ ⟨rfl,rfl,hr6⟩;refine J9 (J7 1 [(6,A.i k)] 3 ?_);refine Vc 2 [(12,.bool (decide (k<0)))] 1 ?_;refine Uv h ?_ ?_<;>intro hb h
 ·refine Ub 1 1 [(13,.agg #[A.i 0,A.i 0,.slice none 0 0,A.i 0,A.i 0,.string (ByteArray.mk #[]),.string (ByteArray.mk #[]),A.i 0,A.i 0])] ?_;refine Vg 3 [] [A.i 0,A.i 0,.slice none 0 0,A.i 0,A.i 0,.string (ByteArray.mk #[]),.string (ByteArray.mk #[]),A.i 0,A.i 0] ?_;refine Vc 1 [(5,.bool false)] 1 ?_;obtain rfl:=Vf h;refine A.snil 44 A.ti ?_;exact Ug [(0,44)] (.tuple #[.agg #[A.i 0,A.i 0,.slice none 0 0,A.i 0,A.i 0,.string (ByteArray.mk #[]),.string (ByteArray.mk #[]),A.i 0,A.i 0],.bool false]) (fun a w hf hh=>U2 rfl (Ut hf rfl Tryz.isAgg34 Tryz.sizeOf34 (Vq hh 3) rfl) (Ux hf rfl)) (⟨none,0,rfl,rfl,J3,J3,J3,J3,(Uu (ByteArray.mk #[]) rfl),(Uu (ByteArray.mk #[]) rfl),J3,J3⟩)
 refine J0 3 ?_;have⟨W,h⟩:=Vs h;refine A.q [1] [] [.n,.b 0 0,.n,.n,.n] [Z.R64 (k+1)] [(15,.slice A0_ o.length c1_),(16,A.i k),(18,A.i (k+1))] W ?_;have⟨z,h⟩:=Vs h;refine A.AL.cut 0 45 (u:=k.toNat) (v:=(k+1).toNat) (Xk z.1).symm (Xk (Int.le_trans z.1 z.2.1)).symm (Int.toNat_le_toNat z.2.1) z.2.2 fun L N=>?_;refine V9 1 [(20,.agg #[.slice L ((List.drop k.toNat (List.take ((k+1).toNat) o)).length) N])] (Vx 46 [] h (o_bA L N (List.drop k.toNat (List.take ((k+1).toNat) o))) (.s 45 .nil) ?_);rintro a2 - h _ _ ⟨a3,a4,rfl,rfl⟩;refine J9 (V9 1 [(22,.slice a3 a2.length a4)] ?_);have⟨I,a5,h⟩:=V6 h;refine Vr 46 86 a5 fun p=>?_;intro B E a6 a7;refine J5 [] [86] [.e 0 0] [(24,(A.rao I B E))] (Vg 3 [] (A.rai I B E) ?_);refine Vc 1 [(5,.bool true)] 1 ?_;obtain rfl:=Vf h;exact Ug [(0,87)] (.tuple #[(A.rao I B E),.bool true]) (fun a w hf hh=>U2 rfl (Ut hf rfl Tryz.isAgg34 Tryz.sizeOf34 (Vq hh 3) rfl) (Ux hf rfl)) (⟨B,E,rfl,rfl,p.1,p.2.1,p.2.2.2.1.1,p.2.2.2.1.2.1,p.2.2.2.1.2.2,p.2.2.2.2.1,p.2.2.2.2.2.1,p.2.2.2.2.2.2⟩)
def F.bC (h:Bool):Option Int:=if h=true then(some 50)else(some 0)
def F.bE (h:D27):Option Int:=if(64:Int)<(h.2.size:Int)then(F.bC true)else((F.a7 h.2).bind fun k=>(F.bC (!k)))
theorem o_au (k:D27)(E:A.h6 k.1)(u:k.2.size<=maxLen)(r:Int)(h:F.bE k=some r):
    A.Ct Tryz.prog 45 [(A.rar k)] [(0,.el none 0 0 A.tabF),(1,.el none 1 0 A.tabA)] [] (fun v H'=>v=A.i r/\H'=[]/\A.h6 r):=by
 refine Jv Tryz.func45 rfl Tryz.ntmps45 rfl fun I J=>?_;rw[F.bE]at h;refine J0 1 ?_;refine J1 2 (cs:=(A.ral k)) fun L=>?_;refine Vc 1 [] 2 ?_;refine J4 [] [0,1] (fun y z=>∃(o:Bool),y=[(12,.bool o)]/\z=[]/\F.bC o=some r) ?_ ?_
 ·refine Vy 0 [2] [] [.n,.b 0 1,.n,.n,.n] [(7,.bool (decide ((64:Int)<(k.2.size:Int))))] ?_;refine Up (j:=7) rfl h ?_ ?_<;>intro B h
  ·refine J5 [] [] [.off,.off,.off,.off,.n] [(12,.bool true)] (Ju ?_);exact Vn ⟨true,rfl,rfl,h⟩
  refine J5 [2] [] [.on .n,.on (.b 0 1)] [(9,.string k.2)] (Vu (dj:=7) rfl rfl ?_);refine Vx 3 [] h (o_q k.2 u) (.s 0 (.s 1 .nil)) ?_;rintro p - h _ _ ⟨rfl,rfl⟩;refine J9 (J5 [] [] [.on .n,.n] [(12,.bool (!p))] (Ju ?_));exact Vn ⟨(!p),rfl,rfl,h⟩
 rintro _ _ ⟨o,rfl,rfl,h⟩;rw[F.bC]at h;refine Uk h ?_ ?_<;>intro B h
 ·refine Va 1 1 [(2,A.i 50)] 1 ?_;exact A.ke h (Vh ⟨rfl,rfl,(Vp 50)⟩)
 refine Va 3 1 [(2,A.i 0)] 1 ?_;exact A.ke h (Vh ⟨rfl,rfl,J3⟩)
end Go.Proofs.YtlbdgahbamalcaaGreatDoor
end
section
namespace Go.A
open Go.RowKit Go.Z
section
variable {P:Program}{kt et tt st ty:TypeId}{κ:Type}[DecidableEq κ]{enc:κ->Value}{w:World}{b:Nat}{t:Ty}{e:TypeId}{F G:Nat->Prop}{As:List (Option Addr×Nat)}{m:List (κ×List t.den)}
def agt {α:Type}(As:List (Option Addr×Nat))(m:List (κ×α))(k:κ):Option Addr×Nat:=
 match loc k (m.map Prod.fst)with
 |some i=>As.getD i (none,0)
 |none=>(none,0)
theorem Mr.look (K:Ky P kt enc)(ht:P.underlying tt=some (.map kt et))(hz0: ∀w,(zeroValue et).run P w=.ok (.slice none 0 0) w)(hm:Mr enc t e w F b As m)(k:κ):
  (Instr.lookup tt (.map (some b)) (enc k) false).run P w=.ok (.slice (agt As m k).1 (mget [] m k).length (agt As m k).2) w/\Own t e 0 w F (agt As m k).1 (agt As m k).2 (mget [] m k)/\∀x,x∈obl (agt As m k).1->x∈rbl As:=by
 obtain⟨es,⟨arr,clock,hb,h1,hlt,hnd⟩,hl,hA,hN,hsz,he⟩:=hm
 have hk:=Mr.keys h1 hl hA he
 have hfind:=Qak K k w arr _ hk
 have hget:(getObj b).run P w=.ok (.map arr.toArray clock) w:=by simp[getObj,Sem.run,hb]
 unfold agt
 cases hloc:loc k (m.map Prod.fst)with
 |none=>
  rw[hloc]at hfind
  have hg:mget [] m k=[]:=mget_none ((Qgo m k).1 hloc)
  rw[hg]
  refine⟨?_,Own.nil t e 0 w F,fun x hx=>by cases hx⟩
  simp only[Instr.lookup,Sem.run_bind,run_underlying ht,Result.andThen_ok,hget,Sem.run_pure,K.check,hfind,Yj,hz0]
  rfl
 |some i=>
  rw[hloc]at hfind
  have hmi:=Qbv hloc []
  have hil:=(Qb.1 hmi).1
  have hAi:As[i]?=some As[i]:=Qh (by omega)
  obtain⟨h2,h3⟩:=he i _ _ hmi hAi
  have hd:As.getD i (none,0)=As[i]:=by rw[Yd,hAi];rfl
  simp only[hd]
  rw[<-h1,Qs]at h2
  cases hai:arr[i]? with
  |none=>rw[hai]at h2;cases h2
  |some e1=>
   rw[hai]at h2
   injection h2 with h2;injection h2 with _ h2
   refine⟨?_,h3,fun x hx=>Qat hAi hx⟩
   simp only[Instr.lookup,Sem.run_bind,run_underlying ht,Result.andThen_ok,hget,Sem.run_pure,K.check,hfind,Qa,hai,Q7,h2]
   rfl
theorem run_mapUpd {arr:List MapEntry}{clock:Nat}{ks:List κ}(K:Ky P kt enc)(ht:P.underlying tt=some (.map kt et))(hb:w.heap[b]?=some (.map arr.toArray clock))(hk:arr.map (·.key)=ks.map enc)(hlt: ∀e,e∈arr->e.born<clock)(hnd:(arr.map (·.born)).Nodup)(k:κ)(v:Value):
  ∃(arr2:List MapEntry) (clock2:Nat),(Instr.mapUpdate tt (.map (some b)) (enc k) v).run P w=.ok () (w.putObj b (.map arr2.toArray clock2))/\(∀e,e∈arr2->e.born<clock2)/\(arr2.map (·.born)).Nodup/\
   ((∃i,loc k ks=some i/\arr2=arr.modify i fun e=>{e with key:=enc k,val:=v})\/(loc k ks=none/\arr2=arr++[{key:=enc k,val:=v,born:=clock}])):=by
 have hfind:=Qak K k w arr ks hk
 have hget:(getObj b).run P w=.ok (.map arr.toArray clock) w:=by simp[getObj,Sem.run,hb]
 cases hloc:loc k ks with
 |none=>
  rw[hloc]at hfind
  refine⟨arr++[{key:=enc k,val:=v,born:=clock}],clock+1,?_,?_,?_,.inr ⟨rfl,rfl⟩⟩
  ·simp only[Instr.mapUpdate,Sem.run_bind,run_underlying ht,Result.andThen_ok,hget,K.check,hfind,Yj,MapC.set hb,List.push_toArray]
  ·intro e he
   rcases Q0.1 he with he|he
   ·have:=hlt e he;omega
   ·simp at he;subst he;simp
  ·rw[W5,Wz]
   refine⟨hnd,by simp,fun x hx y hy=>?_⟩
   simp at hy;subst hy
   obtain⟨e,he,rfl⟩:=Wx.1 hx
   have:=hlt e he;omega
 |some i=>
  rw[hloc]at hfind
  have hks:i<ks.length/\ks[i]?=some k:=by
   have: ∀(ks:List κ) (i:Nat),loc k ks=some i->i<ks.length/\ks[i]?=some k:=by
    intro ks
    induction ks with
    |nil=>intro i h;cases h
    |cons a r ih=>
     intro i h
     unfold loc at h
     split at h
     ·rename_i e;injection h with h;subst h;subst e;exact⟨by simp,rfl⟩
     ·cases hr:loc k r with
      |none=>rw[hr]at h;cases h
      |some j=>rw[hr]at h;injection h with h;subst h;have:=ih j hr;exact⟨by simp;omega,by simpa using this.2⟩
   exact this ks i hloc
  have hlen:arr.length=ks.length:=by have:=Qv List.length hk;simpa using this
  obtain⟨e,he⟩: ∃e,arr[i]?=some e:=⟨_,Qh (by omega)⟩
  have hek:e.key=enc k:=by
   have h6:(arr.map (·.key))[i]?=some e.key:=by rw[Qs,he];rfl
   rw[hk,Qs,hks.2]at h6
   simpa using h6.symm
  have hstay:(Instr.keyThatStays (enc k) (enc k)).run P w=.ok (enc k) w:=by simp[Instr.keyThatStays,K.bits]
  refine⟨arr.modify i fun e=>{e with key:=enc k,val:=v},clock,?_,?_,?_,.inl ⟨i,rfl,rfl⟩⟩
  ·simp only[Instr.mapUpdate,Sem.run_bind,run_underlying ht,Result.andThen_ok,hget,K.check,hfind,Qa,he,Q7,W9,Y2,hek,hstay,MapC.set hb,List.modify_toArray]
  ·intro e' he'
   obtain⟨j,hj⟩:=Wr.1 he'
   rw[Wa]at hj
   cases ha:arr[j]? with
   |none=>rw[ha]at hj;simp at hj
   |some e0=>
    rw[ha]at hj
    have hb0:=hlt e0 (Qt ha)
    simp only[Xf,Q7,Qc]at hj
    subst hj
    split<;>exact hb0
  ·have:(arr.modify i fun e=>{e with key:=enc k,val:=v}).map (·.born)=arr.map (·.born):=by
    refine Wp fun j=>?_
    simp only[Qs,Wa]
    cases arr[j]? with
    |none=>rfl
    |some e0=>simp only[Xf,Q7,Qc];split<;>rfl
   rw[this];exact hnd
theorem Mr.appU {i:TypeInfo}{z:Value}{bytes:Nat}(K:Ky P kt enc)(ht:P.underlying tt=some (.map kt et))(hz0: ∀w,(zeroValue et).run P w=.ok (.slice none 0 0) w)(hst:P.underlying st=some (.slice e))(hi:P.info? e=some i)(hz:i.zero=some z)(hsize:i.size=t.size)(hby:i.bytes=bytes)(hzs:z.cells.size=t.size)(hbp:0<bytes)
  (hm:Mr enc t e w F b As m) (hF: ∀x,F x->x∉b::rbl As) (hFl: ∀x,F x->x<w.heap.size) {A2:Option Addr} {c2:Nat} {ys:List t.den} (hr:Row t w F G A2 c2 ys) (k:κ) (h63:((mget [] m k).length+ys.length)*bytes<=140737488355328):
  ∃A' c' w2 w3,(Builtin.append_ #[st,st] ty #[.slice (agt As m k).1 (mget [] m k).length (agt As m k).2,.slice A2 ys.length c2]).run P w=.ok (.slice A' ((mget [] m k).length+ys.length) c') w2/\
   (Instr.mapUpdate tt (.map (some b)) (enc k) (.slice A' ((mget [] m k).length+ys.length) c')).run P w2=.ok () w3/\Ch (rbl As) w w2/\Ch (b::rbl As) w w3/\∃As',Mr enc t e w3 F b As' (mins m k (mget [] m k++ys))/\∀x,x∈rbl As'->x∈rbl As\/(w.heap.size<=x/\x<w3.heap.size):=by
 obtain⟨_,hO,hOb⟩:=hm.look K ht hz0 k
 obtain⟨es,⟨arr,clock,hb,h1,hlt,hnd⟩,hl,hA,hN,hsz,he⟩:=hm
 have hblt:=(Qp.1 hb).1
 rw[Wv]at hN
 have hk:=Mr.keys h1 hl hA he
 have hlen:arr.length=m.length:=by rw[<-hl,<-h1,Wb]
 obtain⟨A,hAe⟩: ∃A,A=(agt As m k).1:=⟨_,rfl⟩
 obtain⟨c,hce⟩: ∃c,c=(agt As m k).2:=⟨_,rfl⟩
 rw[<-hAe]at hO hOb ⊢
 rw[<-hce]at hO ⊢
 obtain⟨A',c',w2,happ,hO2,hc2,hnew⟩:=run_appendR (P:=P) (ty:=ty) hst hi hz hsize hby hzs hO hr h63 hbp (fun x hx hxA=>hF x hx (Qf _ (hOb x hxA))) (Xl _)
 have hbA:b∉obl A:=fun hx=>hN.1 (hOb b hx)
 have hb2:w2.heap[b]?=some (.map arr.toArray clock):=(hc2.block b hblt hbA).trans hb
 have hsz2:w.heap.size<=w2.heap.size:=hc2.size
 have hlt2: ∀x,x∈obl A'->x<w2.heap.size:=fun x hx=>(hO2.lt x hx).2
 have hnew': ∀x,x∈obl A'->x∈obl A\/x∉rbl As:=fun x hx=>by
  rcases hnew x hx with h2|h2
  ·exact .inl h2
  ·exact .inr fun h3=>by have:=hsz x h3;omega
 obtain⟨arr2,clock2,hstore,hborn,hnd2,hcase⟩:=run_mapUpd (P:=P) K ht hb2 hk hlt hnd k (.slice A' ((mget [] m k).length+ys.length) c')
 have hc3:=Ch.putObj w2 b (.map arr2.toArray clock2)
 have hall:Ch (b::rbl As) w (w2.putObj b (.map arr2.toArray clock2)):=
  Ch.then (U:=b::rbl As) hc2 hc3 (fun x hx=>.inl (Qf _ (hOb x hx))) (fun x hx=>.inl (by rw[Qm]at hx;subst hx;exact Qg ..))
 refine⟨A',c',w2,_,happ,hstore,hc2.mono (fun x hx=>.inl (hOb x hx)),hall,?_⟩
 obtain⟨v,hv⟩: ∃v,v=Value.slice A' ((mget [] m k).length+ys.length) c':=⟨_,rfl⟩
 rw[<-hv]at hcase
 have hb3:(w2.putObj b (.map arr2.toArray clock2)).heap[b]?=some (.map arr2.toArray clock2):=World.putObj_heap_same (Qq hblt hsz2)
 have hO3:Own t e 0 (w2.putObj b (.map arr2.toArray clock2)) F A' c' (mget [] m k++ys):=Own.to hO2 hc3 (fun x hx _ _=>by
   rw[Qm];rintro rfl
   rcases hnew x hx with h2|h2
   ·exact hbA h2
   ·omega) fun x hx _=>⟨by rw[Qm];rintro rfl;exact hF x hx (Qg ..),hx⟩
 have hOj: ∀(j:Nat) (p:κ×List t.den) (a:Option Addr×Nat),m[j]?=some p->As[j]?=some a->(∀x,x∈obl a.1->x∉obl A)->Own t e 0 (w2.putObj b (.map arr2.toArray clock2)) F a.1 a.2 p.2:=fun j p a hp ha hdis=>by
  have h2:=(he j p a hp ha).2
  have h4:Own t e 0 w2 F a.1 a.2 p.2:=Own.to h2 hc2 (fun x hx _ _=>hdis x hx) fun x hx _=>⟨fun hxA=>hF x hx (Qf _ (hOb x hxA)),hx⟩
  exact Own.to h4 hc3 (fun x hx _ _=>by rw[Qm];rintro rfl;exact hN.1 (Qat ha hx)) fun x hx _=>⟨by rw[Qm];rintro rfl;exact hF x hx (Qg ..),hx⟩
 have hsz3:(w2.putObj b (.map arr2.toArray clock2)).heap.size=w2.heap.size:=by simp
 have hbA':b∉obl A':=fun hx=>by
  rcases hnew b hx with h2|h2
  ·exact hbA h2
  ·omega
 have hnew2: ∀x,x∈obl A'->x∈rbl As\/(w.heap.size<=x/\x<(w2.putObj b (.map arr2.toArray clock2)).heap.size):=fun x hx=>by
  rcases hnew x hx with h2|h2
  ·exact .inl (hOb x h2)
  ·exact .inr ⟨by omega,by rw[hsz3];exact hlt2 x hx⟩
 rcases hcase with⟨i1,hloc,rfl⟩|⟨hloc,rfl⟩
 ·have hmi:=Qbv hloc []
  have hil:=(Qb.1 hmi).1
  obtain⟨e1,hi1⟩: ∃e1,arr[i1]?=some e1:=⟨_,Qh (by omega)⟩
  have hAi:As[i1]?=some (A,c):=by
   have h2:As[i1]?=some As[i1]:=Qh (by omega)
   rw[h2,hAe,hce];unfold agt;rw[hloc];simp only[Yd,h2];rfl
  refine⟨As.set i1 (A',c'),⟨_,⟨_,_,hb3,rfl,hborn,hnd2⟩,?_,?_,?_,?_,?_⟩,?_⟩
  ·rw[Qag,hloc];simp[hlen]
  ·rw[Qag,hloc];simp[hA]
  ·rw[Wv]
   refine⟨fun hx=>?_,Qct hN.2 hAi (Qcv A') hnew'⟩
   rcases Qch hAi b hx with h2|h2
   ·exact hN.1 h2
   ·exact hbA' h2
  ·intro x hx
   rw[hsz3]
   rcases Qch hAi x hx with h2|h2
   ·exact Qq (hsz x h2) hsz2
   ·exact hlt2 x h2
  ·intro j p a hp ha
   rw[Qag,hloc]at hp
   simp only[Wa]at hp
   rw[List.getElem?_set]at ha
   have hil:=(Qb.1 hAi).1
   by_cases hij:i1=j
   ·subst hij
    rw[Qbv hloc []]at hp
    simp only[X6,hil]at ha
    injection ha with ha;subst ha
    simp only[X6,Xf,Q7,Qc]at hp
    subst hp
    refine⟨?_,hO3⟩
    rw[Qs,Wa,hi1]
    simp[hv]
   ·simp only[hij,Wu]at ha hp
    simp only[Xf,id_map']at hp
    have hp':m[j]?=some p:=by cases hmj:m[j]?<;>rw[hmj]at hp<;>simp at hp ⊢;exact hp
    refine⟨?_,hOj j p a hp' ha (Qgu hN.2 ha hAi (Ne.symm hij))⟩
    have h2:=(he j p a hp' ha).1
    rw[<-h1,Qs]at h2
    rw[Qs,Wa]
    simp only[hij,Wu]
    cases harj:arr[j]? with
    |none=>rw[harj]at h2;cases h2
    |some e0=>rw[harj]at h2;simpa using h2
  ·intro x hx
   rcases Qch hAi x hx with h2|h2
   ·exact .inl h2
   ·exact hnew2 x h2
 ·have hA0:obl A=[]:=by rw[hAe];unfold agt;rw[hloc];rfl
  have hdis: ∀x,x∈obl A'->x∉rbl As:=fun x hx hx2=>by
   rcases hnew x hx with h2|h2
   ·rw[hA0]at h2;cases h2
   ·have:=hsz x hx2;omega
  have hrbl:rbl (As++[(A',c')])=rbl As++obl A':=by simp[rbl]
  refine⟨As++[(A',c')],⟨_,⟨_,_,hb3,rfl,hborn,hnd2⟩,?_,?_,?_,?_,?_⟩,?_⟩
  ·rw[Qag,hloc];simp[hlen]
  ·rw[Qag,hloc];simp[hA]
  ·rw[hrbl,Wv,Q0,Wz]
   exact⟨fun h2=>h2.elim hN.1 hbA',hN.2,Qcv A',fun x hx y hy e=>hdis y hy (e▸hx)⟩
  ·intro x hx
   rw[hsz3]
   rw[hrbl,Q0]at hx
   rcases hx with h2|h2
   ·exact Qq (hsz x h2) hsz2
   ·exact hlt2 x h2
  ·intro j p a hp ha
   rw[Qag,hloc]at hp
   rcases Nat.lt_trichotomy j m.length with h2|h2|h2
   ·rw[Q2 h2]at hp
    rw[Q2 (by omega)]at ha
    refine⟨?_,hOj j p a hp ha fun x hx hx2=>by rw[hA0]at hx2;cases hx2⟩
    have h3:=(he j p a hp ha).1
    rw[<-h1,Qs]at h3
    rw[Qs,Q2 (by omega)]
    exact h3
   ·subst h2
    rw[We (Qo _)]at hp
    rw[We (by omega)]at ha
    simp[hA]at hp ha
    subst hp;subst ha
    refine⟨?_,hO3⟩
    rw[Qs,We (by omega)]
    simp[hlen,hv]
   ·rw[Q9 (by simp;omega)]at hp;cases hp
  ·intro x hx
   rw[hrbl,Q0]at hx
   rcases hx with h2|h2
   ·exact .inl h2
   ·exact hnew2 x h2
end
section
variable {r:Option Nat}{P:Program}{ops:Array Oper}{Q:Exit->Act->World->Prop}{C:Cx}{l:List (Nat×Value)}{H Hq:List (Nat×Res)}{f m0:Nat}{li:List Bool}
theorem r_lkM {κ:Type}[DecidableEq κ]{enc:κ->Value}{kt et tt e T:TypeId}{t:Ty}{b:Nat}{As:List (Option Addr×Nat)}{m:List (κ×List t.den)}{a:Act}{w:World}{d:Option Tmp}{x y:Operand}{pos:String}{af:Array Edge}(k:Nat)(K:Ky P kt enc)(key:κ)(hz0: ∀w,(zeroValue et).run P w=.ok (.slice none 0 0) w)(hf:Fr a C.n C.ds l)(hh:Hp C H w)
  (hk1:hk H k=some (.mr κ enc t e b As m):=by rfl) (hx:ev l x=some (.map (some b)):=by rfl) (hy:ev l y=some (enc key):=by rfl) (ht:P.underlying tt=some (.map kt et):=by rfl):
  (execOp a.eval ⟨d,.lookup tt x y false,T,pos,af,none⟩).run P w=.ok (.value (.slice (agt As m key).1 (mget [] m key).length (agt As m key).2)) w:=by
 have hM:Mr enc t e w (Fh C H) b As m:=hh.hold k _ hk1
 simp only[execOp,Sem.run_bind,hf.eval hx,hf.eval hy,(hM.look K ht hz0 key).1,Result.andThen_ok,Sem.run_pure]
theorem AL.lkM {κ:Type}[DecidableEq κ]{enc:κ->Value}{kt et tt e T:TypeId}{t:Ty}{b d:Nat}{As:List (Option Addr×Nat)}{m:List (κ×List t.den)}{rest:List Oper}{x y:Operand}{pos:String}{af:Array Edge}(k:Nat)(K:Ky P kt enc)(key:κ)(hz0: ∀w,(zeroValue et).run P w=.ok (.slice none 0 0) w)
  (h:AL r P ops Q rest C ((d,.slice (agt As m key).1 (mget [] m key).length (agt As m key).2)::l) H)
  (hk1:hk H k=some (.mr κ enc t e b As m):=by rfl) (hx:ev l x=some (.map (some b)):=by rfl) (hy:ev l y=some (enc key):=by rfl) (ht:P.underlying tt=some (.map kt et):=by rfl) (hd:Nat.ble (d+1) C.n=true:=by rfl):
  AL r P ops Q (⟨some d,.lookup tt x y false,T,pos,af,none⟩::rest) C l H:=fun a w hf hh=>
 Z.val hf hd (r_lkM k K key hz0 hf hh hk1 hx hy ht) fun a' hf'=>h a' w hf' hh
theorem AH.mapp {κ:Type}[DecidableEq κ]{enc:κ->Value}{kt et tt st e:TypeId}{t:Ty}{b d n2:Nat}{As:List (Option Addr×Nat)}{m:List (κ×List t.den)}{mx kx y y0:Operand}{i0:TypeInfo}{z:Value}{bytes sz:Nat}{A2:Option Addr}{c2:Nat}{ys:List t.den}
  {T1 T2:TypeId} {p1 p2:String} {f1 f2:Array Edge} (k ky:Nat) (js gs:List Nat) (i j:Nat) (li':List Bool) (K:Ky P kt enc) (key:κ) (hz0: ∀w,(zeroValue et).run P w=.ok (.slice none 0 0) w)
  (hinf:P.info? e=some i0/\i0.zero=some z/\i0.size=sz/\i0.bytes=bytes/\z.cells.size=sz) (h63:((mget [] m key).length+ys.length)*bytes<=140737488355328)
  (h: ∀As' v,AH r P ops Q Hq m0 f li' C ((d,v)::l) ((k,.mr κ enc t e b As' (mins m key (mget [] m key++ys)))::ded js H))
  (hi:ops[i]?=some ⟨some d,.call {callee:=.builtin .append,args:=#[y0,y],argTypes:=#[st,st]},T1,p1,f1,none⟩:=by rfl) (hj:ops[j]?=some ⟨none,.mapUpdate tt mx kx (.tmp d),T2,p2,f2,none⟩:=by rfl)
  (hk1:hk H k=some (.mr κ enc t e b As m):=by rfl) (hk2:hk H ky=some (.own t e A2 c2 ys):=by rfl) (hne:Nat.beq k ky=false:=by rfl) (hy0:ev l y0=some (.slice (agt As m key).1 (mget [] m key).length (agt As m key).2):=by rfl) (hyy:ev l y=some (.slice A2 n2 c2):=by rfl) (hn2:n2=ys.length:=by rfl)
  (hx: ∀v,ev ((d,v)::l) mx=some (.map (some b)):=by exact fun _=>rfl) (hy: ∀v,ev ((d,v)::l) kx=some (enc key):=by exact fun _=>rfl) (hsz:sz=t.size:=by rfl) (hbp:Nat.ble 1 bytes=true:=by rfl)
  (ht:P.underlying tt=some (.map kt et):=by rfl) (hst:P.underlying st=some (.slice e):=by rfl) (hd:Nat.ble (d+1) C.n=true:=by rfl)
  (hr1:Region.ready .any ops li.toArray=[i]:=by kernel_rfl) (hr2:Region.ready .any ops (li.toArray.setIfInBounds i true)=[j]:=by kernel_rfl) (hl:((li.toArray.setIfInBounds i true).setIfInBounds j true).toList=li':=by kernel_rfl) (hg2:gn ops ((li.toArray.setIfInBounds i true).setIfInBounds j true) m0=true:=by kernel_rfl) (eg:kpH ((k,.dead)::drp k H) gs gs=Hq:=by kernel_rfl) (hj1:hng [k] js H=true:=by kernel_rfl):
  AH r P ops Q Hq m0 (f+2) li C l H:=fun a w hf hh=>by
 subst hn2;subst hsz
 obtain⟨hi0,hz,hsize,hby,hzs⟩:=hinf
 have hne:k≠ky:=fun e=>by rw[e,Y3]at hne;cases hne
 have hM:Mr enc t e w (Fh C H) b As m:=hh.hold k _ hk1
 have hM2:Mr enc t e w (fun x=>Fh C H x/\x<w.heap.size) b As m:=by
  obtain⟨es,c1,c2,c3,c4,c5,c6⟩:=hM
  refine⟨es,c1,c2,c3,c4,c5,fun i p a hp ha=>?_⟩
  obtain⟨c7,cells,hr,o1,o2⟩:=c6 i p a hp ha
  exact⟨c7,cells,hr,o1,fun i x hi=>Qac t (o2 i x hi)⟩
 obtain⟨G,hR,hG⟩:=rowO hk2 w hh
 have hR2:Row t w (fun x=>Fh C H x/\x<w.heap.size) G A2 c2 ys:=by
  obtain⟨r1,r2,cs,r3,r4,r5⟩:=hR
  exact⟨r1,r2,cs,r3,r4,fun i x hi=>Qac t (r5 i x hi)⟩
 have hbk: ∀x,x∈b::rbl As->Bk H k x:=fun x hx=>⟨_,hk1,hx⟩
 obtain⟨A',c',w2,w3,e2,e3,hch2,hch,As',hM3,hnew⟩:=hM2.appU (ty:=T1) K ht hz0 hst hi0 hz hsize hby hzs (Qi hbp) (fun x hx hxb=>hx.1.1 k (hbk x hxb)) (fun x hx=>hx.2) hR2 key h63
 refine⟨fun h0=>(by rw[hr1]at h0;cases h0),fun q hq=>?_⟩
 rw[hr1,Qm]at hq
 subst hq
 refine Hem.list hi (Z.valw (w':=w2) (v:=.slice A' ((mget [] m key).length+ys.length) c') hf hd ?_ fun a1 hf1=>Z.done ⟨fun _=>Hp.cov (hh.upd (k:=k) (r':=.dead) hch2 (fun x hx=>hbk x (Qf _ hx)) (fun x hx=>(by cases hx)) (fun j hj=>(by cases hj)) fun F B _ _ _ _ _=>trivial) gs eg,fun h0=>(by rw[hr2]at h0;cases h0),fun q2 hq2=>?_⟩)
 ·simp only[execOp,resolve,invoke,builtin,Sem.run_bind,Sem.run_pure,Result.andThen_ok,Xi,Qz,Jh,hf.eval hy0,hf.eval hyy,e2]
 rw[hr2,Qm]at hq2
 subst hq2
 refine Hem.list hj (Z.skipw (w':=w3) hf1 ?_ fun a2 hf2=>Z.done ⟨fun h0=>(by rw[hg2]at h0;cases h0),?_⟩)
 ·simp only[execOp,Sem.run_bind,hf1.eval (hx _),hf1.eval (hy _),hf1.eval (x:=.tmp d) (lk_hd _ _ _),e3,Result.andThen_ok,Sem.run_pure]
 have h2:=h As' _ a2 w3 hf2 (Hp.dd (hh.upd hch hbk (fun x hx=>?_) (fun j hj=>by cases hj) fun F B hF _ _ _ _=>hM3.asF fun x hx _=>hF x hx.1 hx.2) hj1)
 ·rw[<-hl,Q4]at h2
  exact h2
 ·simp only[Res.bl]at hx
  rcases Qk.1 hx with rfl|hx
  ·exact .inl (hbk _ (Qg ..))
  ·rcases hnew x hx with h2|h2
   ·exact .inl (hbk _ (Qf _ h2))
   ·exact .inr h2
end
def UP (r:Option Nat)(P:Program)(c:Code)(Q:Exit->Act->World->Prop)(a:Act)(w:World):Prop:=∀(b:Frame) (k:List Item) (cs:List Frame),b.roundOf=(FW r).round->(FW r).fn b.fn->(FW r).room (cs.length+1+0)->
 ∃e a' w',Q e a' w'/\ArrivesIn (Machine.fenced P (FW r)) P (lone (b.atR a (.code c:: .inLoop c::k)) cs w) b k cs e a' w'
section
variable {r:Option Nat}{P:Program}{Q:Exit->Act->World->Prop}{Y:Exit->Act->World->Prop}{K:List Kx}{C:Cx}{l:List (Nat×Value)}{H:List (Nat×Res)}{c x:Code}{a:Act}{w:World}
theorem UP.loop (h:UP r P c Q a w):WP r P (.loop c) Q a w:=fun b k cs hro hb hr=>by
 obtain⟨e,a',w',q,harr⟩:=h b k cs hro hb hr
 exact⟨e,a',w',q,.of_steps (.one (fenced_calm hb hr rfl) stepR_loop) harr⟩
theorem UP.step (h:WP r P c (fun e a' w'=>(e=.normal/\UP r P c Q a' w')\/(e≠ .normal/\Q e a' w')) a w):UP r P c Q a w:=fun b k cs hro hb hr=>by
 obtain⟨e,a₁,w₁,hq,harr⟩:=h b (.inLoop c::k) cs hro hb hr
 cases e with
 |normal=>
  have hq:=hq.resolve_right (fun h=>h.1 rfl)
  obtain⟨e₂,a₂,w₂,hq₂,harr₂⟩:=hq.2 b k cs hro hb hr
  exact⟨e₂,a₂,w₂,hq₂,.of_steps (StepsIn.trans harr (.one (fenced_calm hb hr rfl) stepR_inLoop)) harr₂⟩
 |exit id=>exact⟨_,a₁,w₁,(hq.resolve_left (by simp)).2,.pass (x:=.inLoop c) rfl (fun _ _=>.inl (by simp)) harr⟩
 |goto l=>exact⟨_,a₁,w₁,(hq.resolve_left (by simp)).2,.pass (x:=.inLoop c) rfl (fun _ _=>.inl (by simp)) harr⟩
 |ret=>exact⟨_,a₁,w₁,(hq.resolve_left (by simp)).2,.pass (x:=.inLoop c) rfl (fun _ _=>.inl (by simp)) harr⟩
 |panic ch=>exact⟨_,a₁,w₁,(hq.resolve_left (by simp)).2,.pass (x:=.inLoop c) rfl (fun _ _=>.inl (by simp)) harr⟩
 |outgrown=>exact⟨_,a₁,w₁,(hq.resolve_left (by simp)).2,.pass (x:=.inLoop c) rfl (fun _ _=>.inl (by simp)) harr⟩
theorem unr (h:WP r P x (kont r P Y (.m (UP r P x (kont r P Y K))::K)) a w):UP r P x (kont r P Y K) a w:=UP.step (wpIn_mono h fun e a w hq=>by
 cases e with
 |normal=>exact .inl ⟨rfl,hq⟩
 |_=>exact .inr ⟨by simp,hq⟩)
theorem AX.unr (h:AX r P Y (.m (UP r P x (kont r P Y K))::K) x C l H):AX r P Y K (.loop x) C l H:=fun a w hf hh=>UP.loop (A.unr (h a w hf hh))
end
def Mo (b:Nat)(es:List (Value×Value)):Res:=.gn [b] (fun w _=>MapC w b es) fun h hc hb _=>h.ch hc (hb b (Qm.2 rfl))
section
variable {P:Program}{kt et tt:TypeId}{κ:Type}[DecidableEq κ]{enc:κ->Value}{w:World}{b:Nat}
theorem run_lko0 {z:Value}(K:Ky P kt enc)(ht:P.underlying tt=some (.map kt et))(hz: ∀w,(zeroValue et).run P w=.ok z w)(hm:MapC w b [])(k:κ):
  (Instr.lookup tt (.map (some b)) (enc k) false).run P w=.ok z w:=by
 obtain⟨arr,clock,hb,h1,hlt,hnd⟩:=hm
 obtain rfl:arr=[]:=List.map_eq_nil_iff.1 h1
 have hfind:=Qak K k w [] [] rfl
 have hget:(getObj b).run P w=.ok (.map #[] clock) w:=by simp[getObj,Sem.run,hb]
 simp only[Instr.lookup,Sem.run_bind,run_underlying ht,Result.andThen_ok,hget,Sem.run_pure,K.check,hfind,loc,Yj,hz]
 rfl
theorem run_lko1 {z v:Value}(K:Ky P kt enc)(ht:P.underlying tt=some (.map kt et))(hz: ∀w,(zeroValue et).run P w=.ok z w)(k:κ)(hm:MapC w b [(enc k,v)]):
  (Instr.lookup tt (.map (some b)) (enc k) false).run P w=.ok v w:=by
 obtain⟨arr,clock,hb,h1,hlt,hnd⟩:=hm
 obtain⟨e,rfl,he⟩: ∃e,arr=[e]/\(e.key,e.val)=(enc k,v):=by
  cases arr with
  |nil=>cases h1
  |cons e t=>
   cases t with
   |nil=>injection h1 with h1 _;exact⟨e,rfl,h1⟩
   |cons e2 t=>injection h1 with _ h1;cases h1
 injection he with he1 he2
 have hfind:=Qak K k w [e] [k] (by simp[he1])
 have hget:(getObj b).run P w=.ok (.map [e].toArray clock) w:=by simp[getObj,Sem.run,hb]
 have hl:loc k [k]=some 0:=by simp[loc]
 simp only[Instr.lookup,Sem.run_bind,run_underlying ht,Result.andThen_ok,hget,Sem.run_pure,K.check,hfind,hl,Qa,Wl,Q7,he2]
 rfl
end
section
variable {r:Option Nat}{P:Program}{ops:Array Oper}{Q:Exit->Act->World->Prop}{C:Cx}{l:List (Nat×Value)}{H:List (Nat×Res)}{rest:List Oper}{T tt kt et:TypeId}{pos:String}{af:Array Edge}{d b:Nat}{κ:Type}[DecidableEq κ]{enc:κ->Value}
theorem AL.mko (k:Nat)(h: ∀b,AL r P ops Q rest C ((d,.map (some b))::l) ((k,Mo b [])::H))(hd:Nat.ble (d+1) C.n=true:=by rfl)(hn:hk H k=none:=by kernel_rfl):
  AL r P ops Q (⟨some d,.makeMap tt none,T,pos,af,none⟩::rest) C l H:=fun a w hf hh=>by
 refine Z.valw (w':=w.alloc (.map #[] 0)) (v:=.map (some w.heap.size)) hf hd (by simp[execOp,Instr.makeMap]) fun a' hf'=>h _ a' _ hf' (hh.new hn (Ch.alloc w _) (fun x hx=>?_) (fun j hj=>by cases hj) fun F B _ _ _=>?_)
 ·simp[Mo,Res.bl]at hx;subst hx;simp
 ·exact⟨[],0,heap_alloc_new w _,rfl,by simp,by simp⟩
theorem r_lko0 {a:Act}{w:World}{d:Option Tmp}{x y:Operand}{z:Value}(k:Nat)(K:Ky P kt enc)(key:κ)(hz: ∀w,(zeroValue et).run P w=.ok z w)(hf:Fr a C.n C.ds l)(hh:Hp C H w)
  (hk1:hk H k=some (Mo b []):=by rfl) (hx:ev l x=some (.map (some b)):=by rfl) (hy:ev l y=some (enc key):=by rfl) (ht:P.underlying tt=some (.map kt et):=by rfl):
  (execOp a.eval ⟨d,.lookup tt x y false,T,pos,af,none⟩).run P w=.ok (.value z) w:=by
 have hM:MapC w b []:=hh.hold k _ hk1
 simp only[execOp,Sem.run_bind,hf.eval hx,hf.eval hy,run_lko0 K ht hz hM key,Result.andThen_ok,Sem.run_pure]
theorem r_lko1 {a:Act}{w:World}{d:Option Tmp}{x y:Operand}{z v:Value}{key:κ}(k:Nat)(K:Ky P kt enc)(key':κ)(hz: ∀w,(zeroValue et).run P w=.ok z w)(he:key'=key)(hf:Fr a C.n C.ds l)(hh:Hp C H w)
  (hk1:hk H k=some (Mo b [(enc key,v)]):=by rfl) (hx:ev l x=some (.map (some b)):=by rfl) (hy:ev l y=some (enc key'):=by rfl) (ht:P.underlying tt=some (.map kt et):=by rfl):
  (execOp a.eval ⟨d,.lookup tt x y false,T,pos,af,none⟩).run P w=.ok (.value v) w:=by
 subst he
 have hM:MapC w b [(enc key',v)]:=hh.hold k _ hk1
 simp only[execOp,Sem.run_bind,hf.eval hx,hf.eval hy,run_lko1 K ht hz key' hM,Result.andThen_ok,Sem.run_pure]
theorem AL.lko0 {x y:Operand}{z:Value}(k:Nat)(K:Ky P kt enc)(key:κ)(hz: ∀w,(zeroValue et).run P w=.ok z w)(h:AL r P ops Q rest C ((d,z)::l) H)
  (hk1:hk H k=some (Mo b []):=by rfl) (hx:ev l x=some (.map (some b)):=by rfl) (hy:ev l y=some (enc key):=by rfl) (ht:P.underlying tt=some (.map kt et):=by rfl) (hd:Nat.ble (d+1) C.n=true:=by rfl):
  AL r P ops Q (⟨some d,.lookup tt x y false,T,pos,af,none⟩::rest) C l H:=fun a w hf hh=>
 Z.val hf hd (r_lko0 k K key hz hf hh hk1 hx hy ht) fun a' hf'=>h a' w hf' hh
theorem AL.lko1 {x y:Operand}{z v:Value}{key:κ}(k:Nat)(K:Ky P kt enc)(key':κ)(hz: ∀w,(zeroValue et).run P w=.ok z w)(he:key'=key)(h:AL r P ops Q rest C ((d,v)::l) H)
  (hk1:hk H k=some (Mo b [(enc key,v)]):=by rfl) (hx:ev l x=some (.map (some b)):=by rfl) (hy:ev l y=some (enc key'):=by rfl) (ht:P.underlying tt=some (.map kt et):=by rfl) (hd:Nat.ble (d+1) C.n=true:=by rfl):
  AL r P ops Q (⟨some d,.lookup tt x y false,T,pos,af,none⟩::rest) C l H:=fun a w hf hh=>
 Z.val hf hd (r_lko1 k K key' hz he hf hh hk1 hx hy ht) fun a' hf'=>h a' w hf' hh
theorem r_eqm {a:Act}{w:World}{d:Option Tmp}{x y:Operand}{t ty kt et:TypeId}{m:Option Nat}(hf:Fr a C.n C.ds l)(hx:ev l x=some (.map m):=by rfl)(hy:ev l y=some (.map none):=by rfl)(ht:P.underlying t=some (.map kt et):=by rfl):
  (execOp a.eval ⟨d,.binOp .eql t x y ty,T,pos,af,none⟩).run P w=.ok (.value (.bool m.isNone)) w:=by
 have h2:(Op.equal t (.map m) (.map none)).run P w=.ok m.isNone w:=by
  have h: ∀n,(Op.equalIn (n+1) t (.map m) (.map none)).run P w=.ok m.isNone w:=fun n=>by cases m<;>simp[Op.equalIn,run_underlying ht]
  exact h 9999
 have hx':=hf.eval hx
 have hy':=hf.eval hy
 simp[execOp,hx',hy',eqGuard,binOp,h2]
theorem AL.muo {x y v:Operand}{vv:Value}(k:Nat)(js:List Nat)(K:Ky P kt enc)(key:κ)(h:AL r P ops Q rest C l ((k,Mo b [(enc key,vv)])::ded js H))
  (hk1:hk H k=some (Mo b []):=by rfl) (hx:ev l x=some (.map (some b)):=by rfl) (hy:ev l y=some (enc key):=by rfl) (hv:ev l v=some vv:=by rfl) (ht:P.underlying tt=some (.map kt et):=by rfl) (hj:hng [k] js H=true:=by kernel_rfl):
  AL r P ops Q (⟨none,.mapUpdate tt x y v,T,pos,af,none⟩::rest) C l H:=fun a w hf hh=>by
 obtain⟨arr,clock,hb,h1,hlt,hnd⟩:MapC w b []:=hh.hold k _ hk1
 obtain rfl:arr=[]:=List.map_eq_nil_iff.1 h1
 have hbl:=(Qp.1 hb).1
 obtain⟨arr2,clock2,hstore,hborn,hnd2,hcase⟩:=run_mapUpd (P:=P) (ks:=[]) K ht hb rfl hlt hnd key vv
 have h2:arr2.map (fun e=>(e.key,e.val))=[(enc key,vv)]:=by
  rcases hcase with⟨i,hi,_⟩|⟨_,rfl⟩
  ·cases hi
  ·rfl
 refine Z.skipw (w':=w.putObj b (.map arr2.toArray clock2)) hf ?_ fun a' hf'=>h a' _ hf' (Hp.dd (hh.upd (Ch.putObj w b _) (fun x hx=>?_) (fun x hx=>?_) (fun j hj=>by cases hj) fun F B _ _ _ _ _=>?_) hj)
 ·simp only[execOp,Sem.run_bind,hf.eval hx,hf.eval hy,hf.eval hv,hstore,Result.andThen_ok,Sem.run_pure]
 ·exact⟨_,hk1,hx⟩
 ·exact .inl ⟨_,hk1,hx⟩
 ·exact⟨arr2,clock2,World.putObj_heap_same hbl,h2,hborn,hnd2⟩
end
section
variable {r:Option Nat}{P:Program}{Q:Exit->Act->World->Prop}{Y:Exit->Act->World->Prop}{K:List Kx}{C:Cx}{l:List (Nat×Value)}{H:List (Nat×Res)}{c x:Code}{a:Act}{w:World}
theorem UP.ind {I:Nat->Act->World->Prop}(h: ∀f a w,I f a w->WP r P c (fun e a' w'=>(e=.normal/\∃f',f'<f/\I f' a' w')\/(e≠ .normal/\Q e a' w')) a w)(m:Nat): ∀a w,I m a w->UP r P c Q a w:=by
 induction m using Nat.strongRecOn with
 |ind m ih=>exact fun a w hi=>UP.step (wpIn_mono (h m a w hi) fun e a' w' hq=>hq.imp (fun⟨h1,f',h2,h3⟩=>⟨h1,ih f' h2 a' w' h3⟩) id)
theorem AE.lpg (ks hs gs:List Nat)(J:Nat->List (Nat×Value)->List (Nat×Res)->Prop)(m:Nat)(nl:List (Nat×Value))(nh:List (Nat×Res)){x:Code}(hJ:J m nl nh)
  (h: ∀f nl nh,J f nl nh->AX r P Y (.m (St C l H ks hs fun nl nh=>∃f',f'<f/\J f' nl nh)::K) x C (cat nl (kp l ks)) (hcat nh (kpH H hs hs)))
  (h1:kp l ((cat nl (kp l ks)).map (·.1))=cat nl (kp l ks):=by kernel_rfl) (h2:kpH H gs gs=hcat nh (kpH H hs hs):=by kernel_rfl):AE r P Y (.m (UP r P x (kont r P Y K))::K) .normal C l H:=fun a w hf hh=>
 UP.ind (I:=fun f a w=>St C l H ks hs (J f) a w) (fun f a w ⟨nl,nh,hJ,hf,hh⟩=>wpIn_mono (h f nl nh hJ a w hf hh) fun e a w hq=>by
  cases e with
  |normal=>obtain⟨nl,nh,⟨f',hlt,hJ'⟩,hf',hh'⟩:=hq;exact .inl ⟨rfl,f',hlt,nl,nh,hJ',hf',hh'⟩
  |_=>exact .inr ⟨by simp,hq⟩) m a w ⟨nl,nh,hJ,Fr.cov hf h1,hh.cov gs h2⟩
end
theorem hd_at {α:Type}{xs:List α}{y:α}(h:xs[0]?=some y): ∃t,xs=y::t:=by
 cases xs with
 |nil=>cases h
 |cons a t=>injection h with h;exact⟨t,by rw[<-h]⟩
end Go.A
end
section
namespace Go.Proofs.YtlbdgahbamalcaaGreatDoor
open Go.RowKit
variable(A0_ A1_ A2_ A4_ A5_ A6_ A7_ A8_ A13_:Option Addr)(b0_ g0_ b1_ c1_ b2_ c2_ g2_ b3_ c3_ b4_ g4_ b5_ c5_ b6_ c6_ g6_ c7_ c8_ c9_ g10_ c14_:Nat)
def F.aq (k:(List D39))(o:D39)(p:List (Int×(List D27))):Nat->Int->Option ((Option (Int×(List (Int×(List D27)))))×Int)
 |0,_=>none
 |f+1,h=>if h<(k.length:Int)then((A.ix k h).bind fun s=>((F.bE s.2.2).bind fun u=>(if u≠0 then none else(A.gd (Z.R64 (h+1)) ((F.aq k o p f) (h+1))))))else(some (some (o.2.1,p),0))
def F.ai (u:D36)(o:(List D39))(k:D39):Nat->(List (Int×(List D27)))->Int->Option ((Option (Int×(List (Int×(List D27)))))×Int)
 |0,_,_=>none
 |f+1,p,s=>if s<(o.length:Int)then((A.ix o s).bind fun h=>((F.bn u h.1).bind fun y=>(if(bif bif bif !y.2 then true else decide (y.1.2.1≠1)then true else decide (h.2.1<0)then true else decide ((1073741824:Int)<h.2.1))=true then none else(A.gd (h.2.1=k.2.1) (A.gd (h.2.1=k.2.1) (A.gd (h.2.1=k.2.1) (A.gd (((Z.mget ([]:List D27) p h.1).length+List.length (α:=D27) [h.2.2])*24<=140737488355328) (A.gd (Z.R64 (s+1)) ((F.ai u o k f) (Z.mins p h.1 (Z.mget ([]:List D27) p h.1++[h.2.2])) (s+1))))))))))else(F.aq o k p A.FU 0)
def F.bI (k:(List D39)):Nat->Int->Option ((Option (Int×(List (Int×(List D27)))))×Int)
 |0,_=>none
 |f+1,h=>if h<(k.length:Int)then((A.ix k h).bind fun o=>((F.bE o.2.2).bind fun p=>(if p≠0 then none else(A.gd (Z.R64 (h+1)) ((F.bI k f) (h+1))))))else(some (none,0))
def F.cl (o:D36)(k:(List D39)):Option ((Option (Int×(List (Int×(List D27)))))×Int):=(F.b5 o).bind fun s=>(if s≠0 then none else(if(4096:Int)<(k.length:Int)then none else(if(0:Int)<(k.length:Int)then((A.ix k 0).bind fun h=>((F.bn o h.1).bind fun p=>(if(bif bif bif !p.2 then true else decide (p.1.2.1≠1)then true else decide (h.2.1<0)then true else decide ((1073741824:Int)<h.2.1))=true then none else(A.gd (h.2.1=h.2.1) (A.gd (h.2.1=h.2.1) (A.gd (((Z.mget ([]:List D27) [] h.1).length+List.length (α:=D27) [h.2.2])*24<=140737488355328) (A.gd (Z.R64 (0+1)) (F.ai o k h A.FU (Z.mins [] h.1 (Z.mget ([]:List D27) [] h.1++[h.2.2])) (0+1)))))))))else(F.bI k A.FU 0))))
theorem o_bJ(B:D36)(u:(List D39))(r:(Option (Int×(List (Int×(List D27)))))×Int)(h:F.cl B u=some r):
    A.Ct Tryz.prog 26 [.agg #[.slice A0_ B.length c1_],.slice A2_ u.length c3_] [(0,.sh (.slice T33) [.slice A0_ B.length c1_] B),(1,.ln T39 A2_ c3_ u),(2,.el none 0 0 A.tabF),(3,.el none 1 0 A.tabA)] [] (fun v H'=>(r.1=none/\∃(b0':Nat),v=.tuple #[.map (some b0'),A.i r.2]/\H'=[(0,A.Mo b0' [])]/\A.h6 r.2)\/(∃(p0:(Int×(List (Int×(List D27))))),r.1=some p0/\∃(b0':Nat) (b1':Nat),v=.tuple #[.map (some b0'),A.i r.2]/\H'=[(0,A.Mo b0' [(A.i p0.1,.map (some b1'))]),(1,.mp Int (fun i:Int=>A.i i) (Z.Ty.slice T27) false b1' p0.2)]/\A.h6 r.2)):=by
 refine Jv Tryz.func26 rfl Tryz.ntmps26 rfl fun w0 F0=>?_;rw[F.cl]at h;refine J0 1 ?_;refine J1 4 (cs:=[.slice A0_ B.length c1_]) fun g1=>?_;refine J7 2 [] 3 ?_;refine J5 [4] [] [.b 0 0] [(15,.agg #[.slice A0_ B.length c1_])] (Vx 5 [] h (o_bz A0_ c1_ B) (.s 0 (.s 2 (.s 3 .nil))) ?_);rintro r2 - h _ _ ⟨rfl,rfl,hr4⟩;refine J9 (J7 1 [(6,A.i r2)] 2 ?_);refine Vc 2 [(18,.bool (decide (r2≠0)))] 1 ?_;refine Uv h (fun y h=>Vb h) (fun y h=>?_);refine Va 4 3 [(22,.bool (decide ((4096:Int)<(u.length:Int))))] 1 ?_;refine Uv h (fun y h=>Vb h) (fun y h=>?_);refine J0 3 ?_;refine A.AL.mko 45 fun z=>?_;refine J7 1 [(7,.map (some z))] 3 ?_;refine Vc 3 [(24,.slice A2_ u.length c3_),(25,A.i (u.length:Int)),(26,A.i 0)] 2 ?_;refine A.AX.unr ?_;refine Vl 1 1 [(27,.bool (decide ((0:Int)<(u.length:Int))))] 2 h ?_ ?_<;>intro y h
 ·refine J0 5 ?_;have⟨k,bb,h⟩:=V6 h;refine Vz 1 46 bb fun a9=>?_;intro b9 bm;refine J5 [] [46] [.e 0 0] [(29,(A.ran k))] (Jy 47 (cs:=l5f) Tryz.zeroValue40 fun bp=>?_);refine Vg 47 [] (A.rah k) ?_;refine Vk 2 ?_;refine J5 [4,47] [] [.b 0 0,.n,.b 1 0] [(31,.agg #[.slice A0_ B.length c1_]),(33,A.i k.1)] (Vx 48 [] h (o_ak A0_ c1_ B k.1 a9.1) (.s 0 .nil) ?_);rintro a6 - h _ _ ⟨ah,aj,rfl,rfl,hr14,hr15,hr18,hr19,hr20,hr21,hr22,hr23⟩;refine J9 (V9 3 [(35,(A.rao a6.1 ah aj)),(36,.bool a6.2)] (Jy 88 (cs:=l5a) Tryz.zeroValue34 fun bq=>?_));refine Vg 88 [] (A.rai a6.1 ah aj) ?_;refine J7 1 [(11,.bool a6.2)] 3 ?_;refine Vw [88,47] [] [.n,.n,.n,.sy .n,.sy (.b 0 1),.sy .n,.pk,.n,.sy .n,.sy (.b 1 1),.sy .n,.pk,.n,.sy .n,.sy (.b 1 1),.sy .n,.pk] [(53,.bool (bif bif bif !a6.2 then true else decide (a6.1.2.1≠1)then true else decide (k.2.1<0)then true else decide ((1073741824:Int)<k.2.1)))] 1 ?_;refine Uk h (fun y h=>Vb h) (fun y h=>?_);refine Vy 4 [47] [] [.n,.n,.b 0 1] [(54,.map (some z)),(56,A.i k.2.1)] ?_;refine A.AL.lko0 45 ky2 k.2.1 Tryz.zeroValue84 ?_;refine Uy (v:=.bool true) rfl (fun a w hf hh=>A.r_eqm (m:=none) hf) ?_;refine V4 1 ?_;refine Ua rfl ?_;refine Vy 0 [47] [] [.n,.n,.b 0 1] [(59,.map (some z)),(61,A.i k.2.1)] ?_;refine A.AL.mkmr 89 Int (fun i:Int=>A.i i) T27 28 fun W=>?_;refine A.AL.muo 45 [] ky2 k.2.1 ?_;refine V4 1 ?_;refine Vj mixed 17 18 (A.mb 18 0) ?_;refine Vm Vd [] l5g [47] [] (A.mb 18 28151) 6 [(0,.n),(1,.n),(4,.n),(6,.n),(7,.n),(10,.n),(13,.n),(2,.b 0 1),(5,.b 0 0),(8,.b 0 1),(11,.b 0 0),(14,.b 0 2)] [(63,.map (some z)),(69,.map (some z)),(65,A.i k.2.1),(68,A.i k.1),(71,A.i k.2.1),(74,A.i k.1),(77,(A.rar k.2.2))] ?_;have⟨he26,h⟩:=Vs h;refine V0 Vd l5g l5g 3 (A.mb 18 28159) rfl (fun a w hf hh=>A.r_lko1 45 ky2 k.2.1 Tryz.zeroValue84 he26 hf hh) ?_;have⟨he27,h⟩:=Vs h;refine V0 Vd l5g l5g 9 (A.mb 18 28671) rfl (fun a w hf hh=>A.r_lko1 45 ky2 k.2.1 Tryz.zeroValue84 he27 hf hh) ?_;refine A.AH.two 12 15 ?_ ?_
  ·refine A.AL.lkM 89 ky3 k.1 Tryz.zeroValue22 ?_;refine J2 (A.mb 18 32767) l5g ?_;refine Jz 15 ?_;refine Ve 540 (ty:=T27) (cs:=(A.ral k.2.2)) [k.2.2] ⟨⟨⟨rfl,a9.2.2.1⟩,⟨rfl,a9.2.2.2⟩⟩,rfl⟩ (fun br=>?_) Tryz.zeroValue28 Tryz.sizeOf28
   refine J2 (A.mb 18 65535) l5g ?_;have⟨hl929,h⟩:=Vs h;refine A.AH.mapp (t:=T27) (ys:=[k.2.2]) 89 540 [] [0,1,2,3,4,45,46,47,48,88] 16 17 (A.mb 18 262143) ky3 k.1 Tryz.zeroValue22 inf28 hl929 (fun As930 bs=>?_);refine J6 ?_;refine U1 2 ?_;have⟨ak,h⟩:=Vs h;refine Uf 2 [Z.R64 (0+1)] [(26,A.i (0+1))] ak (Ju ?_);refine A.AE.lpg [1,2,7,24,25] [0,1,2,3,4,45] [89,0,1,2,3,4,45] (fun f J L=>∃(N:List (Int×(List D27)))(E:Int)(As1109:List (Option Addr×Nat)),J=[(26,A.i E)]/\L=[(89,.mr Int (fun i:Int=>A.i i) T27 28 W As1109 N)]/\A.h6 E/\F.ai B u k f N E=some r) A.FU [(26,A.i (0+1))] [(89,.mr Int (fun i:Int=>A.i i) T27 28 W As930 (Z.mins [] k.1 (Z.mget ([]:List D27) [] k.1++[k.2.2])))] ⟨(Z.mins [] k.1 (Z.mget ([]:List D27) [] k.1++[k.2.2])),(0+1),As930,rfl,rfl,(Jw ak),h⟩ ?_;rintro al _ _ ⟨N,E,As1109,rfl,rfl,bt,h⟩;rcases al with _|al
   ·exact Vb h
   rw[F.ai]at h;refine Vl 1 1 [(27,.bool (decide (E<(u.length:Int))))] 2 h ?_ ?_<;>intro y h
   ·refine J0 5 ?_;have⟨o,bc,h⟩:=V6 h;refine Vz 1 2048 bc fun aa=>?_;intro bu bw;refine J5 [] [2048] [.e 0 0] [(29,(A.ran o))] (Jy 2049 (cs:=l5f) Tryz.zeroValue40 fun bx=>?_);refine Vg 2049 [] (A.rah o) ?_;refine Vk 2 ?_;refine J5 [4,2049] [] [.b 0 0,.n,.b 1 0] [(31,.agg #[.slice A0_ B.length c1_]),(33,A.i o.1)] (Vx 2050 [] h (o_ak A0_ c1_ B o.1 aa.1) (.s 0 .nil) ?_);rintro a7 - h _ _ ⟨am,an,rfl,rfl,hr1122,hr1123,hr1126,hr1127,hr1128,hr1129,hr1130,hr1131⟩;refine J9 (V9 3 [(35,(A.rao a7.1 am an)),(36,.bool a7.2)] (Jy 2090 (cs:=l5a) Tryz.zeroValue34 fun bz=>?_));refine Vg 2090 [] (A.rai a7.1 am an) ?_;refine J7 1 [(11,.bool a7.2)] 3 ?_;refine Vw [2090,2049] [] [.n,.n,.n,.sy .n,.sy (.b 0 1),.sy .n,.pk,.n,.sy .n,.sy (.b 1 1),.sy .n,.pk,.n,.sy .n,.sy (.b 1 1),.sy .n,.pk] [(53,.bool (bif bif bif !a7.2 then true else decide (a7.1.2.1≠1)then true else decide (o.2.1<0)then true else decide ((1073741824:Int)<o.2.1)))] 1 ?_;refine Uk h (fun y h=>Vb h) (fun y h=>?_);refine Vy 4 [2049] [] [.n,.n,.b 0 1] [(54,.map (some z)),(56,A.i o.2.1)] ?_;have⟨he1133,h⟩:=Vs h;refine A.AL.lko1 45 ky2 o.2.1 Tryz.zeroValue84 he1133 ?_;refine Uy (v:=.bool false) rfl (fun a w hf hh=>A.r_eqm (m:=some W) hf) ?_;refine V4 1 ?_;refine V5 rfl ?_;refine Um 2 ?_;refine Vj mixed 17 18 (A.mb 18 0) ?_;refine Vm Vd [] l5c [2049] [] (A.mb 18 28151) 6 [(0,.n),(1,.n),(4,.n),(6,.n),(7,.n),(10,.n),(13,.n),(2,.b 0 1),(5,.b 0 0),(8,.b 0 1),(11,.b 0 0),(14,.b 0 2)] [(63,.map (some z)),(69,.map (some z)),(65,A.i o.2.1),(68,A.i o.1),(71,A.i o.2.1),(74,A.i o.1),(77,(A.rar o.2.2))] ?_;have⟨he1134,h⟩:=Vs h;refine V0 Vd l5c l5c 3 (A.mb 18 28159) rfl (fun a w hf hh=>A.r_lko1 45 ky2 o.2.1 Tryz.zeroValue84 he1134 hf hh) ?_;have⟨he1135,h⟩:=Vs h;refine V0 Vd l5c l5c 9 (A.mb 18 28671) rfl (fun a w hf hh=>A.r_lko1 45 ky2 o.2.1 Tryz.zeroValue84 he1135 hf hh) ?_;refine A.AH.two 12 15 ?_ ?_
    ·refine A.AL.lkM 89 ky3 o.1 Tryz.zeroValue22 ?_;refine J2 (A.mb 18 32767) l5c ?_;refine Jz 15 ?_;refine Ve 2541 (ty:=T27) (cs:=(A.ral o.2.2)) [o.2.2] ⟨⟨⟨rfl,aa.2.2.1⟩,⟨rfl,aa.2.2.2⟩⟩,rfl⟩ (fun ao=>?_) Tryz.zeroValue28 Tryz.sizeOf28
     refine J2 (A.mb 18 65535) l5c ?_;have⟨hl2037,h⟩:=Vs h;refine A.AH.mapp (t:=T27) (ys:=[o.2.2]) 89 2541 [] [0,1,2,3,4,45,2048,2049,2050,2090] 16 17 (A.mb 18 262143) ky3 o.1 Tryz.zeroValue22 inf28 hl2037 (fun As2038 c0=>?_);refine J6 ?_;refine U1 2 ?_;have⟨a2,h⟩:=Vs h;refine Uf 2 [Z.R64 (E+1)] [(26,A.i (E+1))] a2 (Ju ?_);exact Vn ⟨_,Qn _,⟨(Z.mins N o.1 (Z.mget ([]:List D27) N o.1++[o.2.2])),(E+1),As2038,rfl,rfl,(Jw a2),h⟩⟩
    refine Ve 2541 (ty:=T27) (cs:=(A.ral o.2.2)) [o.2.2] ⟨⟨⟨rfl,aa.2.2.1⟩,⟨rfl,aa.2.2.2⟩⟩,rfl⟩ (fun ao=>?_) Tryz.zeroValue28 Tryz.sizeOf28
    refine J2 (A.mb 18 61439) l5c ?_;refine Jz 12 ?_;refine A.AL.lkM 89 ky3 o.1 Tryz.zeroValue22 ?_;refine J2 (A.mb 18 65535) l5c ?_;have⟨hl1856,h⟩:=Vs h;refine A.AH.mapp (t:=T27) (ys:=[o.2.2]) 89 2541 [] [0,1,2,3,4,45,2048,2049,2050,2090] 16 17 (A.mb 18 262143) ky3 o.1 Tryz.zeroValue22 inf28 hl1856 (fun As1857 be=>?_);refine J6 ?_;refine U1 2 ?_;have⟨a2,h⟩:=Vs h;refine Uf 2 [Z.R64 (E+1)] [(26,A.i (E+1))] a2 (Ju ?_);exact Vn ⟨_,Qn _,⟨(Z.mins N o.1 (Z.mget ([]:List D27) N o.1++[o.2.2])),(E+1),As1857,rfl,rfl,(Jw a2),h⟩⟩
   refine Va 4 3 [(81,.slice A2_ u.length c3_),(82,A.i (u.length:Int)),(83,A.i 0)] 2 ?_;refine A.frzM 89 [] ?_;refine Vo [7,81,82] [1,2,3,45,89] (fun f J L=>∃(a3:Int),J=[(83,A.i a3)]/\L=[]/\A.h6 a3/\F.aq u k N f a3=some r) ⟨0,rfl,rfl,J3,h⟩ ?_;rintro ap _ _ ⟨a3,rfl,rfl,c1,h⟩;rcases ap with _|ap
   ·exact Vb h
   rw[F.aq]at h;refine Vl 1 1 [(84,.bool (decide (a3<(u.length:Int))))] 2 h ?_ ?_<;>intro y h
   ·refine J0 5 ?_;have⟨ad,bg,h⟩:=V6 h;refine Vz 1 2715 bg fun ar=>?_;intro c2 c3;refine J5 [] [2715] [.e 0 0] [(86,(A.ran ad))] (Jy 2716 (cs:=l5f) Tryz.zeroValue40 fun c4=>?_);refine Vg 2716 [] (A.rah ad) ?_;refine Vk 2 ?_;refine J5 [2716] [] [.n,.b 0 2] [(88,(A.rar ad.2.2))] (Vx 2717 [] h (o_au ad.2.2 ar.2.2.1 ar.2.2.2) (.s 2 (.s 3 .nil)) ?_);rintro au - h _ _ ⟨rfl,rfl,hr2228⟩;refine J9 (J7 1 [(14,A.i au)] 2 ?_);refine Vc 2 [(91,.bool (decide (au≠0)))] 1 ?_;refine Uv h (fun y h=>Vb h) (fun y h=>?_);refine J0 3 ?_;have⟨av,h⟩:=Vs h;refine Uf 2 [Z.R64 (a3+1)] [(83,A.i (a3+1))] av (Ju ?_);exact Vn ⟨_,Qn _,⟨(a3+1),rfl,rfl,(Jw av),h⟩⟩
   refine Va 3 3 [(4,.map (some z)),(5,A.i 0)] 1 ?_;obtain rfl:=Vf h;exact Ue [(0,45),(1,89)] (.inr ⟨(k.2.1,N),rfl,⟨z,W,rfl,rfl,J3⟩⟩)
  refine Ve 2541 (ty:=T27) (cs:=(A.ral k.2.2)) [k.2.2] ⟨⟨⟨rfl,a9.2.2.1⟩,⟨rfl,a9.2.2.2⟩⟩,rfl⟩ (fun ao=>?_) Tryz.zeroValue28 Tryz.sizeOf28
  refine J2 (A.mb 18 61439) l5g ?_;refine Jz 12 ?_;refine A.AL.lkM 89 ky3 k.1 Tryz.zeroValue22 ?_;refine J2 (A.mb 18 65535) l5g ?_;have⟨hl1856,h⟩:=Vs h;refine A.AH.mapp (t:=T27) (ys:=[k.2.2]) 89 2541 [] [0,1,2,3,4,45,46,47,48,88] 16 17 (A.mb 18 262143) ky3 k.1 Tryz.zeroValue22 inf28 hl1856 (fun As1857 be=>?_);refine J6 ?_;refine U1 2 ?_;have⟨a2,h⟩:=Vs h;refine Uf 2 [Z.R64 (0+1)] [(26,A.i (0+1))] a2 (Ju ?_);refine A.AE.lpg [1,2,7,24,25] [0,1,2,3,4,45] [89,0,1,2,3,4,45] (fun f J L=>∃(U:List (Int×(List D27)))(I:Int)(As2217:List (Option Addr×Nat)),J=[(26,A.i I)]/\L=[(89,.mr Int (fun i:Int=>A.i i) T27 28 W As2217 U)]/\A.h6 I/\F.ai B u k f U I=some r) A.FU [(26,A.i (0+1))] [(89,.mr Int (fun i:Int=>A.i i) T27 28 W As1857 (Z.mins [] k.1 (Z.mget ([]:List D27) [] k.1++[k.2.2])))] ⟨(Z.mins [] k.1 (Z.mget ([]:List D27) [] k.1++[k.2.2])),(0+1),As1857,rfl,rfl,(Jw a2),h⟩ ?_;rintro aw _ _ ⟨U,I,As2217,rfl,rfl,c5,h⟩;rcases aw with _|aw
  ·exact Vb h
  rw[F.ai]at h;refine Vl 1 1 [(27,.bool (decide (I<(u.length:Int))))] 2 h ?_ ?_<;>intro y h
  ·refine J0 5 ?_;have⟨p,bh,h⟩:=V6 h;refine Vz 1 4049 bh fun ab=>?_;intro c6 c7;refine J5 [] [4049] [.e 0 0] [(29,(A.ran p))] (Jy 4050 (cs:=l5f) Tryz.zeroValue40 fun c8=>?_);refine Vg 4050 [] (A.rah p) ?_;refine Vk 2 ?_;refine J5 [4,4050] [] [.b 0 0,.n,.b 1 0] [(31,.agg #[.slice A0_ B.length c1_]),(33,A.i p.1)] (Vx 4051 [] h (o_ak A0_ c1_ B p.1 ab.1) (.s 0 .nil) ?_);rintro a8 - h _ _ ⟨ax,ay,rfl,rfl,hr2230,hr2231,hr2234,hr2235,hr2236,hr2237,hr2238,hr2239⟩;refine J9 (V9 3 [(35,(A.rao a8.1 ax ay)),(36,.bool a8.2)] (Jy 4091 (cs:=l5a) Tryz.zeroValue34 fun c9=>?_));refine Vg 4091 [] (A.rai a8.1 ax ay) ?_;refine J7 1 [(11,.bool a8.2)] 3 ?_;refine Vw [4091,4050] [] [.n,.n,.n,.sy .n,.sy (.b 0 1),.sy .n,.pk,.n,.sy .n,.sy (.b 1 1),.sy .n,.pk,.n,.sy .n,.sy (.b 1 1),.sy .n,.pk] [(53,.bool (bif bif bif !a8.2 then true else decide (a8.1.2.1≠1)then true else decide (p.2.1<0)then true else decide ((1073741824:Int)<p.2.1)))] 1 ?_;refine Uk h (fun y h=>Vb h) (fun y h=>?_);refine Vy 4 [4050] [] [.n,.n,.b 0 1] [(54,.map (some z)),(56,A.i p.2.1)] ?_;have⟨he2241,h⟩:=Vs h;refine A.AL.lko1 45 ky2 p.2.1 Tryz.zeroValue84 he2241 ?_;refine Uy (v:=.bool false) rfl (fun a w hf hh=>A.r_eqm (m:=some W) hf) ?_;refine V4 1 ?_;refine V5 rfl ?_;refine Um 2 ?_;refine Vj mixed 17 18 (A.mb 18 0) ?_;refine Vm Vd [] l5d [4050] [] (A.mb 18 28151) 6 [(0,.n),(1,.n),(4,.n),(6,.n),(7,.n),(10,.n),(13,.n),(2,.b 0 1),(5,.b 0 0),(8,.b 0 1),(11,.b 0 0),(14,.b 0 2)] [(63,.map (some z)),(69,.map (some z)),(65,A.i p.2.1),(68,A.i p.1),(71,A.i p.2.1),(74,A.i p.1),(77,(A.rar p.2.2))] ?_;have⟨he2242,h⟩:=Vs h;refine V0 Vd l5d l5d 3 (A.mb 18 28159) rfl (fun a w hf hh=>A.r_lko1 45 ky2 p.2.1 Tryz.zeroValue84 he2242 hf hh) ?_;have⟨he2243,h⟩:=Vs h;refine V0 Vd l5d l5d 9 (A.mb 18 28671) rfl (fun a w hf hh=>A.r_lko1 45 ky2 p.2.1 Tryz.zeroValue84 he2243 hf hh) ?_;refine A.AH.two 12 15 ?_ ?_
   ·refine A.AL.lkM 89 ky3 p.1 Tryz.zeroValue22 ?_;refine J2 (A.mb 18 32767) l5d ?_;refine Jz 15 ?_;refine Ve 4542 (ty:=T27) (cs:=(A.ral p.2.2)) [p.2.2] ⟨⟨⟨rfl,ab.2.2.1⟩,⟨rfl,ab.2.2.2⟩⟩,rfl⟩ (fun bi=>?_) Tryz.zeroValue28 Tryz.sizeOf28
    refine J2 (A.mb 18 65535) l5d ?_;have⟨hl3145,h⟩:=Vs h;refine A.AH.mapp (t:=T27) (ys:=[p.2.2]) 89 4542 [] [0,1,2,3,4,45,4049,4050,4051,4091] 16 17 (A.mb 18 262143) ky3 p.1 Tryz.zeroValue22 inf28 hl3145 (fun As3146 ca=>?_);refine J6 ?_;refine U1 2 ?_;have⟨ac,h⟩:=Vs h;refine Uf 2 [Z.R64 (I+1)] [(26,A.i (I+1))] ac (Ju ?_);exact Vn ⟨_,Qn _,⟨(Z.mins U p.1 (Z.mget ([]:List D27) U p.1++[p.2.2])),(I+1),As3146,rfl,rfl,(Jw ac),h⟩⟩
   refine Ve 4542 (ty:=T27) (cs:=(A.ral p.2.2)) [p.2.2] ⟨⟨⟨rfl,ab.2.2.1⟩,⟨rfl,ab.2.2.2⟩⟩,rfl⟩ (fun bi=>?_) Tryz.zeroValue28 Tryz.sizeOf28
   refine J2 (A.mb 18 61439) l5d ?_;refine Jz 12 ?_;refine A.AL.lkM 89 ky3 p.1 Tryz.zeroValue22 ?_;refine J2 (A.mb 18 65535) l5d ?_;have⟨hl2964,h⟩:=Vs h;refine A.AH.mapp (t:=T27) (ys:=[p.2.2]) 89 4542 [] [0,1,2,3,4,45,4049,4050,4051,4091] 16 17 (A.mb 18 262143) ky3 p.1 Tryz.zeroValue22 inf28 hl2964 (fun As2965 cb=>?_);refine J6 ?_;refine U1 2 ?_;have⟨ac,h⟩:=Vs h;refine Uf 2 [Z.R64 (I+1)] [(26,A.i (I+1))] ac (Ju ?_);exact Vn ⟨_,Qn _,⟨(Z.mins U p.1 (Z.mget ([]:List D27) U p.1++[p.2.2])),(I+1),As2965,rfl,rfl,(Jw ac),h⟩⟩
  refine Va 4 3 [(81,.slice A2_ u.length c3_),(82,A.i (u.length:Int)),(83,A.i 0)] 2 ?_;refine A.frzM 89 [] ?_;refine Vo [7,81,82] [1,2,3,45,89] (fun f J L=>∃(a4:Int),J=[(83,A.i a4)]/\L=[]/\A.h6 a4/\F.aq u k U f a4=some r) ⟨0,rfl,rfl,J3,h⟩ ?_;rintro az _ _ ⟨a4,rfl,rfl,cc,h⟩;rcases az with _|az
  ·exact Vb h
  rw[F.aq]at h;refine Vl 1 1 [(84,.bool (decide (a4<(u.length:Int))))] 2 h ?_ ?_<;>intro y h
  ·refine J0 5 ?_;have⟨ae,bj,h⟩:=V6 h;refine Vz 1 4716 bj fun b0=>?_;intro cd cf;refine J5 [] [4716] [.e 0 0] [(86,(A.ran ae))] (Jy 4717 (cs:=l5f) Tryz.zeroValue40 fun cg=>?_);refine Vg 4717 [] (A.rah ae) ?_;refine Vk 2 ?_;refine J5 [4717] [] [.n,.b 0 2] [(88,(A.rar ae.2.2))] (Vx 4718 [] h (o_au ae.2.2 b0.2.2.1 b0.2.2.2) (.s 2 (.s 3 .nil)) ?_);rintro b1 - h _ _ ⟨rfl,rfl,hr3336⟩;refine J9 (J7 1 [(14,A.i b1)] 2 ?_);refine Vc 2 [(91,.bool (decide (b1≠0)))] 1 ?_;refine Uv h (fun y h=>Vb h) (fun y h=>?_);refine J0 3 ?_;have⟨b2,h⟩:=Vs h;refine Uf 2 [Z.R64 (a4+1)] [(83,A.i (a4+1))] b2 (Ju ?_);exact Vn ⟨_,Qn _,⟨(a4+1),rfl,rfl,(Jw b2),h⟩⟩
  refine Va 3 3 [(4,.map (some z)),(5,A.i 0)] 1 ?_;obtain rfl:=Vf h;exact Ue [(0,45),(1,89)] (.inr ⟨(k.2.1,U),rfl,⟨z,W,rfl,rfl,J3⟩⟩)
 refine Va 4 3 [(81,.slice A2_ u.length c3_),(82,A.i (u.length:Int)),(83,A.i 0)] 2 ?_;refine Vo [7,81,82] [1,2,3,45] (fun f J L=>∃(a5:Int),J=[(83,A.i a5)]/\L=[]/\A.h6 a5/\F.bI u f a5=some r) ⟨0,rfl,rfl,J3,h⟩ ?_;rintro b3 _ _ ⟨a5,rfl,rfl,ch,h⟩;rcases b3 with _|b3
 ·exact Vb h
 rw[F.bI]at h;refine Vl 1 1 [(84,.bool (decide (a5<(u.length:Int))))] 2 h ?_ ?_<;>intro y h
 ·refine J0 5 ?_;have⟨ag,bk,h⟩:=V6 h;refine Vz 1 4842 bk fun b4=>?_;intro ci cj;refine J5 [] [4842] [.e 0 0] [(86,(A.ran ag))] (Jy 4843 (cs:=l5f) Tryz.zeroValue40 fun cm=>?_);refine Vg 4843 [] (A.rah ag) ?_;refine Vk 2 ?_;refine J5 [4843] [] [.n,.b 0 2] [(88,(A.rar ag.2.2))] (Vx 4844 [] h (o_au ag.2.2 b4.2.2.1 b4.2.2.2) (.s 2 (.s 3 .nil)) ?_);rintro b6 - h _ _ ⟨rfl,rfl,hr3349⟩;refine J9 (J7 1 [(14,A.i b6)] 2 ?_);refine Vc 2 [(91,.bool (decide (b6≠0)))] 1 ?_;refine Uv h (fun y h=>Vb h) (fun y h=>?_);refine J0 3 ?_;have⟨b7,h⟩:=Vs h;refine Uf 2 [Z.R64 (a5+1)] [(83,A.i (a5+1))] b7 (Ju ?_);exact Vn ⟨_,Qn _,⟨(a5+1),rfl,rfl,(Jw b7),h⟩⟩
 refine Va 3 3 [(4,.map (some z)),(5,A.i 0)] 1 ?_;obtain rfl:=Vf h;exact Ue [(0,45)] (.inl ⟨rfl,⟨z,rfl,rfl,J3⟩⟩)
def F.b1 (h:Int):Option Bool:=some (bif decide (h=11)then true else decide (h=16))
theorem o_aM (h:Int)(o:A.h6 h)(r:Bool)(k:F.b1 h=some r):
    A.Ct Tryz.prog 46 [A.i h] [] [] (fun v H'=>v=.bool r/\H'=[]):=by
 refine Jv Tryz.func46 rfl Tryz.ntmps46 rfl fun p s=>?_;rw[F.b1]at k;refine J0 1 ?_;refine J7 1 [] 2 ?_;refine Vw [] [] [.n,.n,.n,.sy .n,.sy .n,.pk,.n] [(2,.bool (bif decide (h=11)then true else decide (h=16)))] 1 ?_;exact A.ke k (Vh ⟨rfl,rfl⟩)
def F.bt (o:((List (Int×D33))×(List (Int×(List D27)))×(List (D131×(List D45)))×(List (Int×(List D72)))))(p:D36)(s:(List D72)):Nat->(List (Int×D33))->Int->Option (Int×((List (Int×D33))×(List (Int×(List D27)))×(List (D131×(List D45)))×(List (Int×(List D72)))))
 |0,_,_=>none
 |f+1,u,h=>if h<(p.length:Int)then((A.ix p h).bind fun k=>((F.b1 k.2.1).bind fun y=>(if(!y)=true then(A.gd (Z.R64 (h+1)) ((F.bt o p s f) (Z.mins u k.1 k) (h+1)))else(A.lt (Z.mget ([]:(List D72)) o.2.2.2 k.1) fun z=>(none)))))else(if(0:Int)≠(s.length:Int)then none else(some (0,(u,[],[],o.2.2.2))))
def F.b3 (k:((List (Int×D33))×(List (Int×(List D27)))×(List (D131×(List D45)))×(List (Int×(List D72)))))(o:D36)(h:(List D72)):Nat->Option (Int×((List (Int×D33))×(List (Int×(List D27)))×(List (D131×(List D45)))×(List (Int×(List D72)))))
 |0=>none
 |f+1=>if(0:Int)<(h.length:Int)then((A.ix h 0).bind fun p=>(none))else(F.bt k o h A.FU k.1 0)
def F.bD (h:((List (Int×D33))×(List (Int×(List D27)))×(List (D131×(List D45)))×(List (Int×(List D72)))))(k:D36)(o:(List D72)):Option (Int×((List (Int×D33))×(List (Int×(List D27)))×(List (D131×(List D45)))×(List (Int×(List D72))))):=F.b3 h k o A.FU
theorem o_am(B:((List (Int×D33))×(List (Int×(List D27)))×(List (D131×(List D45)))×(List (Int×(List D72)))))(o:D36)(p:(List D72))(j2_:Option Nat)(j3_:Option Nat)(r:Int×((List (Int×D33))×(List (Int×(List D27)))×(List (D131×(List D45)))×(List (Int×(List D72)))))(h:F.bD B o p=some r):
    A.Ct Tryz.prog 27 [.pointer (some ⟨g0_,0,none⟩),.agg #[.slice A5_ o.length c6_],.slice A7_ p.length c8_] [(0,.blk g0_ 87 [.map (some b1_),.map j2_,.map j3_,.map (some b4_)]),(1,.mp Int (fun i:Int=>A.i i) T33 true b1_ B.1),(2,.mp Int (fun i:Int=>A.i i) (Z.Ty.slice T72) false b4_ B.2.2.2),(3,.sh (.slice T33) [.slice A5_ o.length c6_] o),(4,.ln T72 A7_ c8_ p),(5,.el none 0 0 A.tabF),(6,.el none 1 0 A.tabA)] ([g0_]++([b1_]++([b4_]++[]))) (fun v H'=>∃(b0':Nat) (b1':Nat),v=A.i r.1/\H'=[(0,.blk g0_ 87 [.map (some b0'),.map j2_,.map j3_,.map (some b1')]),(1,.mp Int (fun i:Int=>A.i i) T33 true b0' r.2.1),(2,.mp Int (fun i:Int=>A.i i) (Z.Ty.slice T72) false b1' r.2.2.2.2)]/\A.h6 r.1):=by
 refine Jv Tryz.func27 rfl Tryz.ntmps27 rfl fun w0 F0=>?_;rw[F.bD]at h;refine J0 1 ?_;refine J1 7 (cs:=[.slice A5_ o.length c6_]) fun g1=>?_;refine J7 1 [] 3 ?_;refine Vc 3 [(13,.slice A7_ p.length c8_),(14,A.i (p.length:Int)),(15,A.i 0)] 2 ?_;refine Vo [0,2,4,13,14,15] [0,1,2,3,4,5,6,7] (fun f N U=>N=[]/\U=[]/\F.b3 B o p f=some r) ⟨rfl,rfl,h⟩ ?_;rintro W _ _ ⟨rfl,rfl,h⟩;rcases W with _|W
 ·exact Vb h
 rw[F.b3]at h;refine Vl 1 1 [(16,.bool (decide ((0:Int)<(p.length:Int))))] 2 h ?_ ?_<;>intro J h
 ·refine J0 5 ?_;have⟨x3,a5,h⟩:=V6 h;refine Vz 4 278 a5 fun a9=>?_;intro b6 o7;refine J5 [] [278] [.e 0 0] [(18,(A.raq x3))] (Jy 279 (cs:=[A.i 0,A.i 0,.string (ByteArray.mk #[]),A.i 0]) Tryz.zeroValue73 fun g8=>?_);refine Vg 279 [] (A.rak x3) ?_;refine V4 1 ?_;exact Vb h
 refine J0 3 ?_;refine J7 1 [(9,A.i 0)] 3 ?_;refine Vw [7] [] [.n,.b 0 0,.n,.n] [(37,.slice A5_ o.length c6_),(38,A.i (o.length:Int)),(39,A.i 0)] 2 ?_;refine Vo [0,2,9,37,38] [0,2,3,4,5,6] (fun f N U=>∃(L:List (Int×D33))(y:Int),N=[(39,A.i y)]/\U=[(1,.mp Int (fun i:Int=>A.i i) T33 true b1_ L)]/\A.h6 y/\F.bt B o p f L y=some r) ⟨B.1,0,rfl,rfl,J3,h⟩ ?_;rintro a3 _ _ ⟨L,y,rfl,rfl,aa,h⟩;rcases a3 with _|a3
 ·exact Vb h
 rw[F.bt]at h;refine Vl 1 1 [(40,.bool (decide (y<(o.length:Int))))] 2 h ?_ ?_<;>intro J h
 ·refine J0 5 ?_;have⟨k,a6,h⟩:=V6 h;refine Vr 3 500 a6 fun s=>?_;intro E I ab ac;refine J5 [] [500] [.e 0 0] [(42,(A.rao k E I))] (Jy 502 (cs:=l5a) Tryz.zeroValue34 fun ad=>?_);refine Vg 502 [] (A.rai k E I) ?_;refine V4 2 ?_;refine Vj mixed 7 8 (A.mb 8 0) ?_;refine Vm Vd [] l5k [502,0] [] (A.mb 8 127) 1 [(0,.n),(4,.n),(6,.b 0 0),(1,.n),(5,.b 0 0),(2,.n),(3,.b 1 0)] [(49,(A.rao k E I)),(48,A.i k.1),(46,.map (some b1_))] (Jz 7 ?_);refine Uz (t:=T33) 1 [] (cs:=(A.rai k E I)) (u:=k) ky3 k.1 ⟨⟨rfl,s.1⟩,⟨rfl,s.2.1⟩,.inl ⟨501,rfl⟩,⟨⟨rfl,s.2.2.2.1.1⟩,⟨rfl,s.2.2.2.1.2.1⟩,⟨rfl,s.2.2.2.1.2.2⟩⟩,⟨rfl,s.2.2.2.2.1⟩,⟨rfl,s.2.2.2.2.2.1⟩,⟨rfl,s.2.2.2.2.2.2⟩⟩ ?_;refine Vv (A.mb 8 255) ?_;refine J6 ?_;refine U1 3 ?_;refine J5 [502] [] [.n,.b 0 1] [(51,A.i k.2.1)] (Vx 503 [] h (o_aM k.2.1 s.2.1) .nil ?_);rintro a7 - h _ _ ⟨rfl,rfl⟩;refine J9 (Vc 1 [(53,.bool (!a7))] 1 ?_);refine Uk h ?_ ?_<;>intro J h
  ·refine J0 2 ?_;have⟨a4,h⟩:=Vs h;refine Uf 2 [Z.R64 (y+1)] [(39,A.i (y+1))] a4 (Ju ?_);exact Vn ⟨_,Qn _,⟨(Z.mins L k.1 k),(y+1),rfl,rfl,(Jw a4),h⟩⟩
  refine Um 4 ?_;refine Vj mixed 10 10 (A.mb 10 0) ?_;refine Vm Vd [] l5k [502,0] [] (A.mb 10 127) 3 [(0,.b 0 0),(1,.n),(5,.n),(2,.n),(6,.b 0 0),(3,.n),(4,.b 1 3)] [(54,(A.rao k E I)),(60,A.i k.1),(58,.map (some b4_))] (Jz 7 ?_);obtain⟨ae,a8,h⟩:=Vi h;refine V8 (t:=(Z.Ty.slice T72)) 2 543 (z:=([]:(List D72))) (zs:=l5p) ky3 k.1 Tryz.zeroValue42 (.inr ⟨rfl,rfl⟩) a8 fun ag=>?_;intro ah aj;refine J2 (A.mb 10 255) l5k ?_;refine Jz 8 ?_;exact Vb h
 refine Va 4 4 [(80,.bool (decide ((0:Int)≠(p.length:Int))))] 1 ?_;refine Uv h (fun J h=>Vb h) (fun J h=>?_);refine Va 3 1 [(6,A.i 0)] 1 ?_;obtain rfl:=Vf h;exact V7 [(0,0),(1,1),(2,2)] ⟨b1_,b4_,rfl,rfl,J3⟩
def F.aX (k:(List Int)):Nat->Int->Option Int
 |0,_=>none
 |f+1,h=>if h<(k.length:Int)then((A.ix k h).bind fun o=>(if o≠0 then(some o)else(A.gd (Z.R64 (h+1)) ((F.aX k f) (h+1)))))else(some 0)
def F.cm (h:(List Int)):Option Int:=F.aX h A.FU 0
theorem o_bK(o:(List Int))(r:Int)(h:F.cm o=some r):
    A.Ct Tryz.prog 90 [.slice A0_ o.length c1_] [(0,.ln A.ti A0_ c1_ o)] [] (fun v H'=>v=A.i r/\H'=[]/\A.h6 r):=by
 refine Jv Tryz.func90 rfl Tryz.ntmps90 rfl fun J L=>?_;rw[F.cm]at h;refine J0 1 ?_;refine J7 1 [] 2 ?_;refine J7 1 [(3,A.i 0)] 3 ?_;refine Vc 3 [(6,.slice A0_ o.length c1_),(7,A.i (o.length:Int)),(8,A.i 0)] 2 ?_;refine Vo [3,6,7] [0] (fun f y z=>∃(k:Int),y=[(8,A.i k)]/\z=[]/\A.h6 k/\F.aX o f k=some r) ⟨0,rfl,rfl,J3,h⟩ ?_;rintro s _ _ ⟨k,rfl,rfl,N,h⟩;rcases s with _|s
 ·exact Vb h
 rw[F.aX]at h;refine Vl 1 1 [(9,.bool (decide (k<(o.length:Int))))] 2 h ?_ ?_<;>intro B h
 ·refine J0 5 ?_;have⟨p,E,h⟩:=V6 h;refine Vz 0 3 E fun I=>?_;intro U W;refine J5 [] [3] [.e 0 0,.n] [(5,A.i p)] (Vk 2 ?_);refine Vc 3 [(14,.bool (decide (p≠0)))] 1 ?_;refine Uv h ?_ ?_<;>intro B h
  ·refine Va 1 2 [(2,A.i p)] 1 ?_;exact A.ke h (Vh ⟨rfl,rfl,I⟩)
  refine J0 3 ?_;have⟨u,h⟩:=Vs h;refine Uf 2 [Z.R64 (k+1)] [(8,A.i (k+1))] u (Ju ?_);exact Vn ⟨_,Qn _,⟨(k+1),rfl,rfl,(Jw u),h⟩⟩
 refine Va 3 2 [(2,A.i 0)] 1 ?_;exact A.ke h (Vh ⟨rfl,rfl,J3⟩)
def F.bo (h:Int):Option Bool:=some (decide (h≠h))
theorem o_ai (h:Int)(o:A.h6 h)(r:Bool)(k:F.bo h=some r):
    A.Ct Tryz.prog 116 [A.i h] [] [] (fun v H'=>v=.bool r/\H'=[]):=by
 refine Jv Tryz.func116 rfl Tryz.ntmps116 rfl fun p s=>?_;rw[F.bo]at k;refine J0 1 ?_;refine J7 1 [] 2 ?_;refine Vc 4 [(2,.bool (decide (h≠h)))] 1 ?_;exact A.ke k (Vh ⟨rfl,rfl⟩)
def F.a0 (h:Int)(k:Int):Option Int:=(F.bo h).bind fun p=>((F.bo k).bind fun o=>(if p=true then(if o=true then(some 0)else(some (-1)))else(if o=true then(some 1)else(if h<k then(some (-1))else(if k<h then(some 1)else(some 0))))))
theorem o_aK (k:Int)(o:Int)(y:A.h6 k)(z:A.h6 o)(r:Int)(h:F.a0 k o=some r):
    A.Ct Tryz.prog 91 [A.i k,A.i o] [] [] (fun v H'=>v=A.i r/\H'=[]/\A.h6 r):=by
 refine Jv Tryz.func91 rfl Tryz.ntmps91 rfl fun B E=>?_;rw[F.a0]at h;refine J0 1 ?_;refine J7 1 [] 2 ?_;refine V9 1 [(7,A.i k)] (Vx 0 [] h (o_ai k y) .nil ?_);rintro u - h _ _ ⟨rfl,rfl⟩;refine J9 (J7 1 [(5,.bool u)] 2 ?_);refine V9 1 [(9,A.i o)] (Vx 40 [] h (o_ai o z) .nil ?_);rintro s - h _ _ ⟨rfl,rfl⟩;refine J9 (J7 1 [(6,.bool s)] 3 ?_);refine Vc 1 [(11,.bool u)] 1 ?_;refine Uk h ?_ ?_<;>intro p h
 ·refine Va 2 1 [(12,.bool s)] 1 ?_;refine Uk h ?_ ?_<;>intro p h
  ·refine Va 1 1 [(4,A.i 0)] 1 ?_;exact A.ke h (Vh ⟨rfl,rfl,J3⟩)
  refine Va 3 1 [(4,A.i (-1))] 1 ?_;exact A.ke h (Vh ⟨rfl,rfl,(Vp (-1))⟩)
 refine Va 4 1 [(13,.bool s)] 1 ?_;refine Uk h ?_ ?_<;>intro p h
 ·refine Va 1 1 [(4,A.i 1)] 1 ?_;exact A.ke h (Vh ⟨rfl,rfl,(Vp 1)⟩)
 refine Vl 4 3 [(16,.bool (decide (k<o)))] 1 h ?_ ?_<;>intro p h
 ·refine Va 1 1 [(4,A.i (-1))] 1 ?_;exact A.ke h (Vh ⟨rfl,rfl,(Vp (-1))⟩)
 refine Vl 4 3 [(19,.bool (decide (o<k)))] 1 h ?_ ?_<;>intro p h
 ·refine Va 1 1 [(4,A.i 1)] 1 ?_;exact A.ke h (Vh ⟨rfl,rfl,(Vp 1)⟩)
 refine Va 3 1 [(4,A.i 0)] 1 ?_;exact A.ke h (Vh ⟨rfl,rfl,J3⟩)
def F.bM (h:D27)(k:D27):Option Int:=(F.a0 h.1 k.1).bind fun o=>((F.bP h.2 k.2).bind fun p=>((F.cm [o,p]).bind fun s=>(some s)))
theorem o_bB (h:D27)(k:D27)(y:A.h6 h.1)(z:h.2.size<=maxLen)(B:A.h6 k.1)(E:k.2.size<=maxLen)(r:Int)(p:F.bM h k=some r):
    A.Ct Tryz.prog 102 [(A.rar h),(A.rar k)] [] [] (fun v H'=>v=A.i r/\H'=[]/\A.h6 r):=by
 refine Jv Tryz.func102 rfl Tryz.ntmps102 rfl fun L N=>?_;rw[F.bM]at p;refine J0 1 ?_;refine J1 0 (cs:=(A.ral h)) fun U=>?_;refine J1 1 (cs:=(A.ral k)) fun W=>?_;refine Vc 1 [] 2 ?_;refine Vj mixed 13 13 (A.mb 13 0) ?_;refine Vm Vd [] [0,1] [0,1] [] (A.mb 13 495) 5 [(0,.n),(2,.n),(5,.n),(7,.n),(1,.b 0 0),(3,.b 1 0),(6,.b 0 1),(8,.b 1 1)] [(6,A.i h.1),(8,A.i k.1),(11,.string h.2),(13,.string k.2)] (Jz 4 ?_);refine Vx 2 [] p (o_aK h.1 k.1 y B) .nil ?_;rintro s - p _ _ ⟨rfl,rfl,hr5⟩;refine J9 (J2 (A.mb 13 511) [0,1] ?_);refine Jz 9 ?_;refine Vx 42 [] p (o_aT h.2 k.2 z E) .nil ?_;rintro u - p _ _ ⟨rfl,rfl,hr8⟩;refine J9 (J2 (A.mb 13 1023) [0,1] ?_);refine Jz 10 ?_;refine Ve 82 (ty:=A.ti) (cs:=[A.i s,A.i u]) [s,u] ⟨⟨rfl,hr5⟩,⟨⟨rfl,hr8⟩,rfl⟩⟩ (fun I=>?_) Tryz.zeroValue3 Tryz.sizeOf3
 refine J2 (A.mb 13 2047) [0,1] ?_;refine Jz 11 ?_;refine Vx 83 [] p (o_bK (some ⟨I,0,none⟩) 2 [s,u]) (.o 82 .nil) ?_;rintro J - p _ _ ⟨rfl,rfl,hr12⟩;refine J9 (J2 (A.mb 13 4095) [0,1] ?_);refine Vm Vd [0,1] [0,1,82] [] [] (A.mb 13 8191) 0 [(12,.n)] [(4,A.i J)] (J6 ?_);refine A.ex 1 ?_;exact A.ke p (Vh ⟨rfl,rfl,hr12⟩)
def F.aN (h:D45)(k:D45):Option Int:=(F.bM h.1 k.1).bind fun o=>(some o)
theorem o_aQ (h:D45)(k:D45)(p:A.h6 h.1.1)(s:h.1.2.size<=maxLen)(B:A.h6 h.2)(u:A.h6 k.1.1)(y:k.1.2.size<=maxLen)(E:A.h6 k.2)(r:Int)(o:F.aN h k=some r):
    A.Ct Tryz.prog 101 [(A.ras h),(A.ras k)] [] [] (fun v H'=>v=A.i r/\H'=[]/\A.h6 r):=by
 refine Jv Tryz.func101 rfl Tryz.ntmps101 rfl fun I J=>?_;rw[F.aN]at o;refine J0 1 ?_;refine J1 0 (cs:=(A.ram h)) fun L=>?_;refine J1 1 (cs:=(A.ram k)) fun N=>?_;refine J7 1 [] 2 ?_;refine J5 [0,1] [] [.n,.b 0 0,.n,.b 1 0] [(6,(A.rar h.1)),(8,(A.rar k.1))] (Vx 2 [] o (o_bB h.1 k.1 p s u y) .nil ?_);rintro z - o _ _ ⟨rfl,rfl,hr5⟩;refine J9 (Vc 1 [(4,A.i z)] 1 ?_);exact A.ke o (Vh ⟨rfl,rfl,hr5⟩)
def F.b (h:List D45):Option (List D45):=A.gd (h.length<4611686018427387904) (A.srtF (fun x y=>F.aN x y) h)
theorem o_e(k:List D45)(r:List D45)(o:F.b k=some r):
    A.Ct Tryz.prog 100 [.slice A0_ k.length c1_,.func (.func 101) #[] #[]] [(0,.own T45 46 A0_ c1_ k)] (Z.obl A0_++[]) (fun v H'=>v=.tuple #[]/\H'=[(0,.own T45 46 A0_ c1_ r)]/\r.length=k.length):=by
 have⟨hc,o⟩:=Vs o;rw[W8]
 exact A.Ct.sortF (t:=T45) (e:=46) Tryz.laysSortFunc100 rfl rfl Tryz.isAgg46 Tryz.sizeOf46 A0_ c1_ 101 (fun x y=>F.aN x y) cf101 (fun x y r hx hy h=>⟨_,o_aQ x y hx.1.1 hx.1.2 hx.2 hy.1.1 hy.1.2 hy.2 r h,fun v H' h=>h.1⟩) k r hc o
def F.a1 (o:(List (D27×Int))):Nat->(List Nat)->(List D45)->Option (List D45)
 |0,_,_=>none
 |f+1,p,k=>A.dem o p ((F.b k).bind fun s=>(some s)) fun u h=>(A.gd (decide (A.h6 h.1.1)=true/\h.1.2.size<=maxLen) (A.gd ((List.length (α:=D45) k+List.length (α:=D45) [h])*32<=140737488355328) ((F.a1 o f) (u::p) (k++[h]))))
def F.ax (h:(List (D27×Int))):Option (List D45):=F.a1 h A.FU [] []
theorem o_a2(y:(List (D27×Int)))(r:(List D45))(h:F.ax y=some r):
    A.Ct Tryz.prog 64 [.map (some b0_)] [(0,.mp D27 (fun x:D27=>(A.rar x)) A.ti false b0_ y)] ([b0_]++[]) (fun v H'=>∃(A0':Option Addr) (c1':Nat),v=.slice A0' r.length c1'/\H'=[(0,.own T45 46 A0' c1' r),(1,.mp D27 (fun x:D27=>(A.rar x)) A.ti false b0_ y)]):=by
 refine Jv Tryz.func64 rfl Tryz.ntmps64 rfl fun w0 F0=>?_;rw[F.ax]at h;refine J0 1 ?_;refine J7 1 [] 2 ?_;refine J7 1 [(3,.slice none 0 0)] 3 ?_;refine V9 1 [(6,.map (some b0_))] (A.AL.rgm 0 1 fun L=>?_);refine V4 2 ?_;refine Ul 94 T45 46 ?_;refine Vo [7] [0] (fun f N U=>∃(z:List Nat)(p:List D45)(la20:Option (Value×Value))(s:Option Addr)(u:Nat),N=[(3,.slice s p.length u)]/\U=[(1,.mit 0 L b0_ y.length z la20),(94,.own T45 46 s u p)]/\F.a1 y f z p=some r) ⟨[],[],none,none,0,rfl,rfl,h⟩ ?_;rintro B _ _ ⟨z,p,la20,s,u,rfl,rfl,h⟩;rcases B with _|B
 ·exact Vb h
 rw[F.a1]at h;refine J0 1 ?_;obtain⟨hend39,hev40⟩:=A.dem_some h;refine A.AL.nxm 0 1 221 (fun hall=>?_) (fun E o hp30 hs31 W=>?_)
 ·replace h:=hend39 hall
  refine Vc 1 [(9,.bool false)] 2 ?_;refine V5 rfl ?_;refine Ub 3 1 [(19,.slice s p.length u)] ?_;refine Vx 181 [] h (o_e s u p) (.m 94 .nil) ?_;rintro a2 - h _ _ ⟨rfl,rfl,hr27⟩;refine J9 (J8 181 94 [] ?_);refine Vk 2 ?_;refine Vc 2 [(2,.slice s p.length u)] 1 ?_;obtain rfl:=Vf h;refine A.cst 2 (Ud (show p.length=a2.length from(Eq.symm hr27))) ?_;exact V7 [(0,94),(1,0)] ⟨s,u,rfl,rfl⟩
 have h:=hev40 E o hp30 hs31
 have⟨hkc33,h⟩:=Vs h;refine Vc 1 [(9,.bool true)] 2 ?_;refine Ua rfl ?_;refine J0 4 ?_;refine A.AL.ent 1 ?_;refine V9 2 [(11,(A.rar o.1)),(12,A.i o.2)] (Jy 222 (cs:=[A.i 0,.string (ByteArray.mk #[])]) Tryz.zeroValue28 fun a3=>?_);refine Vg 222 [] (A.ral o.1) ?_;refine J7 1 [(5,A.i o.2)] 1 ?_;refine J5 [222] [] [.n,.b 0 0,.n,.n] [(13,.slice s p.length u),(16,(A.ras o))] (Ve 223 (ty:=T45) (cs:=(A.ram o)) [o] ⟨⟨⟨⟨rfl,(Wf hkc33.1)⟩,⟨rfl,hkc33.2⟩⟩,⟨rfl,W⟩⟩,rfl⟩ (fun a4=>?_) Tryz.zeroValue46 Tryz.sizeOf46)
 have⟨hl38,h⟩:=Vs h;refine Vt (k:=94) [] (Uc (k:=223) rfl) Qil hl38 fun I J=>?_;refine V9 1 [(3,.slice I ((p++[o]).length) J)] (U4 1 ?_);exact Vn ⟨_,Qn _,⟨(E::z),(p++[o]),(some ((A.rar o.1),A.i o.2)),I,J,rfl,rfl,h⟩⟩
def F.aC (h:D113):Option Int:=A.gd (Z.R64 (h.2.1-1)) ((A.ix [h.2.2.1,h.2.2.2.1,h.2.2.2.2.1,h.2.2.2.2.2] (h.2.1-1)).bind fun k=>(some k))
theorem o_aA (h:D113)(I:A.h6 h.1)(J:A.h6 h.2.1)(p:A.h6 h.2.2.1)(s:A.h6 h.2.2.2.1)(u:A.h6 h.2.2.2.2.1)(y:A.h6 h.2.2.2.2.2)(r:Int)(k:F.aC h=some r):
    A.Ct Tryz.prog 96 [(A.rae h)] [] [] (fun v H'=>v=A.i r/\H'=[]/\A.h6 r):=by
 refine Jv Tryz.func96 rfl Tryz.ntmps96 rfl fun L N=>?_;rw[F.aC]at k;refine J0 1 ?_;refine J1 0 (cs:=(A.rab h)) fun z=>?_;refine J7 1 [] 2 ?_;have⟨B,k⟩:=Vs k;refine A.q [0] [] [.n,.b 0 1,.n,.n] [Z.R64 (h.2.1-1)] [(5,A.i (h.2.1-1)),(6,.pointer (some ⟨z,2,none⟩))] B ?_;have⟨E,o,k⟩:=V6 k;refine A.AL.ixb 0 1 (fun v:Int=>A.i v) [h.2.2.1,h.2.2.2.1,h.2.2.2.2.1,h.2.2.2.2.2] o ?_;refine Vw [] [1] [.e 0 0,.n] [(2,A.i E)] 1 ?_;exact A.ke k (Vh ⟨rfl,rfl,(A.has_ix o (Yy.2 ⟨p,(Yy.2 ⟨s,(Yy.2 ⟨u,(Yy.2 ⟨y,(by simp)⟩)⟩)⟩)⟩))⟩)
end Go.Proofs.YtlbdgahbamalcaaGreatDoor
end
section
namespace Go.A
open Go.RowKit Go.Z
def Ent {κ:Type}[DecidableEq κ](enc:κ->Value)(m:List (κ×Int))(k:κ)(n:Nat)(o:Obj):Prop:=
 ∃(arr:List MapEntry) (clock i:Nat) (e1:MapEntry) (m':List (κ×Int)),o=.map arr.toArray clock/\(∀e,e∈arr->e.born<clock)/\(arr.map (·.born)).Nodup/\arr[i]?=some e1/\e1.born=n/\
  arr.map (fun e=>(e.key,e.val))=m'.map (fun p=>(enc p.1,Value.int .i64 p.2))/\(∀p,p∈m'->IntKind.i64.has p.2)/\mget 0 m' k=mget 0 m k/\∀u,m'.modify i (fun p=>(p.1,u))=mins m k u
section
variable {r:Option Nat}{P:Program}{Q:Exit->Act->World->Prop}{C:Cx}{l:List (Nat×Value)}{H:List (Nat×Res)}{ops:Array Oper}{rest:List Oper}
variable {κ:Type}[DecidableEq κ]{enc:κ->Value}{kt et tt:TypeId}{b d n:Nat}{m:List (κ×Int)}{T:TypeId}{pos:String}{af:Array Edge}
theorem Mt.ints {w:World}{F:Nat->Prop}{m:List (κ×Int)}(hm:Mt enc (.int .i64) false w F b m): ∃(arr:List MapEntry) (clock:Nat),w.heap[b]?=some (.map arr.toArray clock)/\(∀e,e∈arr->e.born<clock)/\(arr.map (·.born)).Nodup/\arr.map (fun e=>(e.key,e.val))=m.map (fun p=>(enc p.1,Value.int .i64 p.2))/\∀p,p∈m->IntKind.i64.has p.2:=by
 obtain⟨es,⟨arr,clock,hb,h1,h4,h5⟩,hl,h3⟩:=hm
 have key: ∀(i:Nat) (p:κ×Int),m[i]?=some p->es[i]?=some (enc p.1,.int .i64 p.2)/\IntKind.i64.has p.2:=fun i p hp=>by
  obtain⟨cs,h6,h7⟩:=h3 i p hp
  obtain⟨rfl,h8⟩:=h7
  exact⟨h6,h8⟩
 refine⟨arr,clock,hb,h4,h5,?_,fun p hp=>?_⟩
 ·rw[h1]
  refine Wp fun i=>?_
  rw[Qs]
  cases hmi:m[i]? with
  |none=>
   rw[Y4]at hmi
   exact Q9 (by omega)
  |some p=>exact(key i p hmi).1
 ·obtain⟨i,hi,rfl⟩:=Xe hp
  exact(key i _ (Qh hi)).2
theorem Mt.ofInts {w:World}{F:Nat->Prop}{m:List (κ×Int)}{arr:List MapEntry}{clock:Nat}(hb:w.heap[b]?=some (.map arr.toArray clock))(h4: ∀e,e∈arr->e.born<clock)(h5:(arr.map (·.born)).Nodup)(h1:arr.map (fun e=>(e.key,e.val))=m.map (fun p=>(enc p.1,Value.int .i64 p.2)))(h2: ∀p,p∈m->IntKind.i64.has p.2):Mt enc (.int .i64) false w F b m:=
 ⟨_,⟨arr,clock,hb,h1,h4,h5⟩,by rw[Wb],fun i p hp=>⟨[.int .i64 p.2],by rw[Qs,hp];rfl,⟨rfl,h2 p (Qt hp)⟩⟩⟩
theorem AL.men (k:Nat)(js:List Nat){x y:Operand}(K:Ky P kt enc)(key:κ)(hz: ∀w,(zeroValue et).run P w=.ok (.int .i64 0) w)
  (h: ∀n:Nat,AL r P ops Q rest C ((d,.tuple #[.int .i64 (mget 0 m key),.int .i64 (n:Int)])::l) ((k,.ob b (Ent enc m key n))::ded js H))
  (hk1:hk H k=some (.mp κ enc (.int .i64) false b m):=by rfl) (hx:ev l x=some (.map (some b)):=by rfl) (hy:ev l y=some (enc key):=by rfl) (ht:P.underlying tt=some (.map kt et):=by rfl) (hd:Nat.ble (d+1) C.n=true:=by rfl) (hj:hng [k] js H=true:=by kernel_rfl):
  AL r P ops Q (⟨some d,.mapEntry tt x y,T,pos,af,none⟩::rest) C l H:=fun a w hf hh=>by
 obtain⟨arr,clock,hb,h4,h5,h1,h2⟩:=Mt.ints (hh.hold k _ hk1)
 have hlt:=(Qp.1 hb).1
 have hkeys:arr.map (·.key)=(m.map Prod.fst).map enc:=by
  have:=Qv (List.map Prod.fst) h1
  simpa[Y1,Function.comp_def] using this
 have hlen:arr.length=m.length:=by have:=Qv List.length h1;simpa using this
 obtain⟨arr1,clock1,i,e1,hrun,hi,hek,hlt1,hnd1,hcase⟩:=run_mapEntry (tt:=tt) (et:=et) K ht hz hb hkeys h4 h5 key
 have hent:e1.val=.int .i64 (mget 0 m key)/\Ent enc m key e1.born (.map arr1.toArray clock1):=by
  rcases hcase with⟨hl,rfl⟩|⟨hl,rfl,rfl,hv⟩
  ·have hmi:=Qbv hl (0:Int)
   have hv:(e1.key,e1.val)=(enc key,Value.int .i64 (mget 0 m key)):=by
    have:=Qv (fun l=>l[i]?) h1
    simp only[Qs,hi,hmi,Q7]at this
    exact Ws this
   refine⟨(Prod.mk.inj hv).2,arr1,clock1,i,e1,m,rfl,hlt1,hnd1,hi,rfl,h1,h2,rfl,fun u=>?_⟩
   rw[Qag,hl]
  ·have hg:mget 0 m key=0:=by
    have: ∀m:List (κ×Int),loc key (m.map Prod.fst)=none->mget 0 m key=0:=by
     intro m
     induction m with
     |nil=>intro _;rfl
     |cons p r ih=>
      intro h
      simp only[Qz,loc]at h
      unfold mget
      by_cases hk:key=p.1
      ·rw[Qj hk]at h;cases h
      ·rw[Qd hk]at h ⊢;exact ih (by simpa using h)
    exact this m hl
   refine⟨by rw[hv,hg],arr++[e1],clock1,arr.length,e1,m++[(key,0)],rfl,hlt1,hnd1,hi,rfl,?_,fun p hp=>?_,?_,fun u=>?_⟩
   ·rw[W5,W5,h1]
    simp only[Qz,Jh,hek,hv]
   ·rcases Q0.1 hp with hp|hp
    ·exact h2 p hp
    ·rw[Qm]at hp;subst hp;exact(by decide:IntKind.i64.has 0)
   ·have: ∀m:List (κ×Int),loc key (m.map Prod.fst)=none->mget 0 (m++[(key,0)]) key=mget 0 m key:=by
     intro m
     induction m with
     |nil=>intro _;simp[mget]
     |cons p r ih=>
      intro h
      simp only[Qz,loc]at h
      simp only[Xq,mget]
      by_cases hk:key=p.1
      ·rw[Qj hk]at h;cases h
      ·rw[Qd hk]at h;rw[Qd hk,Qd hk];exact ih (by simpa using h)
    exact this m hl
   ·rw[Qag,hl,hlen]
    show(m++[(key,(0:Int))]).modify m.length (fun p=>(p.1,u))=m++[(key,u)]
    refine Wp fun j=>?_
    rw[Wa]
    by_cases hj:m.length=j
    ·subst hj;simp
    ·by_cases hj2:j<m.length
     ·rw[Q2 hj2,Q2 hj2];simp[hj]
     ·rw[Q9 (by simp;omega),Q9 (by simp;omega)];rfl
 refine Z.valw (w':=w.putObj b (.map arr1.toArray clock1)) (v:=.tuple #[e1.val,goInt e1.born]) hf hd ?_ fun a1 hf1=>?_
 ·simp only[execOp,Sem.run_bind,hf.eval hx,hf.eval hy,hrun,Result.andThen_ok,Sem.run_pure]
 rw[hent.1]at hf1
 refine h e1.born a1 _ hf1 (Hp.dd (hh.upd (Ch.putObj w b _) (fun b' hb'=>⟨_,hk1,by simpa[Res.bl] using hb'⟩) (fun b' hb'=>.inl ⟨_,hk1,hb'⟩) (fun j hj=>by cases hj) fun F B hF _ _ _ _=>⟨_,World.putObj_heap_same hlt,hent.2⟩) hj)
theorem AL.lke (k:Nat){x y:Operand}{v:Int}(K:Ky P kt enc)(key:κ)(hz: ∀w,(zeroValue et).run P w=.ok (.int .i64 0) w)(hv:mget 0 m key=v)
  (h:IntKind.i64.has v->AL r P ops Q rest C ((d,.int .i64 v)::l) H)
  (hk1:hk H k=some (.ob b (Ent enc m key n)):=by rfl) (hx:ev l x=some (.map (some b)):=by rfl) (hy:ev l y=some (enc key):=by rfl) (ht:P.underlying tt=some (.map kt et):=by rfl) (hd:Nat.ble (d+1) C.n=true:=by rfl):
  AL r P ops Q (⟨some d,.lookup tt x y false,T,pos,af,none⟩::rest) C l H:=fun a w hf hh=>by
 subst hv
 obtain⟨o,hb,arr,clock,i,e1,m',rfl,h4,h5,hi,_,h1,h2,hg,_⟩:=hh.hold k _ hk1
 have hm:Mt enc (.int .i64) false w (fun _=>False) b m':=Mt.ofInts hb h4 h5 h1 h2
 exact Z.st_lookup (t:=.int .i64) (agg:=false) (zs:=[.int .i64 0]) hf hd K ht (show ∀w,(zeroValue et).run P w=.ok (vof false [.int .i64 0]) w from hz) (0:Int) ⟨rfl,by decide,by decide⟩ hm hx key hy fun cs a' hr hf'=>by
  obtain⟨rfl,h8⟩:=hr
  rw[hg]at h8 hf'
  exact h h8 a' w hf' hh
theorem AL.mes (k:Nat)(js:List Nat){x y v:Operand}{u:Int}(key:κ)(hu:IntKind.i64.has u)(h:AL r P ops Q rest C l ((k,.mp κ enc (.int .i64) false b (mins m key u))::ded js H))
  (hk1:hk H k=some (.ob b (Ent enc m key n)):=by rfl) (hx:ev l x=some (.map (some b)):=by rfl) (hy:ev l y=some (.int .i64 (n:Int)):=by rfl) (hv:ev l v=some (.int .i64 u):=by rfl) (hj:hng [k] js H=true:=by kernel_rfl):
  AL r P ops Q (⟨none,.entryStore tt x y v,T,pos,af,none⟩::rest) C l H:=fun a w hf hh=>by
 obtain⟨o,hb,arr,clock,i,e1,m',rfl,h4,h5,hi,rfl,h1,h2,hg,hm⟩:=hh.hold k _ hk1
 have hlt:=(Qp.1 hb).1
 refine Z.skipw (w':=w.putObj b (.map (arr.modify i fun e=>{e with val:=.int .i64 u}).toArray clock)) hf ?_ fun a5 hf5=>h a5 _ hf5 (Hp.dd (hh.upd (Ch.putObj w b _) (fun b' hb'=>⟨_,hk1,by simpa[Res.bl] using hb'⟩) (fun b' hb'=>.inl ⟨_,hk1,hb'⟩) (fun j hj=>by cases hj) fun F B hF _ _ _ _=>?_) hj)
 ·have:=run_entryStore (P:=P) (tt:=tt) hb hi h5 (.int .i64 u)
  rw[show goInt (e1.born:Int)=.int .i64 (e1.born:Int)from rfl]at this
  simp only[execOp,Sem.run_bind,hf.eval hx,hf.eval hy,hf.eval hv,this,Result.andThen_ok,Sem.run_pure]
 ·rw[<-hm u]
  refine Mt.ofInts (World.putObj_heap_same hlt) (fun e he=>?_) ?_ ?_ fun p hp=>?_
  ·obtain⟨j,hj,rfl⟩:=Xe he
   rw[List.getElem_modify]
   have hj':j<arr.length:=by simpa using hj
   have:=h4 arr[j] (List.getElem_mem hj')
   split<;>exact this
  ·have:(arr.modify i fun e=>{e with val:=Value.int .i64 u}).map (·.born)=arr.map (·.born):=by
    refine Wp fun j=>?_
    simp only[Qs,Wa]
    cases arr[j]? with
    |none=>rfl
    |some e0=>simp only[Xf,Q7,Qc];split<;>rfl
   rw[this];exact h5
  ·refine Wp fun j=>?_
   have hj:=Qv (fun l=>l[j]?) h1
   simp only[Qs,Wa]at hj ⊢
   cases haj:arr[j]? with
   |none=>
    cases hmj:m'[j]? with
    |none=>rfl
    |some p=>rw[haj,hmj]at hj;cases hj
   |some e0=>
    cases hmj:m'[j]? with
    |none=>rw[haj,hmj]at hj;cases hj
    |some p=>
     rw[haj,hmj]at hj
     have hj:=Ws hj
     obtain⟨q1,q2⟩:=Prod.mk.inj hj
     by_cases hij:i=j
     ·simp[hij,q1]
     ·simp[hij,q1,q2]
  ·obtain⟨j,hj,rfl⟩:=Xe hp
   rw[List.getElem_modify]
   split
   ·exact hu
   ·exact h2 _ (List.getElem_mem _)
end
end Go.A
end
section
namespace Go.Proofs.YtlbdgahbamalcaaGreatDoor
open Go.RowKit
variable(A0_ A1_ A2_ A4_ A5_ A6_ A7_ A8_ A13_:Option Addr)(b0_ g0_ b1_ c1_ b2_ c2_ g2_ b3_ c3_ b4_ g4_ b5_ c5_ b6_ c6_ g6_ c7_ c8_ c9_ g10_ c14_:Nat)
def F.aP (h:D113)(k:Int):Option D113:=A.gd (Z.R64 (h.2.1-1)) ((A.ix [h.2.2.1,h.2.2.2.1,h.2.2.2.2.1,h.2.2.2.2.2] (h.2.1-1)).bind fun o=>(some (h.1,h.2.1,((if h.2.1-1=0 then k else h.2.2.1),(if h.2.1-1=1 then k else h.2.2.2.1),(if h.2.1-1=2 then k else h.2.2.2.2.1),(if h.2.1-1=3 then k else h.2.2.2.2.2)))))
theorem o_al (h:D113)(k:Int)(u:A.h6 h.1)(y:A.h6 h.2.1)(z:A.h6 h.2.2.1)(B:A.h6 h.2.2.2.1)(E:A.h6 h.2.2.2.2.1)(I:A.h6 h.2.2.2.2.2)(p:A.h6 k)(r:D113)(o:F.aP h k=some r):
    A.Ct Tryz.prog 98 [(A.rae h),A.i k] [] [] (fun v H'=>v=(A.rae r)/\H'=[]/\A.h6 r.1/\A.h6 r.2.1/\A.h6 r.2.2.1/\A.h6 r.2.2.2.1/\A.h6 r.2.2.2.2.1/\A.h6 r.2.2.2.2.2):=by
 refine Jv Tryz.func98 rfl Tryz.ntmps98 rfl fun N U=>?_;rw[F.aP]at o;refine J0 1 ?_;refine J1 0 (cs:=(A.rab h)) fun J=>?_;refine Jy 1 (cs:=l5m) Tryz.zeroValue114 fun W=>?_;refine Vk 2 ?_;have⟨L,o⟩:=Vs o;refine A.q [0] [] [.n,.b 0 1,.n,.n,.n] [Z.R64 (h.2.1-1)] [(7,A.i (h.2.1-1)),(8,A.i k),(9,.pointer (some ⟨J,2,none⟩))] L ?_;have⟨x4,s,o⟩:=V6 o;refine A.AL.ixb 0 2 (fun v:Int=>A.i v) [h.2.2.1,h.2.2.2.1,h.2.2.2.2.1,h.2.2.2.2.2] s ?_;refine A.AL.stb 0 [2] s (A.arr4 (Q:=fun i=>[A.i h.1,A.i h.2.1,A.i (if i=0 then k else h.2.2.1),A.i (if i=1 then k else h.2.2.2.1),A.i (if i=2 then k else h.2.2.2.2.1),A.i (if i=3 then k else h.2.2.2.2.2)]=List.set (A.rab h) (2+i.toNat*1) (A.i k)) s rfl rfl rfl rfl) ?_;refine Vk 2 ?_;refine J5 [0] [] [.b 0 0] [(11,.agg #[A.i h.1,A.i h.2.1,A.i (if h.2.1-1=0 then k else h.2.2.1),A.i (if h.2.1-1=1 then k else h.2.2.2.1),A.i (if h.2.1-1=2 then k else h.2.2.2.2.1),A.i (if h.2.1-1=3 then k else h.2.2.2.2.2)])] (Vg 1 [] [A.i h.1,A.i h.2.1,A.i (if h.2.1-1=0 then k else h.2.2.1),A.i (if h.2.1-1=1 then k else h.2.2.2.1),A.i (if h.2.1-1=2 then k else h.2.2.2.2.1),A.i (if h.2.1-1=3 then k else h.2.2.2.2.2)] ?_);refine V4 1 ?_;obtain rfl:=Vf o;exact Ug [] (.agg #[A.i h.1,A.i h.2.1,A.i (if h.2.1-1=0 then k else h.2.2.1),A.i (if h.2.1-1=1 then k else h.2.2.2.1),A.i (if h.2.1-1=2 then k else h.2.2.2.2.1),A.i (if h.2.1-1=3 then k else h.2.2.2.2.2)]) (fun a w hf hh=>Uo rfl (Ut hf rfl Tryz.isAgg114 Tryz.sizeOf114 (Vq hh 1) rfl)) (⟨rfl,rfl,u,y,(A.ite_has p z),(A.ite_has p B),(A.ite_has p E),(A.ite_has p I)⟩)
def F.b6 (k:D113):Option D113:=(F.aP k 0).bind fun h=>(A.gd (Z.R64 (h.2.1-1)) (some (h.1,h.2.1-1,h.2.2)))
theorem o_bC (k:D113)(s:A.h6 k.1)(u:A.h6 k.2.1)(y:A.h6 k.2.2.1)(z:A.h6 k.2.2.2.1)(B:A.h6 k.2.2.2.2.1)(E:A.h6 k.2.2.2.2.2)(r:D113)(o:F.b6 k=some r):
    A.Ct Tryz.prog 97 [(A.rae k)] [] [] (fun v H'=>v=(A.rae r)/\H'=[]/\A.h6 r.1/\A.h6 r.2.1/\A.h6 r.2.2.1/\A.h6 r.2.2.2.1/\A.h6 r.2.2.2.2.1/\A.h6 r.2.2.2.2.2):=by
 refine Jv Tryz.func97 rfl Tryz.ntmps97 rfl fun J L=>?_;rw[F.b6]at o;refine J0 1 ?_;refine J1 0 (cs:=(A.rab k)) fun I=>?_;refine Jy 1 (cs:=l5m) Tryz.zeroValue114 fun N=>?_;refine Vk 2 ?_;refine J5 [0] [] [.b 0 0] [(3,(A.rae k))] (Vx 2 [] o (o_al k 0 s u y z B E J3) .nil ?_);rintro h - o _ _ ⟨rfl,rfl,hr5,hr6,hr7,hr8,hr9,hr10⟩;refine J9 (Vg 0 [] (A.rab h) ?_);refine Vk 2 ?_;have⟨p,o⟩:=Vs o;refine A.q [0] [] [.n,.b 0 1,.n,.n] [Z.R64 (h.2.1-1)] [(7,A.i (h.2.1-1)),(8,.pointer (some ⟨I,1,none⟩))] p (Us 0 [] (new:=[A.i (h.2.1-1)]) (cs':=[A.i h.1,A.i (h.2.1-1),A.i h.2.2.1,A.i h.2.2.2.1,A.i h.2.2.2.2.1,A.i h.2.2.2.2.2]) ?_);refine Vk 2 ?_;refine J5 [0] [] [.b 0 0] [(9,.agg #[A.i h.1,A.i (h.2.1-1),A.i h.2.2.1,A.i h.2.2.2.1,A.i h.2.2.2.2.1,A.i h.2.2.2.2.2])] (Vg 1 [] [A.i h.1,A.i (h.2.1-1),A.i h.2.2.1,A.i h.2.2.2.1,A.i h.2.2.2.2.1,A.i h.2.2.2.2.2] ?_);refine V4 1 ?_;obtain rfl:=Vf o;exact Ug [] (.agg #[A.i h.1,A.i (h.2.1-1),A.i h.2.2.1,A.i h.2.2.2.1,A.i h.2.2.2.2.1,A.i h.2.2.2.2.2]) (fun a w hf hh=>Uo rfl (Ut hf rfl Tryz.isAgg114 Tryz.sizeOf114 (Vq hh 1) rfl)) (⟨rfl,rfl,hr5,(Jw p),hr7,hr8,hr9,hr10⟩)
def F.aI (k:(List (D27×Int)))(h:D27)(o:Int):Option (List (D27×Int)):=A.lt (Z.mget (0:Int) k h) fun p=>(A.gd (Z.R64 (p+o)) (A.lt (Z.mget (0:Int) (Z.mins k h (p+o)) h) fun s=>(if(1048576:Int)<s then(none)else(some (Z.mins k h (p+o))))))
theorem o_av(I:(List (D27×Int)))(k:D27)(o:Int)(U:A.h6 k.1)(W:k.2.size<=maxLen)(a3:A.h6 o)(r:(List (D27×Int)))(h:F.aI I k o=some r):
    A.Ct Tryz.prog 93 [.map (some b0_),(A.rar k),A.i o] [(0,.mp D27 (fun x:D27=>(A.rar x)) A.ti false b0_ I)] ([b0_]++[]) (fun v H'=>v=.tuple #[]/\H'=[(0,.mp D27 (fun x:D27=>(A.rar x)) A.ti false b0_ r)]):=by
 refine Jv Tryz.func93 rfl Tryz.ntmps93 rfl fun w0 F0=>?_;rw[F.aI]at h;refine J0 1 ?_;refine J1 1 (cs:=(A.ral k)) fun g1=>?_;refine V4 2 ?_;refine Vj mixed 7 8 (A.mb 8 0) ?_;refine Vm Vd [] [1] [1] [] (A.mb 8 11) 5 [(0,.n),(1,.b 0 0),(3,.n)] [(6,.map (some b0_)),(7,(A.rar k)),(9,A.i o)] (A.AH.two 2 5 ?_ ?_)
 ·obtain⟨p,u,h⟩:=Vi h;refine V8 (t:=A.ti) 0 62 (z:=(0:Int)) (zs:=[A.i 0]) ky28 k Tryz.zeroValue2 ⟨rfl,by decide⟩ u fun J=>?_;refine J2 (A.mb 8 15) [1] ?_;have⟨s,h⟩:=Vs h;refine A.AH.q Vd [1] [1] [] [] (A.mb 8 31) 3 [(4,.n)] [10] [Z.R64 (p+o)] [(10,A.i (p+o))] s ?_;refine Jz 5 ?_;refine A.AL.men 0 [] ky28 k Tryz.zeroValue2 fun y=>?_;refine J2 (A.mb 8 63) [1] ?_;refine Vm Vd [1] [0,1] [] [] (A.mb 8 127) 1 [(6,.n)] [(12,A.i (y:Int))] (Jz 7 ?_);refine A.AL.mes 0 [] k (Jw s) ?_;refine Vv (A.mb 8 255) ?_;refine J6 ?_;refine U1 2 ?_;refine J5 [1] [] [.n,.b 0 0] [(13,.map (some b0_)),(14,(A.rar k))] ?_;obtain⟨B,E,h⟩:=Vi h;refine V8 (t:=A.ti) 0 242 (z:=(0:Int)) (zs:=[A.i 0]) ky28 k Tryz.zeroValue2 ⟨rfl,by decide⟩ E fun L=>?_;refine Vc 1 [(16,.bool (decide ((1048576:Int)<B)))] 1 ?_;refine Uv h ?_ ?_<;>intro N h
  ·refine Ub 0 1 [(17,.agg #[A.i 51])] ?_;exact Vb h
  refine V1 1 ?_;obtain rfl:=Vf h;exact Ui [(0,0)] (.tuple #[]) (fun a w hf hh=>Uw rfl w) (⟨rfl,rfl⟩)
 refine A.AL.men 0 [] ky28 k Tryz.zeroValue2 fun y=>?_;refine J2 (A.mb 8 43) [1] ?_;refine Vm Vd [1] [0,1] [] [] (A.mb 8 107) 3 [(6,.n)] [(12,A.i (y:Int))] (Jz 2 ?_);obtain⟨p,u,h⟩:=Vi h;refine A.AL.lke 0 ky28 k Tryz.zeroValue2 u fun J=>?_;refine J2 (A.mb 8 111) [0,1] ?_;have⟨s,h⟩:=Vs h;refine A.AH.q Vd [0,1] [0,1] [] [] (A.mb 8 127) 1 [(4,.n)] [10] [Z.R64 (p+o)] [(10,A.i (p+o))] s ?_;refine Jz 7 ?_;refine A.AL.mes 0 [] k (Jw s) ?_;refine Vv (A.mb 8 255) ?_;refine J6 ?_;refine U1 2 ?_;refine J5 [1] [] [.n,.b 0 0] [(13,.map (some b0_)),(14,(A.rar k))] ?_;obtain⟨B,E,h⟩:=Vi h;refine V8 (t:=A.ti) 0 242 (z:=(0:Int)) (zs:=[A.i 0]) ky28 k Tryz.zeroValue2 ⟨rfl,by decide⟩ E fun L=>?_;refine Vc 1 [(16,.bool (decide ((1048576:Int)<B)))] 1 ?_;refine Uv h ?_ ?_<;>intro N h
 ·refine Ub 0 1 [(17,.agg #[A.i 51])] ?_;exact Vb h
 refine V1 1 ?_;obtain rfl:=Vf h;exact Ui [(0,0)] (.tuple #[]) (fun a w hf hh=>Uw rfl w) (⟨rfl,rfl⟩)
def F.ae (k:(List D45)):Nat->(List (D27×Int))->Int->Option (List (D27×Int))
 |0,_,_=>none
 |f+1,o,h=>if h<(k.length:Int)then((A.ix k h).bind fun p=>((F.aI o p.1 p.2).bind fun s=>(A.gd (Z.R64 (h+1)) ((F.ae k f) s (h+1)))))else(some o)
def F.ac (h:(List (D27×Int)))(k:(List D45)):Option (List (D27×Int)):=F.ae k A.FU h 0
theorem o_m(u:(List (D27×Int)))(o:(List D45))(r:(List (D27×Int)))(h:F.ac u o=some r):
    A.Ct Tryz.prog 95 [.map (some b0_),.slice A1_ o.length c2_] [(0,.mp D27 (fun x:D27=>(A.rar x)) A.ti false b0_ u),(1,.ln T45 A1_ c2_ o)] ([b0_]++[]) (fun v H'=>v=.tuple #[]/\H'=[(0,.mp D27 (fun x:D27=>(A.rar x)) A.ti false b0_ r)]):=by
 refine Jv Tryz.func95 rfl Tryz.ntmps95 rfl fun N U=>?_;rw[F.ac]at h;refine Va 1 3 [(6,.slice A1_ o.length c2_),(7,A.i (o.length:Int)),(8,A.i 0)] 2 ?_;refine Vo [0,6,7] [1] (fun f E I=>∃(s:List (D27×Int))(k:Int),E=[(8,A.i k)]/\I=[(0,.mp D27 (fun x:D27=>(A.rar x)) A.ti false b0_ s)]/\A.h6 k/\F.ae o f s k=some r) ⟨u,0,rfl,rfl,J3,h⟩ ?_;rintro z _ _ ⟨s,k,rfl,rfl,W,h⟩;rcases z with _|z
 ·exact Vb h
 rw[F.ae]at h;refine Vl 1 1 [(9,.bool (decide (k<(o.length:Int))))] 2 h ?_ ?_<;>intro hb h
 ·refine J0 5 ?_;have⟨p,J,h⟩:=V6 h;refine Vz 1 86 J fun y=>?_;intro b8 o9;refine J5 [] [86] [.e 0 0] [(11,(A.ras p))] (Jy 87 (cs:=[A.i 0,.string (ByteArray.mk #[]),A.i 0]) Tryz.zeroValue46 fun a2=>?_);refine Vg 87 [] (A.ram p) ?_;refine Vk 1 ?_;refine J5 [87] [] [.n,.n,.b 0 0,.n,.b 0 2] [(12,.map (some b0_)),(14,(A.rar p.1)),(16,A.i p.2)] (Vx 88 [] h (o_av b0_ s p.1 p.2 y.1.1 y.1.2 y.2) (.m 0 .nil) ?_);rintro L - h _ _ ⟨rfl,rfl⟩;refine J9 (J8 88 0 [] ?_);refine Vk 2 ?_;have⟨B,h⟩:=Vs h;refine Uf 2 [Z.R64 (k+1)] [(8,A.i (k+1))] B (Ju ?_);exact Vn ⟨_,Qn _,⟨L,(k+1),rfl,rfl,(Jw B),h⟩⟩
 refine V1 1 ?_;obtain rfl:=Vf h;exact Ui [(0,0)] (.tuple #[]) (fun a w hf hh=>Uw rfl w) (⟨rfl,rfl⟩)
end Go.Proofs.YtlbdgahbamalcaaGreatDoor
end
