/- Functions on data, what they tell, and that the code computes them. -/
import Derived.Test.YtlbnpmfggfbdoaaGreatDoorE0
import Derived.Test.YtlbnpmfggfbdoaaGreatDoorE1
import Derived.Test.YtlbnpmfggfbdoaaGreatDoorE2
import Derived.Test.YtlbnpmfggfbdoaaGreatDoorE4
import Derived.Test.YtlbnpmfggfbdoaaGreatDoorE3
set_option linter.unusedVariables false
set_option linter.unusedSimpArgs false
set_option maxRecDepth 20000
set_option maxHeartbeats 40000000
set_option synthInstance.maxSize 1000000
set_option synthInstance.maxHeartbeats 400000
section
namespace Go.Proofs.YtlbnpmfggfbdoaaGreatDoor
open Go.RowKit
abbrev l5a:List Value:=[A.i 0,A.i 0,.slice none 0 0,A.i 0,A.i 0,.string (ByteArray.mk #[]),.string (ByteArray.mk #[]),A.i 0,A.i 0]
abbrev l5b:List Nat:=[0,1,2,889,890,930,1014,1079,1080,1081,1082,1083,1084,1085]
abbrev l5c:List Value:=A.zz8
abbrev l5d:List Nat:=[0,1,2,888,889,890,930,931]
abbrev l5e:List Nat:=[0,1,2,489,889,890,930,1014,1079,1080,1081,1082]
abbrev l5f:List Nat:=[0,1,4278,4279,4280,4281,4282]
abbrev l5g:List Nat:=[0,1,2,489,889,890,930,1014,1079,1080,1081,1082,1083]
abbrev l5h:List Nat:=[0,1,2,3,998,999,1266,1307]
abbrev l5i:List Nat:=[0,1,3858,3859,3860,3861]
abbrev l5j:List Nat:=[0,1,2,3,998,999,1089,1309]
abbrev l5k:List Nat:=[0,2,3,1446,1447,1448,1449]
abbrev l5l:List Nat:=[0,1,2,145,514,515,516]
abbrev l5m:List Nat:=[0,2,3,1446,1447,1448]
abbrev l5n:List Nat:=[0,1,2,3,4]
abbrev l5o:List Nat:=[0,1,2,889,890,930,1014,1079,1080,1081,1082,1083]
abbrev l5p:List Nat:=[0,1,2,3,998,999,1266]
abbrev l5q:List Nat:=[0,1,2,145,514]
abbrev l5r:List Nat:=[0,1,203]
abbrev l5s:List Nat:=[0,1,4278,4279,4280,4281]
abbrev l5t:List Nat:=[0,2,3,1446,1447,1448,1449,1490]
abbrev l5u:List Nat:=[0,1,2,3,4,5,6,791,792]
abbrev l5v:List Nat:=[0,1,2,489,889,890,930,1014,1079,1080]
abbrev l5w:List Nat:=[0,1,2,3,996,997,998]
abbrev l5x:List Nat:=[1,2,4,164,3707,3708,4902]
abbrev l5y:List Nat:=[1,2,4,164,3707,3708,4902,5287,5288]
abbrev l5z:List Nat:=[0,1,2,145]
abbrev l5a1:List Nat:=[0,1,2,889,890,930,1014]
abbrev l5b1:List Nat:=[0,1,44,86,128,168,294]
abbrev l5c1:List Nat:=[0,1,2,3,4,89]
abbrev l5d1:List Nat:=[0,1,3858,3859]
variable(A0_ A1_ A2_ A4_ A5_ A7_ A10_ A12_ A13_:Option Addr)(b0_ g0_ b1_ c1_ c2_ g2_ c3_ b4_ b5_ c5_ b6_ c6_ c8_ g8_ g10_ c11_ c13_ c14_:Nat)
def F.c2 (e:(List D53)→Int→Option (List D53))(a:Int)(h:List D53):Option (List D53):=A.gd (Z.R64 (a+1)) (e h (a+1))
def F.dD (a:(List D53)→Int→Option (List D53))(e:Int)(h:List D53):Option (List D53):=F.c2 a e h
def F.dE (e:(List D53)→Int→Option (List D53))(a:Int)(h:List D53):Option (List D53):=A.gd (Z.R64 (a+1)) (e h (a+1))
def F.bq (s:(List D53)→Int→Option (List D53))(h:D23)(k:D41)(t:D83×Bool)(o:D44×Int)(a:Int):Nat→(List D53)→Int→Option (List D53)
 |0,_,_=>none
 |f+1,p,e=>(A.ix h a).bind fun w=>(if e<(w.2.2.1.length:Int)then((A.ix h a).bind fun x=>((A.ix x.2.2.1 e).bind fun y=>(if y=t.1.1 then((A.ix h a).bind fun u=>(A.gd ((List.length (α:=D53) p+List.length (α:=D53) [(k.1,(u.1,e),o.1)])*96≤140737488355328) (F.dE (F.bq s h k t o a f) e (p++[(k.1,(u.1,e),o.1)]))))else(F.dE (F.bq s h k t o a f) e p))))else(A.gd (Z.R64 (a+1)) (s p (a+1))))
def F.br (e:(List D53)→Int→Option (List D53))(a:D23)(h:Int)(k:D41)(o:D83×Bool)(p:D44×Int):Nat→(List D53)→Int→Option (List D53)
 |0,_,_=>none
 |f+1,s,t=>if t<(a.length:Int)then(F.bq (F.br e a h k o p f) a k o p t A.FU s 0)else(F.c2 e h s)
def F.aN (h:D23)(a:(List D41)):Nat→(List D53)→Int→Option (List D53)
 |0,_,_=>none
 |f+1,k,e=>if e<(a.length:Int)then((A.ix a e).bind fun o=>((F.ex h o.1.1).bind fun p=>(if o.1.2≠2 then(if p.1.2.1≠15 then((A.ix a e).bind fun t=>((F.dZ p.1 t.2).bind fun s=>(A.gd ((List.length (α:=D53) k+List.length (α:=D53) [(o.1,(p.1.1,2),s)])*96≤140737488355328) (F.dD (F.aN h a f) e (k++[(o.1,(p.1.1,2),s)])))))else(F.dD (F.aN h a f) e k))else((A.ix a e).bind fun u=>((F.eE u.2).bind fun w=>(F.br (F.aN h a f) h e o p w A.FU k 0))))))else(some k)
def F.dF (a:D23)(e:(List D41)):Option (List D53):=F.aN a e A.FU [] 0
theorem o_aL(x:D23)(E:(List D41))(r:(List D53))(h:F.dF x E=some r):
    A.Ct Tryz.prog 50 [.agg #[.slice A0_ x.length c1_],.slice A2_ E.length c3_] [(0,.sh (.slice T83) [.slice A0_ x.length c1_] x),(1,.ln T41 A2_ c3_ E)] [] (fun v H'=>∃(A0':Option Addr) (c1':Nat),v=.slice A0' r.length c1'∧H'=[(0,.own T53 54 A0' c1' r)]):=by
 refine J1 Tryz.func50 rfl Tryz.ntmps50 rfl fun w0 F0=>?_;rw[F.dF]at h;refine Jv 1 ?_;refine Vc 2 (cs:=[.slice A0_ x.length c1_]) fun g1=>?_;refine J0 1 [] (Vb 2 ?_);refine J0 1 [(5,.slice none 0 0)] (Vb 3 ?_);refine J0 1 [(6,A.i 0)] (Jw 2 ?_);refine V9 489 T53 54 ?_;refine Vo [1,2] [0,1,2] (fun f J L=>∃(N:List D53),∃(B:Int),∃(U:Option Addr),∃(V:Nat),J=[(5,.slice U N.length V),(6,A.i B)]∧L=[(489,.own T53 54 U V N)]∧A.h6 B∧F.aN x E f N B=some r) ⟨[],0,none,0,rfl,rfl,J5,h⟩ ?_;rintro W _ _ ⟨N,B,U,V,rfl,rfl,bg,h⟩;rcases W with _|W
 ·exact Vm h
 rw[F.aN]at h;refine Jv 2 ?_;refine J0 4 [(17,.bool (decide (B<(E.length:Int))))] (Jw 1 ?_);refine Vr h ?_ ?_<;>intro hb h
 ·refine V3 2 ?_;refine J4 [1,2,6] [0,1,2] (fun J L=>∃(a3:List D53),∃(A8:Option Addr),∃(c9:Nat),J=[(5,.slice A8 a3.length c9)]∧L=[(489,.own T53 54 A8 c9 a3)]∧F.c2 (F.aN x E W) B a3=some r) ?_ ?_
  ·refine Jv 2 ?_;refine J0 2 [(20,.slice A2_ E.length c3_),(21,A.i B)] ?_;have⟨u,ax,h⟩:=Vx h;refine Ua 1 888 ax fun a4=>?_;intro bh bi;refine Jz [] [888] [.n,.e 0 0] [(24,(A.rae u.1))] ?_;refine J6 889 (cs:=[A.i 0,A.i 0]) Tryz.zeroValue40 fun bj=>?_;refine Vu 889 [] (A.raa u.1) ?_;refine Vb 2 ?_;refine Jz [2,889] [] [.b 0 0,.n,.b 1 0] [(26,.agg #[.slice A0_ x.length c1_]),(28,A.i u.1.1)] ?_;refine Vw 890 [] h (o_aS A0_ c1_ x u.1.1 a4.1.1) (.s 0 .nil) ?_;rintro o - h _ _ ⟨aa,ab,rfl,rfl,hr20,hr21,hr24,hr25,hr26,hr27,hr28,hr29⟩;refine Ve ?_;refine J0 3 [(30,.agg #[A.i o.1.1,A.i o.1.2.1,.slice aa o.1.2.2.1.length ab,A.i o.1.2.2.2.1.1,A.i o.1.2.2.2.1.2.1,.string o.1.2.2.2.1.2.2,.string o.1.2.2.2.2.1,A.i o.1.2.2.2.2.2.1,A.i o.1.2.2.2.2.2.2]),(31,.bool o.2)] ?_;refine J6 930 (cs:=l5a) Tryz.zeroValue84 fun bk=>?_;refine Vu 930 [] [A.i o.1.1,A.i o.1.2.1,.slice aa o.1.2.2.1.length ab,A.i o.1.2.2.2.1.1,A.i o.1.2.2.2.1.2.1,.string o.1.2.2.2.1.2.2,.string o.1.2.2.2.2.1,A.i o.1.2.2.2.2.2.1,A.i o.1.2.2.2.2.2.2] ?_;refine J0 1 [] (Vb 3 ?_);refine Jz [889] [] [.n,.b 0 1,.n] [(34,.bool (decide (u.1.2≠2)))] (Jw 1 ?_);refine Vr h ?_ ?_<;>intro hb h
   ·refine J4 [1,2,6] [0,1,2] (fun J L=>∃(a5:List D53),∃(ac:Option Addr),∃(ad:Nat),J=[(5,.slice ac a5.length ad)]∧L=[(489,.own T53 54 ac ad a5)]∧F.dD (F.aN x E W) B a5=some r) ?_ ?_
    ·refine Jv 1 ?_;refine Jz [930] [] [.n,.b 0 1,.n] [(37,.bool (decide (o.1.2.1≠15)))] (Jw 1 ?_);refine Vr h ?_ ?_<;>intro hb h
     ·refine Vl mixed 16 16 (A.mb 16 0) ?_;refine Vh J3 [] [0,1,2,888,889,890,930] [889,930] [] (A.mb 16 255) 8 [(0,.n),(1,.b 0 0),(2,.n),(5,.b 1 0),(6,.n),(7,.n),(3,.b 1 0),(4,.n)] [(38,.slice U N.length V),(39,(A.rae u.1)),(43,.agg #[A.i o.1.1,A.i o.1.2.1,.slice aa o.1.2.2.1.length ab,A.i o.1.2.2.2.1.1,A.i o.1.2.2.2.1.2.1,.string o.1.2.2.2.1.2.2,.string o.1.2.2.2.2.1,A.i o.1.2.2.2.2.2.1,A.i o.1.2.2.2.2.2.2]),(44,.slice A2_ E.length c3_),(45,A.i B),(42,.agg #[A.i o.1.1,A.i 2])] ?_;have⟨ai,aj,h⟩:=Vx h;refine Vn 1 931 aj fun ay=>?_;intro bl bm az;refine Vf J3 [0,1,2,888,889,890,930] l5d 8 (A.mb 16 511) rfl (fun a w hf hh=>Vj (t:=T41) aj az hf) ?_;refine Vh J3 l5d l5d [] [931] (A.mb 16 2047) 5 [(9,.n),(10,.e 0 2)] [(48,A.i ai.2)] ?_;refine J8 11 ?_;refine Vw 932 [] h (o_bc aa ab o.1 ai.2 hr20 hr21 hr24 hr25 hr26 hr27 hr28 hr29 ay.2) (.s 890 .nil) ?_;rintro y - h _ _ ⟨rfl,rfl,hr42,hr43,hr44,hr45,hr46,hr47,hr48,hr49⟩;refine Ve ?_;refine Vg (A.mb 16 4095) l5d ?_;refine Vh J3 l5d l5d [] [] (A.mb 16 8191) 3 [(12,.n)] [(50,.agg #[A.i u.1.1,A.i u.1.2,A.i o.1.1,A.i 2,A.i y.1,A.i y.2.1,A.i y.2.2.1,A.i y.2.2.2.1,A.i y.2.2.2.2.1,A.i y.2.2.2.2.2.1,A.i y.2.2.2.2.2.2.1,A.i y.2.2.2.2.2.2.2])] ?_;refine J8 13 ?_;refine Vp 972 (ty:=T53) (cs:=[A.i u.1.1,A.i u.1.2,A.i o.1.1,A.i 2,A.i y.1,A.i y.2.1,A.i y.2.2.1,A.i y.2.2.2.1,A.i y.2.2.2.2.1,A.i y.2.2.2.2.2.1,A.i y.2.2.2.2.2.2.1,A.i y.2.2.2.2.2.2.2]) [(u.1,(o.1.1,2),y)] ⟨⟨⟨⟨rfl,a4.1.1⟩,⟨rfl,a4.1.2⟩⟩,⟨⟨rfl,hr20⟩,⟨rfl,(Vd .i64 (2) rfl)⟩⟩,⟨⟨rfl,hr42⟩,⟨rfl,hr43⟩,⟨rfl,hr44⟩,⟨rfl,hr45⟩,⟨⟨rfl,hr46⟩,⟨rfl,hr47⟩,⟨rfl,hr48⟩,⟨rfl,hr49⟩⟩⟩⟩,rfl⟩ (fun bp=>?_) Tryz.zeroValue54 Tryz.sizeOf54
      refine Vg (A.mb 16 16383) l5d ?_;refine J8 14 ?_;have⟨hl53,h⟩:=Vq h;refine V1 (k:=489) [] (Uk (k:=972) rfl) inf54 hl53 fun ak al=>?_;refine Vg (A.mb 16 32767) l5d ?_;refine Vh J3 l5d [0,1,2,489,888,889,890,930,931,972] [] [] (A.mb 16 65535) 0 [(15,.n)] [(5,.slice ak ((N++[(u.1,(o.1.1,2),y)]).length) al)] (J9 ?_);exact Vi ⟨(N++[(u.1,(o.1.1,2),y)]),ak,al,rfl,rfl,h⟩
     refine Vy 1 ?_;exact Vi ⟨N,U,V,rfl,rfl,h⟩
    rintro _ _ ⟨a5,ac,ad,rfl,rfl,h⟩;rw[F.dD]at h;refine Vy 1 ?_;exact Vi ⟨a5,ac,ad,rfl,rfl,h⟩
   refine Jv 3 ?_;refine J0 2 [(54,.slice A2_ E.length c3_),(55,A.i B)] ?_;have⟨am,b0,h⟩:=Vx h;refine Ua 1 973 b0 fun b1=>?_;intro bs bt;refine Jz [] [973] [.n,.e 0 2] [(58,A.i am.2)] ?_;refine Vw 974 [] h (o_aJ am.2 b1.2) .nil ?_;rintro p - h _ _ ⟨rfl,rfl,hr61,hr62,hr63,hr64,hr65,hr66,hr67,hr68,hr69⟩;refine Ve ?_;refine J0 3 [(60,(A.raf p.1)),(61,A.i p.2)] ?_;refine J6 1014 (cs:=l5c) Tryz.zeroValue45 fun bu=>?_;refine Vu 1014 [] (A.rab p.1) ?_;refine J0 1 [] (Vb 2 ?_);refine J0 1 [(12,A.i 0)] (Jw 2 ?_);refine Vo [1,2,6,7,8,10] l5a1 (fun f J L=>∃(X:List D53),∃(I:Int),∃(a6:Option Addr),∃(a7:Nat),J=[(5,.slice a6 X.length a7),(12,A.i I)]∧L=[(489,.own T53 54 a6 a7 X)]∧A.h6 I∧F.br (F.aN x E W) x B u o p f X I=some r) ⟨N,0,U,V,rfl,rfl,J5,h⟩ ?_;rintro ae _ _ ⟨X,I,a6,a7,rfl,rfl,bv,h⟩;rcases ae with _|ae
   ·exact Vm h
   rw[F.br]at h;refine Jv 2 ?_;refine Jz [2] [] [.n,.n,.b 0 0,.n,.n] [(66,.bool (decide (I<(x.length:Int))))] (Jw 1 ?_);refine Vr h ?_ ?_<;>intro hb h
   ·refine Jv 5 ?_;refine J0 1 [(13,A.i 0)] (Jw 2 ?_);refine Vo [1,2,6,7,8,10,12] l5a1 (fun f J L=>∃(O:List D53),∃(z:Int),∃(Y:Option Addr),∃(a2:Nat),J=[(5,.slice Y O.length a2),(13,A.i z)]∧L=[(489,.own T53 54 Y a2 O)]∧A.h6 z∧F.bq (F.br (F.aN x E W) x B u o p ae) x u o p I f O z=some r) ⟨X,0,a6,a7,rfl,rfl,J5,h⟩ ?_;rintro ah _ _ ⟨O,z,Y,a2,rfl,rfl,b2,h⟩;rcases ah with _|ah
    ·exact Vm h
    rw[F.bq]at h;refine Jv 2 ?_;refine Jz [2] [] [.n,.n,.b 0 0,.n] [(69,A.i z),(71,.slice A0_ x.length c1_),(72,A.i I)] ?_;have⟨b3,b4,h⟩:=Vx h;refine V2 0 1079 b4 fun bw=>?_;intro bx bz c0 c1;refine Jz [] [1079] [.n,.e 0 2,.n,.n] [(77,.bool (decide (z<(b3.2.2.1.length:Int))))] (Jw 1 ?_);refine Vr h ?_ ?_<;>intro hb h
    ·refine V3 2 ?_;refine J4 [1,2,6,7,8,10,12,13] l5a1 (fun J L=>∃(a8:List D53),∃(af:Option Addr),∃(ag:Nat),J=[(5,.slice af a8.length ag)]∧L=[(489,.own T53 54 af ag a8)]∧F.dE (F.bq (F.br (F.aN x E W) x B u o p ae) x u o p I ah) z a8=some r) ?_ ?_
     ·refine V3 2 ?_;refine Vl mixed 12 12 (A.mb 12 0) ?_;refine Vh J3 [] l5v [2,930] [] (A.mb 12 1607) 6 [(0,.n),(2,.n),(6,.n),(9,.n),(1,.b 0 0),(10,.b 1 0)] [(82,A.i I),(86,A.i z),(81,.slice A0_ x.length c1_),(90,A.i o.1.1)] ?_;have⟨b5,an,h⟩:=Vx h;refine Uh 0 1081 an fun c4=>?_;intro b6 b7 c5 c6 b9;refine Vf J3 l5v l5e 3 (A.mb 12 1615) rfl (fun a w hf hh=>Vj (t:=T83) an b9 hf) ?_;refine Vh J3 l5e l5e [] [1081] (A.mb 12 1663) 3 [(4,.n),(5,.e 0 2)] [(85,.slice b6 b5.2.2.1.length b7)] ?_;have⟨bb,ao,h⟩:=Vx h;refine Uh 1082 1083 ao fun c7=>?_;intro c8 ca bc;refine Vf J3 l5e l5g 7 (A.mb 12 1791) rfl (fun a w hf hh=>Vj (t:=A.ti) ao bc hf) ?_;refine Vh J3 l5g l5g [] [1083] (A.mb 12 4095) 0 [(8,.e 0 0),(11,.n)] [(91,.bool (decide (bb=o.1.1)))] (J9 ?_);refine Uy 1 ?_;refine Vr h ?_ ?_<;>intro hb h
      ·refine Vl mixed 15 15 (A.mb 15 0) ?_;refine Vh J3 [] l5o [889,1014,2] [] (A.mb 15 1311) 8 [(0,.n),(1,.b 0 0),(2,.n),(4,.n),(8,.n),(10,.b 1 0),(3,.b 2 0)] [(92,.slice Y O.length a2),(93,(A.rae u.1)),(96,A.i I),(100,A.i z),(102,(A.raf p.1)),(95,.slice A0_ x.length c1_)] ?_;have⟨a9,ap,h⟩:=Vx h;refine Uh 0 1084 ap fun bd=>?_;intro cb cc cd ce be;refine Vf J3 l5o l5b 5 (A.mb 15 1343) rfl (fun a w hf hh=>Vj (t:=T83) ap be hf) ?_;refine Vh J3 l5b l5b [] [1084] (A.mb 15 4095) 3 [(6,.n),(7,.e 0 0),(9,.n),(11,.n)] [(103,.agg #[A.i u.1.1,A.i u.1.2,A.i a9.1,A.i z,A.i p.1.1,A.i p.1.2.1,A.i p.1.2.2.1,A.i p.1.2.2.2.1,A.i p.1.2.2.2.2.1,A.i p.1.2.2.2.2.2.1,A.i p.1.2.2.2.2.2.2.1,A.i p.1.2.2.2.2.2.2.2])] ?_;refine J8 12 ?_;refine Vp 1086 (ty:=T53) (cs:=[A.i u.1.1,A.i u.1.2,A.i a9.1,A.i z,A.i p.1.1,A.i p.1.2.1,A.i p.1.2.2.1,A.i p.1.2.2.2.1,A.i p.1.2.2.2.2.1,A.i p.1.2.2.2.2.2.1,A.i p.1.2.2.2.2.2.2.1,A.i p.1.2.2.2.2.2.2.2]) [(u.1,(a9.1,z),p.1)] ⟨⟨⟨⟨rfl,a4.1.1⟩,⟨rfl,a4.1.2⟩⟩,⟨⟨rfl,bd.1⟩,⟨rfl,b2⟩⟩,⟨⟨rfl,hr61⟩,⟨rfl,hr62⟩,⟨rfl,hr63⟩,⟨rfl,hr64⟩,⟨⟨rfl,hr65⟩,⟨rfl,hr66⟩,⟨rfl,hr67⟩,⟨rfl,hr68⟩⟩⟩⟩,rfl⟩ (fun cf=>?_) Tryz.zeroValue54 Tryz.sizeOf54
       refine Vg (A.mb 15 8191) l5b ?_;refine J8 13 ?_;have⟨hl119,h⟩:=Vq h;refine V1 (k:=489) [] (Uk (k:=1086) rfl) inf54 hl119 fun aq ar=>?_;refine Vg (A.mb 15 16383) l5b ?_;refine Vh J3 l5b [0,1,2,489,889,890,930,1014,1079,1080,1081,1082,1083,1084,1085,1086] [] [] (A.mb 15 32767) 0 [(14,.n)] [(5,.slice aq ((O++[(u.1,(a9.1,z),p.1)]).length) ar)] (J9 ?_);refine A.ee 1 ?_;exact Vi ⟨(O++[(u.1,(a9.1,z),p.1)]),aq,ar,rfl,rfl,h⟩
      refine Vy 2 ?_;exact Vi ⟨O,Y,a2,rfl,rfl,h⟩
     rintro _ _ ⟨a8,af,ag,rfl,rfl,h⟩;rw[F.dE]at h;refine Jv 0 ?_;have⟨au,h⟩:=Vq h;refine Ub 3 [Z.R64 (z+1)] [(13,A.i (z+1))] au (Jy ?_);exact Vi ⟨_,Qh _,⟨a8,(z+1),af,ag,rfl,rfl,(J2 au),h⟩⟩
    refine Jv 3 ?_;have⟨av,h⟩:=Vq h;refine Ub 3 [Z.R64 (I+1)] [(12,A.i (I+1))] av (Jy ?_);exact Vi ⟨_,Qh _,⟨O,(I+1),Y,a2,rfl,rfl,(J2 av),h⟩⟩
   refine Vy 2 ?_;exact Vi ⟨X,a6,a7,rfl,rfl,h⟩
  rintro _ _ ⟨a3,A8,c9,rfl,rfl,h⟩;rw[F.c2]at h;refine Jv 0 ?_;have⟨aw,h⟩:=Vq h;refine Ub 3 [Z.R64 (B+1)] [(6,A.i (B+1))] aw (Jy ?_);exact Vi ⟨_,Qh _,⟨a3,(B+1),A8,c9,rfl,rfl,(J2 aw),h⟩⟩
 refine Jv 3 ?_;refine J0 2 [(4,.slice U N.length V)] (Jw 1 ?_);obtain rfl:=J7 h;exact Va [(0,489)] ⟨U,V,rfl,rfl⟩
def F.d0 (a:Int):Option Int:=if(bif decide (a<1)then true else decide ((16:Int)<a))=true then(some (-1))else(if a=1 then(some 0)else(if(bif decide (a=5)then true else decide (a=9))=true then(some 2)else(some 1)))
theorem o_an (e:Int)(k:A.h6 e)(r:Int)(a:F.d0 e=some r):
    A.Ct Tryz.prog 157 [A.i e] [] [] (fun v H'=>v=A.i r∧H'=[]∧A.h6 r):=by
 refine J1 Tryz.func157 rfl Tryz.ntmps157 rfl fun o p=>?_;rw[F.d0]at a;refine Jv 1 ?_;refine J0 1 [] (Vb 4 ?_);refine Jz [] [] [.n,.n,.n,.sy .n,.sy .n,.pk,.n] [(3,.bool (bif decide (e<1)then true else decide ((16:Int)<e)))] (Jw 1 ?_);refine Ud a ?_ ?_<;>intro h a
 ·refine Jv 1 ?_;refine J0 1 [(2,A.i (-1))] (Jw 1 ?_);obtain rfl:=J7 a;exact Va [] ⟨rfl,rfl,(Vd .i64 (-1) rfl)⟩
 refine Jv 1 ?_;refine J0 3 [(10,.bool (decide (e=1)))] (Jw 1 ?_);refine Vr a ?_ ?_<;>intro h a
 ·refine Jv 1 ?_;refine J0 1 [(2,A.i 0)] (Jw 1 ?_);obtain rfl:=J7 a;exact Va [] ⟨rfl,rfl,J5⟩
 refine Jv 1 ?_;refine Jz [] [] [.n,.n,.n,.sy .n,.sy .n,.pk,.n] [(13,.bool (bif decide (e=5)then true else decide (e=9)))] (Jw 1 ?_);refine Ud a ?_ ?_<;>intro h a
 ·refine Jv 1 ?_;refine J0 1 [(2,A.i 2)] (Jw 1 ?_);obtain rfl:=J7 a;exact Va [] ⟨rfl,rfl,(Vd .i64 (2) rfl)⟩
 refine Jv 4 ?_;refine J0 1 [(2,A.i 1)] (Jw 1 ?_);obtain rfl:=J7 a;exact Va [] ⟨rfl,rfl,(Vd .i64 (1) rfl)⟩
def F.dG (e:Int→Option (Int×Bool))(h:D23)(a:Int)(k:Bool):Option (Int×Bool):=if k=true then((A.ix h a).bind fun o=>(some (o.1,true)))else(A.gd (Z.R64 (a+1)) (e (a+1)))
def F.bR (a:D23)(h:Int)(k:ByteArray):Nat→Int→Option (Int×Bool)
 |0,_=>none
 |f+1,e=>if e<(a.length:Int)then((A.ix a e).bind fun o=>(if o.2.1=h then((A.ix a e).bind fun p=>(F.dG (F.bR a h k f) a e (decide (p.2.2.2.2.1=k))))else(F.dG (F.bR a h k f) a e false)))else(some (0,false))
def F.eS (a:D23)(e:Int)(h:ByteArray):Option (Int×Bool):=F.bR a e h A.FU 0
theorem o_br(h:D23)(p:Int)(o:ByteArray)(O:A.h6 p)(U:o.size≤maxLen)(r:Int×Bool)(a:F.eS h p o=some r):
    A.Ct Tryz.prog 158 [.agg #[.slice A0_ h.length c1_],A.i p,.string o] [(0,.sh (.slice T83) [.slice A0_ h.length c1_] h)] [] (fun v H'=>v=.tuple #[A.i r.1,.bool r.2]∧H'=[]∧A.h6 r.1):=by
 refine J1 Tryz.func158 rfl Tryz.ntmps158 rfl fun V W=>?_;rw[F.eS]at a;refine Jv 1 ?_;refine Vc 1 (cs:=[.slice A0_ h.length c1_]) fun X=>?_;refine J0 2 [] (Vb 3 ?_);refine J0 1 [(8,A.i 0)] (Jw 2 ?_);refine Vo [1,2,3] [0,1] (fun f s t=>∃(k:Int),s=[(8,A.i k)]∧t=[]∧A.h6 k∧F.bR h p o f k=some r) ⟨0,rfl,rfl,J5,a⟩ ?_;rintro u _ _ ⟨k,rfl,rfl,Y,a⟩;rcases u with _|u
 ·exact Vm a
 rw[F.bR]at a;refine Jv 2 ?_;refine Jz [1] [] [.n,.n,.b 0 0,.n,.n] [(13,.bool (decide (k<(h.length:Int))))] (Jw 1 ?_);refine Vr a ?_ ?_<;>intro x a
 ·refine V3 4 ?_;refine J4 [1,2,3,8] [0,1] (fun s t=>∃(w:Bool),s=[(33,.bool w)]∧t=[]∧F.dG (F.bR h p o u) h k w=some r) ?_ ?_
  ·refine Jv 0 ?_;refine Jz [1] [] [.n,.b 0 0,.n] [(17,.slice A0_ h.length c1_),(18,A.i k)] ?_;have⟨B,E,a⟩:=Vx a;refine V2 0 14 E fun a3=>?_;intro a4 a5 a6 a7;refine Jz [] [14] [.n,.e 0 1,.n,.n,.n] [(24,.bool (decide (B.2.1=p)))] ?_;refine V6 (j:=24) rfl a ?_ ?_<;>intro x a
   ·refine Jz [1] [] [.on .n,.on (.b 0 0),.on .n] [(26,.slice A0_ h.length c1_),(27,A.i k)] ?_;refine Vk (dj:=24) rfl rfl ?_;have⟨y,I,a⟩:=Vx a;refine V2 0 16 I fun a8=>?_;intro a9 aa ab ac;refine Jz [] [16] [.on .n,.on (.e 0 6),.on .n,.on .n,.n] [(33,.bool (decide (y.2.2.2.2.1=o)))] (Jy ?_);exact Vi ⟨(decide (y.2.2.2.2.1=o)),rfl,rfl,a⟩
   refine Jz [] [] [.off,.off,.off,.off,.off,.off,.off,.off,.n] [(33,.bool false)] (Jy ?_);exact Vi ⟨false,rfl,rfl,a⟩
  rintro _ _ ⟨w,rfl,rfl,a⟩;rw[F.dG]at a;refine Ud a ?_ ?_<;>intro x a
  ·refine Jv 1 ?_;refine Jz [1] [] [.n,.b 0 0,.n] [(35,.slice A0_ h.length c1_),(36,A.i k)] ?_;have⟨J,L,a⟩:=Vx a;refine V2 0 18 L fun N=>?_;intro A9 c10 ad ae;refine Jz [] [18] [.n,.e 0 0,.n,.n] [(6,A.i J.1),(7,.bool true)] (Jw 1 ?_);obtain rfl:=J7 a;exact V4 [] ⟨rfl,rfl,N.1⟩
  refine Jv 3 ?_;have⟨z,a⟩:=Vq a;refine Ub 3 [Z.R64 (k+1)] [(8,A.i (k+1))] z (Jy ?_);exact Vi ⟨_,Qh _,⟨(k+1),rfl,rfl,(J2 z),a⟩⟩
 refine Jv 3 ?_;refine J0 2 [(6,A.i 0),(7,.bool false)] (Jw 1 ?_);obtain rfl:=J7 a;exact V4 [] ⟨rfl,rfl,J5⟩
def F.d1 (a:UInt8):Option Bool:=if(bif decide ((97:Int)≤(a.toNat:Int))then decide ((a.toNat:Int)≤122)else false)=true then(some true)else(some (bif decide ((65:Int)≤(a.toNat:Int))then decide ((a.toNat:Int)≤90)else false))
theorem o_aD (a:UInt8)(r:Bool)(e:F.d1 a=some r):
    A.Ct Tryz.prog 180 [.int .u8 (a.toNat:Int)] [] [] (fun v H'=>v=.bool r∧H'=[]):=by
 refine J1 Tryz.func180 rfl Tryz.ntmps180 rfl fun h k=>?_;rw[F.d1]at e;refine Jv 1 ?_;refine J0 1 [] (Vb 2 ?_);refine Jz [] [] [.n,.n,.n,.sy .n,.sy .n,.pk,.n] [(9,.bool (bif decide ((97:Int)≤(a.toNat:Int))then decide ((a.toNat:Int)≤122)else false))] ?_;refine Vs (j:=9) rfl e (fun e=>?_) (fun e=>?_)
 ·refine Jz [] [] [.off,.off,.off,.off,.off,.off,.n,.n] [(2,.bool true)] (Jw 1 ?_);obtain rfl:=J7 e;exact Va [] ⟨rfl,rfl⟩
 refine Jz [] [] [.on .n,.on .n,.on .n,.sy .n,.sy .n,.on .pk,.n,.n] [(2,.bool (bif decide ((65:Int)≤(a.toNat:Int))then decide ((a.toNat:Int)≤90)else false))] (Jw 1 ?_);obtain rfl:=J7 e;exact Va [] ⟨rfl,rfl⟩
def F.eH (a:UInt8):Option Bool:=some (bif decide ((48:Int)≤(a.toNat:Int))then decide ((a.toNat:Int)≤57)else false)
theorem o_bs (a:UInt8)(r:Bool)(e:F.eH a=some r):
    A.Ct Tryz.prog 181 [.int .u8 (a.toNat:Int)] [] [] (fun v H'=>v=.bool r∧H'=[]):=by
 refine J1 Tryz.func181 rfl Tryz.ntmps181 rfl fun h k=>?_;rw[F.eH]at e;refine Jv 1 ?_;refine J0 1 [] (Vb 2 ?_);refine Jz [] [] [.n,.n,.n,.sy .n,.sy .n,.pk,.n] [(2,.bool (bif decide ((48:Int)≤(a.toNat:Int))then decide ((a.toNat:Int)≤57)else false))] (Jw 1 ?_);obtain rfl:=J7 e;exact Va [] ⟨rfl,rfl⟩
def F.dt (e:Int→Option Bool)(a:Int)(h:Bool):Option Bool:=if h=true then(some false)else(A.gd (Z.R64 (a+1)) (e (a+1)))
def F.bL (a:ByteArray):Nat→Int→Option Bool
 |0,_=>none
 |f+1,e=>if e<(a.size:Int)then((A.ix a.data.toList e).bind fun h=>((F.d1 h).bind fun k=>(if(!k)=true then((A.ix a.data.toList e).bind fun o=>((F.eH o).bind fun p=>(F.dt (F.bL a f) e (!p))))else(F.dt (F.bL a f) e false))))else(some true)
def F.cR (a:ByteArray)(e:Bool):Option Bool:=if e=true then(some false)else(F.bL a A.FU 0)
def F.eP (a:ByteArray):Option Bool:=if(bif decide (a=(ByteArray.mk #[]))then true else decide ((16:Int)<(a.size:Int)))=true then(F.cR a true)else((A.ix a.data.toList 0).bind fun e=>((F.d1 e).bind fun h=>(F.cR a (!h))))
theorem o_bI (e:ByteArray)(O:e.size≤maxLen)(r:Bool)(a:F.eP e=some r):
    A.Ct Tryz.prog 159 [.string e] [] [] (fun v H'=>v=.bool r∧H'=[]):=by
 refine J1 Tryz.func159 rfl Tryz.ntmps159 rfl fun U V=>?_;rw[F.eP]at a;refine Jv 1 ?_;refine J0 1 [] (Jw 2 ?_);refine J4 [0] [] (fun k o=>∃(p:Bool),k=[(16,.bool p)]∧o=[]∧F.cR e p=some r) ?_ ?_
 ·refine Jv 0 ?_;refine Jz [] [] [.n,.n,.n,.sy .n,.sy .n,.sy .n,.pk,.n] [(11,.bool (bif decide (e=(ByteArray.mk #[]))then true else decide ((16:Int)<(e.size:Int))))] ?_;refine Vs (j:=11) rfl a (fun a=>?_) (fun a=>?_)
  ·refine Jz [] [] [.off,.off,.off,.off,.n] [(16,.bool true)] (Jy ?_);exact Vi ⟨true,rfl,rfl,a⟩
  refine Jz [] [] [.on .n] [(12,.string e)] ?_;refine Vk (dj:=11) rfl rfl ?_;have⟨z,B,a⟩:=Vx a;refine U0 B ?_;refine Vk (dj:=11) rfl rfl ?_;refine Vw 0 [] a (o_aD z) .nil ?_;rintro u - a _ _ ⟨rfl,rfl⟩;refine Ve ?_;refine Jz [] [] [.on .n,.n] [(16,.bool (!u))] (Jy ?_);exact Vi ⟨(!u),rfl,rfl,a⟩
 rintro _ _ ⟨p,rfl,rfl,a⟩;rw[F.cR]at a;refine Ud a ?_ ?_<;>intro w a
 ·refine Jv 1 ?_;refine J0 1 [(2,.bool false)] (Jw 1 ?_);obtain rfl:=J7 a;exact Va [] ⟨rfl,rfl⟩
 refine Jv 4 ?_;refine J0 1 [(3,A.i 0)] (Jw 2 ?_);refine Vo [0] [] (fun f k o=>∃(h:Int),k=[(3,A.i h)]∧o=[]∧A.h6 h∧F.bL e f h=some r) ⟨0,rfl,rfl,J5,a⟩ ?_;rintro s _ _ ⟨h,rfl,rfl,W,a⟩;rcases s with _|s
 ·exact Vm a
 rw[F.bL]at a;refine Jv 2 ?_;refine J0 4 [(20,.bool (decide (h<(e.size:Int))))] (Jw 1 ?_);refine Vr a ?_ ?_<;>intro w a
 ·refine V3 4 ?_;refine J4 [0,3] [] (fun k o=>∃(t:Bool),k=[(34,.bool t)]∧o=[]∧F.dt (F.bL e s) h t=some r) ?_ ?_
  ·refine Jv 0 ?_;refine J0 2 [(23,.string e),(24,A.i h)] ?_;have⟨E,I,a⟩:=Vx a;refine U0 I ?_;refine Vw 200 [] a (o_aD E) .nil ?_;rintro J - a _ _ ⟨rfl,rfl⟩;refine Ve ?_;refine J0 2 [(28,.bool (!J))] ?_;refine Vs (j:=28) rfl a (fun a=>?_) (fun a=>?_)
   ·refine Jz [] [] [.on .n,.on .n] [(29,.string e),(30,A.i h)] ?_;refine Vk (dj:=28) rfl rfl ?_;have⟨L,N,a⟩:=Vx a;refine U0 N ?_;refine Vk (dj:=28) rfl rfl ?_;refine Vw 240 [] a (o_bs L) .nil ?_;rintro x - a _ _ ⟨rfl,rfl⟩;refine Ve ?_;refine Jz [] [] [.on .n,.n] [(34,.bool (!x))] (Jy ?_);exact Vi ⟨(!x),rfl,rfl,a⟩
   refine Jz [] [] [.off,.off,.off,.off,.off,.n] [(34,.bool false)] (Jy ?_);exact Vi ⟨false,rfl,rfl,a⟩
  rintro _ _ ⟨t,rfl,rfl,a⟩;rw[F.dt]at a;refine Ud a ?_ ?_<;>intro w a
  ·refine Jv 1 ?_;refine J0 1 [(2,.bool false)] (Jw 1 ?_);obtain rfl:=J7 a;exact Va [] ⟨rfl,rfl⟩
  refine Jv 3 ?_;have⟨y,a⟩:=Vq a;refine Ub 3 [Z.R64 (h+1)] [(3,A.i (h+1))] y (Jy ?_);exact Vi ⟨_,Qh _,⟨(h+1),rfl,rfl,(J2 y),a⟩⟩
 refine Jv 3 ?_;refine J0 1 [(2,.bool true)] (Jw 1 ?_);obtain rfl:=J7 a;exact Va [] ⟨rfl,rfl⟩
def F.d2 (e:D23)(a:D83):Option Bool:=if(bif decide (a.2.1≠1)then decide (a.2.1≠15)else false)=true then(some (decide (a.2.2.2.2.1=(ByteArray.mk #[]))))else((F.eS e a.2.1 a.2.2.2.2.1).bind fun h=>((F.eP a.2.2.2.2.1).bind fun k=>(some (bif k then decide (h.1=a.1)else false))))
def F.bA (e:D23)(a:D83)(h:Bool):Option Bool:=if h=true then(some false)else(if a.2.1=14 then(if(bif bif bif decide (a.2.2.2.2.2.1<1)then true else decide ((8:Int)<a.2.2.2.2.2.1)then true else decide (a.2.2.2.2.2.2<1)then true else decide ((4:Int)<a.2.2.2.2.2.2))=true then(some false)else(F.d2 e a))else(if(bif decide (a.2.2.2.2.2.1≠0)then true else decide (a.2.2.2.2.2.2≠0))=true then(some false)else(F.d2 e a)))
def F.eY (e:D23)(h:Int):Option Bool:=(A.ix e h).bind fun a=>(if(bif decide (a.1<1)then true else decide ((255:Int)<a.1))=true then(F.bA e a true)else(if(0:Int)<h then(A.gd (Z.R64 (h-1)) ((A.ix e (h-1)).bind fun k=>(if a.1≤k.1 then(F.bA e a true)else((F.d0 a.2.1).bind fun o=>(if o<0 then(F.bA e a true)else((F.d0 a.2.1).bind fun p=>(F.bA e a (decide ((a.2.2.1.length:Int)≠p)))))))))else((F.d0 a.2.1).bind fun s=>(if s<0 then(F.bA e a true)else((F.d0 a.2.1).bind fun t=>(F.bA e a (decide ((a.2.2.1.length:Int)≠t))))))))
theorem o_bT(o:D23)(u:Int)(a4:A.h6 u)(r:Bool)(h:F.eY o u=some r):
    A.Ct Tryz.prog 123 [.agg #[.slice A0_ o.length c1_],A.i u] [(0,.sh (.slice T83) [.slice A0_ o.length c1_] o)] [] (fun v H'=>v=.bool r∧H'=[]):=by
 refine J1 Tryz.func123 rfl Tryz.ntmps123 rfl fun w0 F0=>?_;rw[F.eY]at h;refine Jv 1 ?_;refine Vc 1 (cs:=[.slice A0_ o.length c1_]) fun g1=>?_;refine J0 1 [] (Vb 2 ?_);refine Jz [1] [] [.n,.b 0 0,.n] [(9,.slice A0_ o.length c1_),(10,A.i u)] ?_;have⟨k,U,h⟩:=Vx h;refine V2 0 2 U fun x=>?_;intro E I b7 o8;refine Jz [] [2] [.e 0 0] [(12,.agg #[A.i k.1,A.i k.2.1,.slice E k.2.2.1.length I,A.i k.2.2.2.1.1,A.i k.2.2.2.1.2.1,.string k.2.2.2.1.2.2,.string k.2.2.2.2.1,A.i k.2.2.2.2.2.1,A.i k.2.2.2.2.2.2])] ?_;refine J6 4 (cs:=l5a) Tryz.zeroValue84 fun g9=>?_;refine Vu 4 [] [A.i k.1,A.i k.2.1,.slice E k.2.2.1.length I,A.i k.2.2.2.1.1,A.i k.2.2.2.1.2.1,.string k.2.2.2.1.2.2,.string k.2.2.2.2.1,A.i k.2.2.2.2.2.1,A.i k.2.2.2.2.2.2] ?_;refine Jw 2 ?_;refine J4 [2,5] [0,1,3,4] (fun y z=>∃(B:Bool),y=[(51,.bool B)]∧z=[]∧F.bA o k B=some r) ?_ ?_
 ·refine A.AX.drF mixed 39 39 [0,1,2,4,8,24,40,72,136,256,768,1280,2048,6144,2048,18432,2048,67584,165888,264192,526336,1058816,2099456,4194560,8390656,16777216,50331648,83886080,150994944,285212672,671088640,1073741824,3221225472,5368709120,1073741824,18253611008,35433480192,78383153152,138512695296] [0,1,2,4,8,24,40,72,128,256,768,1280,2048,6144,2048,18432,2048,67584,165888,264192,526336,1058816,2099456,4194560,8388608,16777216,50331648,83886080,150994944,285212672,536870912,1073741824,3221225472,5368709120,1073741824,18253611008,35433480192,78383153152,138512695296] fun hT16=>?_;refine A.AH.qF hT16 J3 [] [0,1,2,3,4] [4] [] 0 511 30 [(0,.n),(1,.b 0 0),(2,.n),(3,.n),(4,.sy .n),(5,.sy (.b 0 0)),(6,.sy .n),(7,.pk),(8,.n)] [21] [] [(21,.bool (bif decide (k.1<1)then true else decide ((255:Int)<k.1)))] trivial ?_;refine A.AH.cnd (j:=21) rfl h (fun h=>?_) (fun h=>?_)
  ·refine A.AH.qF hT16 J3 [0,1,2,3,4] [0,1,2,3,4] [] [] 511 549755813887 0 [(9,.off),(10,.off),(11,.off),(12,.off),(14,.off),(16,.off),(13,.off),(15,.off),(17,.off),(18,.off),(19,.off),(20,.off),(21,.off),(22,.off),(23,.n),(24,.n),(25,.off),(26,.off),(27,.off),(28,.off),(29,.n),(30,.n),(31,.off),(34,.off),(32,.off),(35,.off),(33,.off),(36,.off),(37,.off),(38,.n)] [51] [] [(51,.bool true)] trivial ?_;refine A.AH.doneF hT16 ?_;exact Vi ⟨true,rfl,rfl,h⟩
  refine A.AH.qF hT16 J3 [0,1,2,3,4] [0,1,2,3,4] [] [] 511 4095 27 [(9,.on .n),(10,.on .n),(11,.on .n)] [24] [] [(24,.bool (decide ((0:Int)<u)))] trivial ?_;refine Ui (j:=24) rfl h ?_ ?_<;>intro p h
  ·have⟨V,h⟩:=Vq h;refine A.AH.qF hT16 J3 [0,1,2,3,4] [0,1,2,3,4] [4,1] [] 4095 262143 21 [(12,.on .n),(14,.on .n),(16,.on .n),(13,.on (.b 0 0)),(15,.on (.b 1 0)),(17,.on .n)] [26,28,30] [Z.R64 (u-1)] [(26,A.i k.1),(28,.slice A0_ o.length c1_),(30,A.i (u-1))] V ?_;have⟨W,J,h⟩:=Vx h;refine Uh 0 5 J fun a5=>?_;intro a6 a7 a8 a9 X;refine Ue J3 l5n [0,1,2,3,4,5,6] 18 (A.mb 39 524287) (dj:=24) rfl (fun a w hf hh=>Vj (t:=T83) J X hf) ?_;refine A.AH.qF hT16 J3 [0,1,2,3,4,5,6] [0,1,2,3,4,5,6] [] [5] 524287 33554431 14 [(19,.on .n),(20,.on (.e 0 0)),(21,.on .n),(22,.on .n),(23,.n),(24,.n)] [37] [] [(37,.bool (decide (k.1≤W.1)))] trivial ?_;refine Ui (j:=37) rfl h ?_ ?_<;>intro p h
   ·refine A.AH.qF hT16 J3 [0,1,2,3,4,5,6] [0,1,2,3,4,5,6] [] [] 33554431 549755813887 0 [(25,.off),(26,.off),(27,.off),(28,.off),(29,.n),(30,.n),(31,.off),(34,.off),(32,.off),(35,.off),(33,.off),(36,.off),(37,.off),(38,.n)] [51] [] [(51,.bool true)] trivial ?_;refine A.AH.doneF hT16 ?_;exact Vi ⟨true,rfl,rfl,h⟩
   refine A.AH.qF hT16 J3 [0,1,2,3,4,5,6] [0,1,2,3,4,5,6] [4] [] 33554431 134217727 12 [(25,.on .n),(26,.on (.b 0 1))] [39] [] [(39,A.i k.2.1)] trivial ?_;refine A.AH.oneF hT16 27 ?_;refine Vk (dj:=37) rfl rfl ?_;refine Vw 7 [] h (o_an k.2.1 x.2.1) .nil ?_;rintro Y - h _ _ ⟨rfl,rfl,hr28⟩;refine Ve ?_;refine A.AH.nxF 268435455 [0,1,2,3,4,5,6] ?_;refine A.AH.qF hT16 J3 [0,1,2,3,4,5,6] [0,1,2,3,4,5,6] [] [] 268435455 2147483647 8 [(28,.on .n),(29,.n),(30,.n)] [43] [] [(43,.bool (decide (Y<0)))] trivial ?_;refine Ui (j:=43) rfl h ?_ ?_<;>intro p h
   ·refine A.AH.qF hT16 J3 [0,1,2,3,4,5,6] [0,1,2,3,4,5,6] [] [] 2147483647 549755813887 0 [(31,.off),(34,.off),(32,.off),(35,.off),(33,.off),(36,.off),(37,.off),(38,.n)] [51] [] [(51,.bool true)] trivial ?_;refine A.AH.doneF hT16 ?_;exact Vi ⟨true,rfl,rfl,h⟩
   refine A.AH.qF hT16 J3 [0,1,2,3,4,5,6] [0,1,2,3,4,5,6] [4] [] 2147483647 68719476735 3 [(31,.on .n),(34,.on .n),(32,.on (.b 0 2)),(35,.on (.b 0 1)),(33,.on .n)] [48,46] [] [(48,A.i k.2.1),(46,A.i (k.2.2.1.length:Int))] trivial ?_;refine A.AH.oneF hT16 36 ?_;refine Vk (dj:=43) rfl rfl ?_;refine Vw 47 [] h (o_an k.2.1 x.2.1) .nil ?_;rintro L - h _ _ ⟨rfl,rfl,hr31⟩;refine Ve ?_;refine A.AH.nxF 137438953471 [0,1,2,3,4,5,6] ?_;refine A.AH.qF hT16 J3 [0,1,2,3,4,5,6] [0,1,2,3,4,5,6] [] [] 137438953471 549755813887 0 [(37,.on .n),(38,.n)] [51] [] [(51,.bool (decide ((k.2.2.1.length:Int)≠L)))] trivial ?_;refine A.AH.doneF hT16 ?_;exact Vi ⟨(decide ((k.2.2.1.length:Int)≠L)),rfl,rfl,h⟩
  refine A.AH.qF hT16 J3 [0,1,2,3,4] [0,1,2,3,4] [4] [] 4095 134217727 12 [(12,.off),(14,.off),(16,.off),(13,.off),(15,.off),(17,.off),(18,.off),(19,.off),(20,.off),(21,.off),(22,.on .n),(23,.n),(24,.n),(25,.on .n),(26,.on (.b 0 1))] [37,39] [] [(37,.bool false),(39,A.i k.2.1)] trivial ?_;refine A.AH.oneF hT16 27 ?_;refine Vk (dj:=37) rfl rfl ?_;refine Vw 87 [] h (o_an k.2.1 x.2.1) .nil ?_;rintro a2 - h _ _ ⟨rfl,rfl,hr34⟩;refine Ve ?_;refine A.AH.nxF 268435455 [0,1,2,3,4] ?_;refine A.AH.qF hT16 J3 [0,1,2,3,4] [0,1,2,3,4] [] [] 268435455 2147483647 8 [(28,.on .n),(29,.n),(30,.n)] [43] [] [(43,.bool (decide (a2<0)))] trivial ?_;refine Ui (j:=43) rfl h ?_ ?_<;>intro p h
  ·refine A.AH.qF hT16 J3 [0,1,2,3,4] [0,1,2,3,4] [] [] 2147483647 549755813887 0 [(31,.off),(34,.off),(32,.off),(35,.off),(33,.off),(36,.off),(37,.off),(38,.n)] [51] [] [(51,.bool true)] trivial ?_;refine A.AH.doneF hT16 ?_;exact Vi ⟨true,rfl,rfl,h⟩
  refine A.AH.qF hT16 J3 [0,1,2,3,4] [0,1,2,3,4] [4] [] 2147483647 68719476735 3 [(31,.on .n),(34,.on .n),(32,.on (.b 0 2)),(35,.on (.b 0 1)),(33,.on .n)] [48,46] [] [(48,A.i k.2.1),(46,A.i (k.2.2.1.length:Int))] trivial ?_;refine A.AH.oneF hT16 36 ?_;refine Vk (dj:=43) rfl rfl ?_;refine Vw 127 [] h (o_an k.2.1 x.2.1) .nil ?_;rintro N - h _ _ ⟨rfl,rfl,hr37⟩;refine Ve ?_;refine A.AH.nxF 137438953471 [0,1,2,3,4] ?_;refine A.AH.qF hT16 J3 [0,1,2,3,4] [0,1,2,3,4] [] [] 137438953471 549755813887 0 [(37,.on .n),(38,.n)] [51] [] [(51,.bool (decide ((k.2.2.1.length:Int)≠N)))] trivial ?_;refine A.AH.doneF hT16 ?_;exact Vi ⟨(decide ((k.2.2.1.length:Int)≠N)),rfl,rfl,h⟩
 rintro _ _ ⟨B,rfl,rfl,h⟩;rw[F.bA]at h;refine Ud h ?_ ?_<;>intro p h
 ·refine Jv 1 ?_;refine J0 1 [(4,.bool false)] (Jw 1 ?_);obtain rfl:=J7 h;exact Va [] ⟨rfl,rfl⟩
 refine V3 2 ?_;refine J4 [2,5] [0,1,3,4] (fun y z=>y=[]∧z=[]∧F.d2 o k=some r) ?_ ?_
 ·refine Jv 1 ?_;refine Jz [4] [] [.n,.b 0 1,.n] [(54,.bool (decide (k.2.1=14)))] (Jw 1 ?_);refine Vr h ?_ ?_<;>intro p h
  ·refine Jv 1 ?_;refine Jz [4] [] [.n,.b 0 7,.n,.n,.sy .n,.sy (.b 0 7),.sy .n,.pk,.n,.sy .n,.sy (.b 0 8),.sy .n,.pk,.n,.sy .n,.sy (.b 0 8),.sy .n,.pk] [(72,.bool (bif bif bif decide (k.2.2.2.2.2.1<1)then true else decide ((8:Int)<k.2.2.2.2.2.1)then true else decide (k.2.2.2.2.2.2<1)then true else decide ((4:Int)<k.2.2.2.2.2.2)))] (Jw 1 ?_);refine Ud h ?_ ?_<;>intro p h
   ·refine Jv 1 ?_;refine J0 1 [(4,.bool false)] (Jw 1 ?_);obtain rfl:=J7 h;exact Va [] ⟨rfl,rfl⟩
   refine Vy 1 ?_;exact Vi ⟨rfl,rfl,h⟩
  refine Jv 1 ?_;refine Jz [4] [] [.n,.b 0 7,.n,.n,.sy .n,.sy (.b 0 8),.sy .n,.pk] [(80,.bool (bif decide (k.2.2.2.2.2.1≠0)then true else decide (k.2.2.2.2.2.2≠0)))] (Jw 1 ?_);refine Ud h ?_ ?_<;>intro p h
  ·refine Jv 1 ?_;refine J0 1 [(4,.bool false)] (Jw 1 ?_);obtain rfl:=J7 h;exact Va [] ⟨rfl,rfl⟩
  refine Vy 1 ?_;exact Vi ⟨rfl,rfl,h⟩
 rintro _ _ ⟨rfl,rfl,h⟩;rw[F.d2]at h;refine Jv 2 ?_;refine Jz [4] [] [.n,.b 0 1,.n,.n,.sy .n,.sy (.b 0 1),.sy .n,.pk] [(88,.bool (bif decide (k.2.1≠1)then decide (k.2.1≠15)else false))] (Jw 1 ?_);refine Ud h ?_ ?_<;>intro p h
 ·refine Jv 1 ?_;refine Jz [4] [] [.n,.b 0 6,.n,.n] [(4,.bool (decide (k.2.2.2.2.1=(ByteArray.mk #[]))))] (Jw 1 ?_);obtain rfl:=J7 h;exact Va [] ⟨rfl,rfl⟩
 refine Jv 3 ?_;refine Jz [1,4] [] [.b 0 0,.n,.b 1 1,.n,.b 1 6] [(93,.agg #[.slice A0_ o.length c1_]),(95,A.i k.2.1),(97,.string k.2.2.2.2.1)] ?_;refine Vw 167 [] h (o_br A0_ c1_ o k.2.1 k.2.2.2.2.1 x.2.1 x.2.2.2.2.1) (.s 0 .nil) ?_;rintro O - h _ _ ⟨rfl,rfl,hr13⟩;refine Ve ?_;refine J0 5 [(6,A.i O.1)] (Vb 2 ?_);refine Jz [4] [] [.n,.b 0 6] [(102,.string k.2.2.2.2.1)] ?_;refine Vw 207 [] h (o_bI k.2.2.2.2.1 x.2.2.2.2.1) .nil ?_;rintro a3 - h _ _ ⟨rfl,rfl⟩;refine Ve ?_;refine Jz [4] [] [.n,.sy .n,.sy .n,.sy (.b 0 0),.sy .n,.pk,.n] [(4,.bool (bif a3 then decide (O.1=k.1)else false))] (Jw 1 ?_);obtain rfl:=J7 h;exact Va [] ⟨rfl,rfl⟩
def F.ez (h:Int):Nat→(List Int)→Int→Option (List Int)
 |0,_,_=>none
 |f+1,e,a=>if a≤h then(A.gd ((List.length (α:=Int) e+List.length (α:=Int) [a])*8≤140737488355328) (A.gd (Z.R64 (a+1)) ((F.ez h f) (e++[a]) (a+1))))else(some e)
def F.cf (a:Int)(e:Int):Option (List Int):=F.ez e A.FU [] a
def F.cS (a:Int):Option (List Int):=if a=2 then(F.cf 1 8)else(if a=3 then(F.cf 11 13)else(if a=4 then(F.cf 21 22)else(if a=8 then(F.cf 31 34)else(if a=11 then(F.cf 41 42)else(F.cf 1 0)))))
theorem o_bJ (h:Int)(L:A.h6 h)(r:(List Int))(a:F.cS h=some r):
    A.Ct Tryz.prog 160 [A.i h] [] [] (fun v H'=>∃(A0':Option Addr) (c1':Nat),v=.slice A0' r.length c1'∧H'=[(0,.own A.ti 3 A0' c1' r)]):=by
 refine J1 Tryz.func160 rfl Tryz.ntmps160 rfl fun N O=>?_;rw[F.cS]at a;refine Jv 1 ?_;refine J0 1 [] (Vb 2 ?_);refine J0 2 [(3,A.i 1),(4,A.i 0)] (Jw 1 ?_);refine J4 [] [] (fun x y=>∃(p:Int),∃(s:Int),x=[(3,A.i p),(4,A.i s)]∧y=[]∧A.h6 p∧A.h6 s∧F.cf p s=some r) ?_ ?_
 ·refine Jv 1 ?_;refine J0 1 [(7,A.i h)] (Vb 3 ?_);refine J0 2 [(8,.bool (decide (h=2)))] (Jw 1 ?_);refine Vr a ?_ ?_<;>intro w a
  ·refine Jv 0 ?_;refine J0 2 [(3,A.i 1),(4,A.i 8)] (Ug 1 ?_);exact Vi ⟨1,8,rfl,rfl,(Vd .i64 (1) rfl),(Vd .i64 (8) rfl),a⟩
  refine Jv 1 ?_;refine J0 2 [(10,.bool (decide (h=3)))] (Jw 1 ?_);refine Vr a ?_ ?_<;>intro w a
  ·refine Jv 0 ?_;refine J0 2 [(3,A.i 11),(4,A.i 13)] (Ug 1 ?_);exact Vi ⟨11,13,rfl,rfl,(Vd .i64 (11) rfl),(Vd .i64 (13) rfl),a⟩
  refine Jv 1 ?_;refine J0 2 [(12,.bool (decide (h=4)))] (Jw 1 ?_);refine Vr a ?_ ?_<;>intro w a
  ·refine Jv 0 ?_;refine J0 2 [(3,A.i 21),(4,A.i 22)] (Ug 1 ?_);exact Vi ⟨21,22,rfl,rfl,(Vd .i64 (21) rfl),(Vd .i64 (22) rfl),a⟩
  refine Jv 1 ?_;refine J0 2 [(14,.bool (decide (h=8)))] (Jw 1 ?_);refine Vr a ?_ ?_<;>intro w a
  ·refine Jv 0 ?_;refine J0 2 [(3,A.i 31),(4,A.i 34)] (Ug 1 ?_);exact Vi ⟨31,34,rfl,rfl,(Vd .i64 (31) rfl),(Vd .i64 (34) rfl),a⟩
  refine Jv 1 ?_;refine J0 2 [(16,.bool (decide (h=11)))] (Jw 1 ?_);refine Vr a ?_ ?_<;>intro w a
  ·refine Jv 0 ?_;refine J0 2 [(3,A.i 41),(4,A.i 42)] (Ug 1 ?_);exact Vi ⟨41,42,rfl,rfl,(Vd .i64 (41) rfl),(Vd .i64 (42) rfl),a⟩
  refine Vy 2 ?_;exact Vi ⟨1,0,rfl,rfl,(Vd .i64 (1) rfl),J5,a⟩
 rintro _ _ ⟨p,s,rfl,rfl,I,U,a⟩;rw[F.cf]at a;refine Jv 1 ?_;refine J0 1 [(5,.slice none 0 0)] (Vb 3 ?_);refine J0 2 [(6,A.i p)] (Jw 2 ?_);refine V9 3 A.ti 3 ?_;refine Vo [4] [] (fun f x y=>∃(o:List Int),∃(e:Int),∃(t:Option Addr),∃(u:Nat),x=[(5,.slice t o.length u),(6,A.i e)]∧y=[(3,.own A.ti 3 t u o)]∧A.h6 e∧F.ez s f o e=some r) ⟨[],p,none,0,rfl,rfl,I,a⟩ ?_;rintro z _ _ ⟨o,e,t,u,rfl,rfl,J,a⟩;rcases z with _|z
 ·exact Vm a
 rw[F.ez]at a;refine Jv 2 ?_;refine J0 3 [(21,.bool (decide (e≤s)))] (Jw 1 ?_);refine Vr a ?_ ?_<;>intro w a
 ·refine Jv 4 ?_;refine J0 2 [(24,.slice t o.length u),(25,A.i e)] ?_;refine Vp 6 (ty:=A.ti) (cs:=[A.i e]) [e] ⟨⟨rfl,J⟩,rfl⟩ (fun V=>?_) Tryz.zeroValue3 Tryz.sizeOf3
  have⟨hl14,a⟩:=Vq a;refine V1 (k:=3) [] (Uk (k:=6) rfl) inf3 hl14 fun B c13=>?_;refine J0 1 [(5,.slice B ((o++[e]).length) c13)] (Vb 2 ?_);have⟨E,a⟩:=Vq a;refine Ub 3 [Z.R64 (e+1)] [(6,A.i (e+1))] E (Jy ?_);exact Vi ⟨_,Qh _,⟨(o++[e]),(e+1),B,c13,rfl,rfl,(J2 E),a⟩⟩
 refine Jv 3 ?_;refine J0 2 [(2,.slice t o.length u)] (Jw 1 ?_);obtain rfl:=J7 a;exact Va [(0,3)] ⟨t,u,rfl,rfl⟩
def F.d7 (a:D81)(e:Bool):Option Bool:=if e=true then(some (bif decide ((1:Int)≤a.2.1)then decide (a.2.1≤1048576)else false))else(some (decide (a.2.1=0)))
def F.d8 (a:D81)(e:Bool):Option Bool:=if e=true then(some (bif decide ((0:Int)≤a.2.1)then decide (a.2.1≤64)else false))else(if a.1=6 then(F.d7 a (decide (a.1=6)))else(F.d7 a (decide (a.1=11))))
def F.eL (a:D81):Option Bool:=if a.1=3 then(F.d8 a (decide (a.1=3)))else(F.d8 a (decide (a.1=13)))
theorem o_bd (a:D81)(t:A.h6 a.1)(u:A.h6 a.2.1)(w:a.2.2.size≤maxLen)(r:Bool)(e:F.eL a=some r):
    A.Ct Tryz.prog 161 [.agg #[A.i a.1,A.i a.2.1,.string a.2.2]] [] [] (fun v H'=>v=.bool r∧H'=[]):=by
 refine J1 Tryz.func161 rfl Tryz.ntmps161 rfl fun x y=>?_;rw[F.eL]at e;refine Jv 1 ?_;refine Vc 0 (cs:=[A.i a.1,A.i a.2.1,.string a.2.2]) fun z=>?_;refine J0 1 [] (Vb 2 ?_);refine Jz [0] [] [.n,.b 0 0] [(4,A.i a.1)] (Jw 2 ?_);refine J4 [1,4] [0] (fun h k=>∃(o:Bool),h=[(8,.bool o)]∧k=[]∧F.d8 a o=some r) ?_ ?_
 ·refine Jv 1 ?_;refine J0 2 [(8,.bool (decide (a.1=3)))] (Jw 1 ?_);refine Vr e ?_ ?_<;>intro p e
  ·refine Vy 1 ?_;exact Vi ⟨(decide (a.1=3)),rfl,rfl,e⟩
  refine Jv 0 ?_;refine J0 2 [(8,.bool (decide (a.1=13)))] (Jy ?_);exact Vi ⟨(decide (a.1=13)),rfl,rfl,e⟩
 rintro _ _ ⟨o,rfl,rfl,e⟩;rw[F.d8]at e;refine Ud e ?_ ?_<;>intro p e
 ·refine Jv 1 ?_;refine Jz [0] [] [.n,.b 0 1,.n,.n,.sy .n,.sy (.b 0 1),.sy .n,.pk,.n] [(2,.bool (bif decide ((0:Int)≤a.2.1)then decide (a.2.1≤64)else false))] (Jw 1 ?_);obtain rfl:=J7 e;exact Va [] ⟨rfl,rfl⟩
 refine J4 [1] [0] (fun h k=>∃(s:Bool),h=[(19,.bool s)]∧k=[]∧F.d7 a s=some r) ?_ ?_
 ·refine Jv 1 ?_;refine J0 2 [(19,.bool (decide (a.1=6)))] (Jw 1 ?_);refine Vr e ?_ ?_<;>intro p e
  ·refine Vy 1 ?_;exact Vi ⟨(decide (a.1=6)),rfl,rfl,e⟩
  refine Jv 0 ?_;refine J0 2 [(19,.bool (decide (a.1=11)))] (Jy ?_);exact Vi ⟨(decide (a.1=11)),rfl,rfl,e⟩
 rintro _ _ ⟨s,rfl,rfl,e⟩;rw[F.d7]at e;refine Ud e ?_ ?_<;>intro p e
 ·refine Jv 1 ?_;refine Jz [0] [] [.n,.b 0 1,.n,.n,.sy .n,.sy (.b 0 1),.sy .n,.pk,.n] [(2,.bool (bif decide ((1:Int)≤a.2.1)then decide (a.2.1≤1048576)else false))] (Jw 1 ?_);obtain rfl:=J7 e;exact Va [] ⟨rfl,rfl⟩
 refine Jv 1 ?_;refine Jz [0] [] [.n,.b 0 1,.n,.n] [(2,.bool (decide (a.2.1=0)))] (Jw 1 ?_);obtain rfl:=J7 e;exact Va [] ⟨rfl,rfl⟩
def F.cT (a:UInt8):Option Bool:=some (bif decide ((128:Int)≤(a.toNat:Int))then decide ((a.toNat:Int)≤191)else false)
theorem o_x (a:UInt8)(r:Bool)(e:F.cT a=some r):
    A.Ct Tryz.prog 192 [.int .u8 (a.toNat:Int)] [] [] (fun v H'=>v=.bool r∧H'=[]):=by
 refine J1 Tryz.func192 rfl Tryz.ntmps192 rfl fun h k=>?_;rw[F.cT]at e;refine Jv 1 ?_;refine J0 1 [] (Vb 2 ?_);refine Jz [] [] [.n,.n,.n,.sy .n,.sy .n,.pk,.n] [(2,.bool (bif decide ((128:Int)≤(a.toNat:Int))then decide ((a.toNat:Int)≤191)else false))] (Jw 1 ?_);obtain rfl:=J7 e;exact Va [] ⟨rfl,rfl⟩
def F.ci (a:UInt8)(e:UInt8)(h:Bool):Option Int:=if h=true then(if(bif decide ((a.toNat:Int)=240)then decide ((e.toNat:Int)<144)else false)=true then(some 0)else(if(bif decide ((a.toNat:Int)=244)then decide ((143:Int)<(e.toNat:Int))else false)=true then(some 0)else(some 4)))else(some 0)
def F.cE (k:ByteArray)(h:Int)(a:UInt8)(e:UInt8)(o:Bool):Option Int:=if o=true then(if(bif decide ((a.toNat:Int)=224)then decide ((e.toNat:Int)<160)else false)=true then(some 0)else(if(bif decide ((a.toNat:Int)=237)then decide ((159:Int)<(e.toNat:Int))else false)=true then(some 0)else(some 3)))else(if(bif bif decide ((240:Int)≤(a.toNat:Int))then decide ((a.toNat:Int)≤244)else false then decide ((4:Int)≤(k.size:Int)-h)else false)=true then((F.cT e).bind fun p=>(if p=true then(A.gd (Z.R64 (h+2)) ((A.ix k.data.toList (h+2)).bind fun s=>((F.cT s).bind fun t=>(if t=true then(A.gd (Z.R64 (h+3)) ((A.ix k.data.toList (h+3)).bind fun u=>((F.cT u).bind fun w=>(F.ci a e w))))else(F.ci a e false)))))else(F.ci a e false)))else(F.ci a e false))
def F.c3 (e:ByteArray)(a:Int)(h:UInt8)(k:UInt8)(o:Bool):Option Int:=if o=true then(some 2)else(if(bif bif decide ((224:Int)≤(h.toNat:Int))then decide ((h.toNat:Int)≤239)else false then decide ((3:Int)≤(e.size:Int)-a)else false)=true then((F.cT k).bind fun p=>(if p=true then(A.gd (Z.R64 (a+2)) ((A.ix e.data.toList (a+2)).bind fun s=>((F.cT s).bind fun t=>(F.cE e a h k t))))else(F.cE e a h k false)))else(F.cE e a h k false))
def F.c4 (e:ByteArray)(h:Int)(a:UInt8)(k:UInt8):Option Int:=if(a.toNat:Int)<128 then(some 1)else(if(bif bif decide ((194:Int)≤(a.toNat:Int))then decide ((a.toNat:Int)≤223)else false then decide ((2:Int)≤(e.size:Int)-h)else false)=true then((F.cT k).bind fun o=>(F.c3 e h a k o))else(F.c3 e h a k false))
def F.eh (e:ByteArray)(a:Int):Option Int:=A.gd (Z.R64 ((e.size:Int)-a)) ((A.ix e.data.toList a).bind fun h=>(if(1:Int)<(e.size:Int)-a then(A.gd (Z.R64 (a+1)) ((A.ix e.data.toList (a+1)).bind fun k=>(F.c4 e a h k)))else(F.c4 e a h (0:UInt8))))
theorem o_aM (h:ByteArray)(e:Int)(a8:h.size≤maxLen)(a9:A.h6 e)(r:Int)(a:F.eh h e=some r):
    A.Ct Tryz.prog 190 [.string h,A.i e] [] [] (fun v H'=>v=A.i r∧H'=[]∧A.h6 r):=by
 refine J1 Tryz.func190 rfl Tryz.ntmps190 rfl fun w0 F0=>?_;rw[F.eh]at a;refine Jv 1 ?_;refine J0 1 [] (Vb 2 ?_);have⟨I,a⟩:=Vq a;refine Ub 5 [Z.R64 ((h.size:Int)-e)] [(5,A.i ((h.size:Int)-e))] I (Vb 2 ?_);refine J0 2 [(12,.string h),(13,A.i e)] ?_;have⟨k,J,a⟩:=Vx a;refine U0 J ?_;refine J0 1 [(6,.int .u8 (k.toNat:Int))] (Vb 2 ?_);refine J0 1 [(7,.int .u8 0)] (Jw 1 ?_);refine J4 [0,1,5,6] [] (fun p s=>∃(o:UInt8),p=[(7,.int .u8 (o.toNat:Int))]∧s=[]∧F.c4 h e k o=some r) ?_ ?_
 ·refine Jv 1 ?_;refine J0 2 [(16,.bool (decide ((1:Int)<(h.size:Int)-e)))] (Jw 1 ?_);refine Vr a ?_ ?_<;>intro t a
  ·refine Jv 0 ?_;have⟨L,a⟩:=Vq a;refine Ub 3 [Z.R64 (e+1)] [(17,.string h),(19,A.i (e+1))] L ?_;have⟨y,N,a⟩:=Vx a;refine U0 N ?_;refine J0 1 [(7,.int .u8 (y.toNat:Int))] (Jy ?_);exact Vi ⟨y,rfl,rfl,a⟩
  refine Vy 1 ?_;exact Vi ⟨(0:UInt8),rfl,rfl,a⟩
 rintro _ _ ⟨o,rfl,rfl,a⟩;rw[F.c4]at a;refine Jv 2 ?_;refine J0 3 [(21,.bool (decide ((k.toNat:Int)<128)))] (Jw 1 ?_);refine Vr a ?_ ?_<;>intro t a
 ·refine Jv 1 ?_;refine J0 1 [(4,A.i 1)] (Jw 1 ?_);obtain rfl:=J7 a;exact Va [] ⟨rfl,rfl,(Vd .i64 (1) rfl)⟩
 refine J4 [0,1,5,6,7] [] (fun p s=>∃(u:Bool),p=[(24,.bool u)]∧s=[]∧F.c3 h e k o u=some r) ?_ ?_
 ·refine Jv 0 ?_;refine Jz [] [] [.n,.n,.n,.sy .n,.sy .n,.pk,.n,.sy .n,.sy .n,.pk,.n] [(35,.bool (bif bif decide ((194:Int)≤(k.toNat:Int))then decide ((k.toNat:Int)≤223)else false then decide ((2:Int)≤(h.size:Int)-e)else false))] ?_;refine Vs (j:=35) rfl a (fun a=>?_) (fun a=>?_)
  ·refine Jz [] [] [.on .n] [(36,.int .u8 (o.toNat:Int))] ?_;refine Vk (dj:=35) rfl rfl ?_;refine Vw 0 [] a (o_x o) .nil ?_;rintro z - a _ _ ⟨rfl,rfl⟩;refine Ve ?_;refine J0 2 [(24,.bool z)] (Jy ?_);exact Vi ⟨z,rfl,rfl,a⟩
  refine Jz [] [] [.off,.off,.n,.n] [(24,.bool false)] (Jy ?_);exact Vi ⟨false,rfl,rfl,a⟩
 rintro _ _ ⟨u,rfl,rfl,a⟩;rw[F.c3]at a;refine Ud a ?_ ?_<;>intro t a
 ·refine Jv 1 ?_;refine J0 1 [(4,A.i 2)] (Jw 1 ?_);obtain rfl:=J7 a;exact Va [] ⟨rfl,rfl,(Vd .i64 (2) rfl)⟩
 refine J4 [0,1,5,6,7] [] (fun p s=>∃(w:Bool),p=[(39,.bool w)]∧s=[]∧F.cE h e k o w=some r) ?_ ?_
 ·refine Jv 0 ?_;refine Jz [] [] [.n,.n,.n,.sy .n,.sy .n,.pk,.n,.sy .n,.sy .n,.pk,.n] [(50,.bool (bif bif decide ((224:Int)≤(k.toNat:Int))then decide ((k.toNat:Int)≤239)else false then decide ((3:Int)≤(h.size:Int)-e)else false))] ?_;refine Vs (j:=50) rfl a (fun a=>?_) (fun a=>?_)
  ·refine Jz [] [] [.on .n] [(51,.int .u8 (o.toNat:Int))] ?_;refine Vk (dj:=50) rfl rfl ?_;refine Vw 40 [] a (o_x o) .nil ?_;rintro O - a _ _ ⟨rfl,rfl⟩;refine Ve ?_;refine J0 2 [(54,.bool O)] ?_;refine Vs (j:=54) rfl a (fun a=>?_) (fun a=>?_)
   ·have⟨U,a⟩:=Vq a;refine A.q [] [] [.on .n,.on .n,.on .n] [Z.R64 (e+2)] [(55,.string h),(57,A.i (e+2))] U ?_;refine Vk (dj:=54) rfl rfl ?_;have⟨V,W,a⟩:=Vx a;refine U0 W ?_;refine Vk (dj:=54) rfl rfl ?_;refine Vw 80 [] a (o_x V) .nil ?_;rintro B - a _ _ ⟨rfl,rfl⟩;refine Ve ?_;refine J0 2 [(39,.bool B)] (Jy ?_);exact Vi ⟨B,rfl,rfl,a⟩
   refine Jz [] [] [.off,.off,.off,.off,.off,.n,.n] [(39,.bool false)] (Jy ?_);exact Vi ⟨false,rfl,rfl,a⟩
  refine Jz [] [] [.off,.off,.n,.n,.off,.off,.off,.off,.off,.n,.n] [(39,.bool false)] (Jy ?_);exact Vi ⟨false,rfl,rfl,a⟩
 rintro _ _ ⟨w,rfl,rfl,a⟩;rw[F.cE]at a;refine Ud a ?_ ?_<;>intro t a
 ·refine Jv 2 ?_;refine Jz [] [] [.n,.n,.n,.sy .n,.sy .n,.pk,.n] [(67,.bool (bif decide ((k.toNat:Int)=224)then decide ((o.toNat:Int)<160)else false))] ?_;refine Vs (j:=67) rfl a (fun a=>?_) (fun a=>?_)
  ·refine Jz [] [] [.off,.off,.off,.off,.off,.off,.n] [(74,.bool true)] (Jw 1 ?_);refine Uo rfl ?_;refine Jv 1 ?_;refine J0 1 [(4,A.i 0)] (Jw 1 ?_);obtain rfl:=J7 a;exact Va [] ⟨rfl,rfl,J5⟩
  refine Jz [] [] [.on .n,.on .n,.on .n,.sy .n,.sy .n,.on .pk,.n] [(74,.bool (bif decide ((k.toNat:Int)=237)then decide ((159:Int)<(o.toNat:Int))else false))] (Jw 1 ?_);refine Ud a ?_ ?_<;>intro t a
  ·refine Jv 1 ?_;refine J0 1 [(4,A.i 0)] (Jw 1 ?_);obtain rfl:=J7 a;exact Va [] ⟨rfl,rfl,J5⟩
  refine Jv 3 ?_;refine J0 1 [(4,A.i 3)] (Jw 1 ?_);obtain rfl:=J7 a;exact Va [] ⟨rfl,rfl,(Vd .i64 (3) rfl)⟩
 refine J4 [6,7] [] (fun p s=>∃(x:Bool),p=[(75,.bool x)]∧s=[]∧F.ci k o x=some r) ?_ ?_
 ·refine Jv 0 ?_;refine Jz [] [] [.n,.n,.n,.sy .n,.sy .n,.pk,.n,.sy .n,.sy .n,.pk,.n] [(86,.bool (bif bif decide ((240:Int)≤(k.toNat:Int))then decide ((k.toNat:Int)≤244)else false then decide ((4:Int)≤(h.size:Int)-e)else false))] ?_;refine Vs (j:=86) rfl a (fun a=>?_) (fun a=>?_)
  ·refine Jz [] [] [.on .n] [(87,.int .u8 (o.toNat:Int))] ?_;refine Vk (dj:=86) rfl rfl ?_;refine Vw 120 [] a (o_x o) .nil ?_;rintro X - a _ _ ⟨rfl,rfl⟩;refine Ve ?_;refine J0 2 [(90,.bool X)] ?_;refine Vs (j:=90) rfl a (fun a=>?_) (fun a=>?_)
   ·have⟨Y,a⟩:=Vq a;refine A.q [] [] [.on .n,.on .n,.on .n] [Z.R64 (e+2)] [(91,.string h),(93,A.i (e+2))] Y ?_;refine Vk (dj:=90) rfl rfl ?_;have⟨a2,a3,a⟩:=Vx a;refine U0 a3 ?_;refine Vk (dj:=90) rfl rfl ?_;refine Vw 160 [] a (o_x a2) .nil ?_;rintro a4 - a _ _ ⟨rfl,rfl⟩;refine Ve ?_;refine J0 2 [(97,.bool a4)] ?_;refine Vs (j:=97) rfl a (fun a=>?_) (fun a=>?_)
    ·have⟨a5,a⟩:=Vq a;refine A.q [] [] [.on .n,.on .n,.on .n] [Z.R64 (e+3)] [(98,.string h),(100,A.i (e+3))] a5 ?_;refine Vk (dj:=97) rfl rfl ?_;have⟨a6,a7,a⟩:=Vx a;refine U0 a7 ?_;refine Vk (dj:=97) rfl rfl ?_;refine Vw 200 [] a (o_x a6) .nil ?_;rintro E - a _ _ ⟨rfl,rfl⟩;refine Ve ?_;refine J0 2 [(75,.bool E)] (Jy ?_);exact Vi ⟨E,rfl,rfl,a⟩
    refine Jz [] [] [.off,.off,.off,.off,.off,.n,.n] [(75,.bool false)] (Jy ?_);exact Vi ⟨false,rfl,rfl,a⟩
   refine Jz [] [] [.off,.off,.off,.off,.off,.n,.n,.off,.off,.off,.off,.off,.n,.n] [(75,.bool false)] (Jy ?_);exact Vi ⟨false,rfl,rfl,a⟩
  refine Jz [] [] [.off,.off,.n,.n,.off,.off,.off,.off,.off,.n,.n,.off,.off,.off,.off,.off,.n,.n] [(75,.bool false)] (Jy ?_);exact Vi ⟨false,rfl,rfl,a⟩
 rintro _ _ ⟨x,rfl,rfl,a⟩;rw[F.ci]at a;refine Ud a ?_ ?_<;>intro t a
 ·refine Jv 2 ?_;refine Jz [] [] [.n,.n,.n,.sy .n,.sy .n,.pk,.n] [(110,.bool (bif decide ((k.toNat:Int)=240)then decide ((o.toNat:Int)<144)else false))] ?_;refine Vs (j:=110) rfl a (fun a=>?_) (fun a=>?_)
  ·refine Jz [] [] [.off,.off,.off,.off,.off,.off,.n] [(117,.bool true)] (Jw 1 ?_);refine Uo rfl ?_;refine Jv 1 ?_;refine J0 1 [(4,A.i 0)] (Jw 1 ?_);obtain rfl:=J7 a;exact Va [] ⟨rfl,rfl,J5⟩
  refine Jz [] [] [.on .n,.on .n,.on .n,.sy .n,.sy .n,.on .pk,.n] [(117,.bool (bif decide ((k.toNat:Int)=244)then decide ((143:Int)<(o.toNat:Int))else false))] (Jw 1 ?_);refine Ud a ?_ ?_<;>intro t a
  ·refine Jv 1 ?_;refine J0 1 [(4,A.i 0)] (Jw 1 ?_);obtain rfl:=J7 a;exact Va [] ⟨rfl,rfl,J5⟩
  refine Jv 3 ?_;refine J0 1 [(4,A.i 4)] (Jw 1 ?_);obtain rfl:=J7 a;exact Va [] ⟨rfl,rfl,(Vd .i64 (4) rfl)⟩
 refine Jv 1 ?_;refine J0 1 [(4,A.i 0)] (Jw 1 ?_);obtain rfl:=J7 a;exact Va [] ⟨rfl,rfl,J5⟩
def F.cF (e:ByteArray):Nat→Int→Option Bool
 |0,_=>none
 |f+1,a=>if a<(e.size:Int)then((F.eh e a).bind fun h=>(if h=0 then(some false)else(A.gd (Z.R64 (a+h)) ((F.cF e f) (a+h)))))else(some true)
def F.eI (a:ByteArray):Option Bool:=F.cF a A.FU 0
theorem o_aN (h:ByteArray)(s:h.size≤maxLen)(r:Bool)(a:F.eI h=some r):
    A.Ct Tryz.prog 182 [.string h] [] [] (fun v H'=>v=.bool r∧H'=[]):=by
 refine J1 Tryz.func182 rfl Tryz.ntmps182 rfl fun y z=>?_;rw[F.eI]at a;refine Jv 1 ?_;refine J0 1 [] (Vb 3 ?_);refine J0 1 [(3,A.i 0)] (Jw 2 ?_);refine Vo [0] [] (fun f t u=>∃(e:Int),t=[(3,A.i e)]∧u=[]∧A.h6 e∧F.cF h f e=some r) ⟨0,rfl,rfl,J5,a⟩ ?_;rintro o _ _ ⟨e,rfl,rfl,w,a⟩;rcases o with _|o
 ·exact Vm a
 rw[F.cF]at a;refine Jv 2 ?_;refine J0 4 [(8,.bool (decide (e<(h.size:Int))))] (Jw 1 ?_);refine Vr a ?_ ?_<;>intro x a
 ·refine Jv 4 ?_;refine J0 2 [(9,.string h),(10,A.i e)] ?_;refine Vw 80 [] a (o_aM h e s w) .nil ?_;rintro k - a _ _ ⟨rfl,rfl,hr6⟩;refine Ve ?_;refine J0 1 [(4,A.i k)] (Vb 3 ?_);refine J0 2 [(13,.bool (decide (k=0)))] (Jw 1 ?_);refine Vr a ?_ ?_<;>intro x a
  ·refine Jv 1 ?_;refine J0 1 [(2,.bool false)] (Jw 1 ?_);obtain rfl:=J7 a;exact Va [] ⟨rfl,rfl⟩
  refine Jv 2 ?_;have⟨p,a⟩:=Vq a;refine Ub 4 [Z.R64 (e+k)] [(3,A.i (e+k))] p (Ug 1 ?_);exact Vi ⟨_,Qh _,⟨(e+k),rfl,rfl,(J2 p),a⟩⟩
 refine Jv 3 ?_;refine J0 1 [(2,.bool true)] (Jw 1 ?_);obtain rfl:=J7 a;exact Va [] ⟨rfl,rfl⟩
def F.bS (o:(List D234)→Int→Option (List D234))(e:List D234)(a:Int)(h:Int)(k:Int):Option (List D234):=A.gd ((List.length (α:=D234) e+List.length (α:=D234) [(a,k)])*16≤140737488355328) (A.gd (Z.R64 (a+h)) (o (e++[(a,k)]) (a+h)))
def F.aX (e:ByteArray):Nat→(List D234)→Int→Option (List D234)
 |0,_,_=>none
 |f+1,k,a=>if a<(e.size:Int)then((F.eh e a).bind fun h=>(if h=1 then((A.ix e.data.toList a).bind fun o=>(F.bS (F.aX e f) k a h (IntKind.i32.wrap ((o.toNat:Int)))))else(if h=2 then(A.gd (Z.R64 (a+1)) ((A.ix e.data.toList a).bind fun p=>(A.gd ((32:Int)≠0) ((A.ix e.data.toList (a+1)).bind fun s=>(A.gd ((64:Int)≠0) (F.bS (F.aX e f) k a h (IntKind.i32.wrap ((IntKind.i32.wrap ((IntKind.i32.wrap (Int.tmod (p.toNat:Int) 32))*64))+(IntKind.i32.wrap (Int.tmod (s.toNat:Int) 64))))))))))else(if h=3 then(A.gd (Z.R64 (a+1)∧Z.R64 (a+2)) ((A.ix e.data.toList a).bind fun t=>(A.gd ((16:Int)≠0) ((A.ix e.data.toList (a+1)).bind fun u=>(A.gd ((64:Int)≠0) ((A.ix e.data.toList (a+2)).bind fun w=>(A.gd ((64:Int)≠0) (F.bS (F.aX e f) k a h (IntKind.i32.wrap ((IntKind.i32.wrap ((IntKind.i32.wrap ((IntKind.i32.wrap ((IntKind.i32.wrap (Int.tmod (t.toNat:Int) 16))*64))+(IntKind.i32.wrap (Int.tmod (u.toNat:Int) 64))))*64))+(IntKind.i32.wrap (Int.tmod (w.toNat:Int) 64))))))))))))else(if h=4 then(A.gd (Z.R64 (a+1)∧Z.R64 (a+2)∧Z.R64 (a+3)) ((A.ix e.data.toList a).bind fun x=>(A.gd ((8:Int)≠0) ((A.ix e.data.toList (a+1)).bind fun y=>(A.gd ((64:Int)≠0) ((A.ix e.data.toList (a+2)).bind fun z=>(A.gd ((64:Int)≠0) ((A.ix e.data.toList (a+3)).bind fun B=>(A.gd ((64:Int)≠0) (F.bS (F.aX e f) k a h (IntKind.i32.wrap ((IntKind.i32.wrap ((IntKind.i32.wrap ((IntKind.i32.wrap ((IntKind.i32.wrap ((IntKind.i32.wrap ((IntKind.i32.wrap (Int.tmod (x.toNat:Int) 8))*64))+(IntKind.i32.wrap (Int.tmod (y.toNat:Int) 64))))*64))+(IntKind.i32.wrap (Int.tmod (z.toNat:Int) 64))))*64))+(IntKind.i32.wrap (Int.tmod (B.toNat:Int) 64))))))))))))))else(F.bS (F.aX e f) k a 1 65533))))))else(some k)
def F.eT (a:ByteArray):Option (List D234):=F.aX a A.FU [] 0
theorem o_bt (o:ByteArray)(a6:o.size≤maxLen)(r:(List D234))(e:F.eT o=some r):
    A.Ct Tryz.prog 183 [.string o] [] [] (fun v H'=>∃(A0':Option Addr) (c1':Nat),v=.slice A0' r.length c1'∧H'=[(0,.own T234 235 A0' c1' r)]):=by
 refine J1 Tryz.func183 rfl Tryz.ntmps183 rfl fun w0 F0=>?_;rw[F.eT]at e;refine Jv 1 ?_;refine J0 1 [] (Vb 2 ?_);refine J0 1 [(3,.slice none 0 0)] (Vb 3 ?_);refine J0 1 [(4,A.i 0)] (Jw 2 ?_);refine V9 43 T234 235 ?_;refine Vo [0] [] (fun f J L=>∃(s:List D234),∃(h:Int),∃(x:Option Addr),∃(y:Nat),J=[(3,.slice x s.length y),(4,A.i h)]∧L=[(43,.own T234 235 x y s)]∧A.h6 h∧F.aX o f s h=some r) ⟨[],0,none,0,rfl,rfl,J5,e⟩ ?_;rintro N _ _ ⟨s,h,x,y,rfl,rfl,W,e⟩;rcases N with _|N
 ·exact Vm e
 rw[F.aX]at e;refine Jv 2 ?_;refine J0 4 [(10,.bool (decide (h<(o.size:Int))))] (Jw 1 ?_);refine Vr e ?_ ?_<;>intro B e
 ·refine Jv 4 ?_;refine J0 2 [(11,.string o),(12,A.i h)] ?_;refine Vw 126 [] e (o_aM o h a6 W) .nil ?_;rintro p - e _ _ ⟨rfl,rfl,hr9⟩;refine Ve ?_;refine J0 1 [(5,A.i p)] (Vb 2 ?_);refine J0 1 [(6,.int .i32 65533)] (Jw 1 ?_);refine J4 [0,3,4] [43] (fun J L=>∃(u:Int),∃(t:Int),J=[(5,A.i u),(6,.int .i32 t)]∧L=[]∧A.h6 u∧IntKind.i32.has t∧F.bS (F.aX o N) s h u t=some r) ?_ ?_
  ·refine Jv 1 ?_;refine J0 1 [(14,A.i p)] (Vb 3 ?_);refine J0 2 [(15,.bool (decide (p=1)))] (Jw 1 ?_);refine Vr e ?_ ?_<;>intro B e
   ·refine Jv 0 ?_;refine J0 2 [(17,.string o),(18,A.i h)] ?_;have⟨X,a7,e⟩:=Vx e;refine U0 a7 ?_;refine J0 2 [(6,.int .i32 (IntKind.i32.wrap ((X.toNat:Int))))] (Ug 1 ?_);exact Vi ⟨p,(IntKind.i32.wrap ((X.toNat:Int))),rfl,rfl,hr9,(A.wrap_has _ _),e⟩
   refine Jv 1 ?_;refine J0 2 [(21,.bool (decide (p=2)))] (Jw 1 ?_);refine Vr e ?_ ?_<;>intro B e
   ·refine Vl mixed 14 14 (A.mb 14 0) ?_;have⟨a8,e⟩:=Vq e;refine Us J3 [] [43] [] [] (A.mb 14 451) 9 [(0,.n),(1,.n),(6,.n),(7,.n),(8,.n)] [23,24,29,31] [Z.R64 (h+1)] [(23,.string o),(24,A.i h),(29,.string o),(31,A.i (h+1))] a8 ?_;have⟨O,a9,e⟩:=Vx e;refine Vf J3 [43] [43] 2 (A.mb 14 455) rfl (fun a w hf hh=>U1 a9 hf) ?_;have⟨aa,e⟩:=Vq e;refine Us J3 [43] [43] [] [] (A.mb 14 511) 5 [(3,.n),(4,.n),(5,.n)] [28] [(32:Int)≠0] [(28,.int .i32 (IntKind.i32.wrap ((IntKind.i32.wrap (Int.tmod (O.toNat:Int) 32))*64)))] aa ?_;have⟨Y,ab,e⟩:=Vx e;refine Vf J3 [43] [43] 9 (A.mb 14 1023) rfl (fun a w hf hh=>U1 ab hf) ?_;have⟨ac,e⟩:=Vq e;refine Us J3 [43] [43] [] [] (A.mb 14 16383) 0 [(10,.n),(11,.n),(12,.n),(13,.n)] [6] [(64:Int)≠0] [(6,.int .i32 (IntKind.i32.wrap ((IntKind.i32.wrap ((IntKind.i32.wrap (Int.tmod (O.toNat:Int) 32))*64))+(IntKind.i32.wrap (Int.tmod (Y.toNat:Int) 64)))))] ac ?_;refine J9 ?_;refine A.ee 1 ?_;exact Vi ⟨p,(IntKind.i32.wrap ((IntKind.i32.wrap ((IntKind.i32.wrap (Int.tmod (O.toNat:Int) 32))*64))+(IntKind.i32.wrap (Int.tmod (Y.toNat:Int) 64)))),rfl,rfl,hr9,(A.wrap_has _ _),e⟩
   refine Jv 1 ?_;refine J0 2 [(36,.bool (decide (p=3)))] (Jw 1 ?_);refine Vr e ?_ ?_<;>intro B e
   ·refine Vl mixed 22 22 (A.mb 22 0) ?_;have⟨ad,e⟩:=Vq e;refine Us J3 [] [43] [] [] (A.mb 22 115139) 14 [(0,.n),(1,.n),(6,.n),(7,.n),(14,.n),(15,.n),(8,.n),(16,.n)] [38,39,44,52,46,54] [Z.R64 (h+1),Z.R64 (h+2)] [(38,.string o),(39,A.i h),(44,.string o),(52,.string o),(46,A.i (h+1)),(54,A.i (h+2))] ad ?_;have⟨E,ae,e⟩:=Vx e;refine Vf J3 [43] [43] 2 (A.mb 22 115143) rfl (fun a w hf hh=>U1 ae hf) ?_;have⟨af,e⟩:=Vq e;refine Us J3 [43] [43] [] [] (A.mb 22 115199) 10 [(3,.n),(4,.n),(5,.n)] [43] [(16:Int)≠0] [(43,.int .i32 (IntKind.i32.wrap ((IntKind.i32.wrap (Int.tmod (E.toNat:Int) 16))*64)))] af ?_;have⟨U,ag,e⟩:=Vx e;refine Vf J3 [43] [43] 9 (A.mb 22 115711) rfl (fun a w hf hh=>U1 ag hf) ?_;have⟨ah,e⟩:=Vq e;refine Us J3 [43] [43] [] [] (A.mb 22 131071) 5 [(10,.n),(11,.n),(12,.n),(13,.n)] [51] [(64:Int)≠0] [(51,.int .i32 (IntKind.i32.wrap ((IntKind.i32.wrap ((IntKind.i32.wrap ((IntKind.i32.wrap (Int.tmod (E.toNat:Int) 16))*64))+(IntKind.i32.wrap (Int.tmod (U.toNat:Int) 64))))*64)))] ah ?_;have⟨a1,ai,e⟩:=Vx e;refine Vf J3 [43] [43] 17 (A.mb 22 262143) rfl (fun a w hf hh=>U1 ai hf) ?_;have⟨aj,e⟩:=Vq e;refine Us J3 [43] [43] [] [] (A.mb 22 4194303) 0 [(18,.n),(19,.n),(20,.n),(21,.n)] [6] [(64:Int)≠0] [(6,.int .i32 (IntKind.i32.wrap ((IntKind.i32.wrap ((IntKind.i32.wrap ((IntKind.i32.wrap ((IntKind.i32.wrap (Int.tmod (E.toNat:Int) 16))*64))+(IntKind.i32.wrap (Int.tmod (U.toNat:Int) 64))))*64))+(IntKind.i32.wrap (Int.tmod (a1.toNat:Int) 64)))))] aj ?_;refine J9 ?_;refine A.ee 1 ?_;exact Vi ⟨p,(IntKind.i32.wrap ((IntKind.i32.wrap ((IntKind.i32.wrap ((IntKind.i32.wrap ((IntKind.i32.wrap (Int.tmod (E.toNat:Int) 16))*64))+(IntKind.i32.wrap (Int.tmod (U.toNat:Int) 64))))*64))+(IntKind.i32.wrap (Int.tmod (a1.toNat:Int) 64)))),rfl,rfl,hr9,(A.wrap_has _ _),e⟩
   refine Jv 1 ?_;refine J0 2 [(59,.bool (decide (p=4)))] (Jw 1 ?_);refine Vr e ?_ ?_<;>intro B e
   ·refine A.AX.drF mixed 30 30 [0,0,3,4,8,16,0,0,128,320,512,1024,2080,4096,0,0,32768,81920,131072,262144,532480,1048576,0,0,8388608,20971520,33554432,67108864,136314880,536870911] [0,0,3,4,8,16,0,0,128,320,512,1024,2080,4096,0,0,32768,81920,131072,262144,532480,1048576,0,0,8388608,20971520,33554432,67108864,136314880,268435456] fun hT38=>?_;have⟨ak,e⟩:=Vq e;refine A.AH.qF hT38 J3 [] [43] [] [] 0 29475267 19 [(0,.n),(1,.n),(6,.n),(7,.n),(14,.n),(15,.n),(22,.n),(23,.n),(8,.n),(16,.n),(24,.n)] [61,62,67,75,83,69,77,85] [Z.R64 (h+1),Z.R64 (h+2),Z.R64 (h+3)] [(61,.string o),(62,A.i h),(67,.string o),(75,.string o),(83,.string o),(69,A.i (h+1)),(77,A.i (h+2)),(85,A.i (h+3))] ak ?_;have⟨z,al,e⟩:=Vx e;refine Vf J3 [43] [43] 2 (A.mb 30 29475271) rfl (fun a w hf hh=>U1 al hf) ?_;have⟨am,e⟩:=Vq e;refine A.AH.qF hT38 J3 [43] [43] [] [] 29475271 29475327 15 [(3,.n),(4,.n),(5,.n)] [66] [(8:Int)≠0] [(66,.int .i32 (IntKind.i32.wrap ((IntKind.i32.wrap (Int.tmod (z.toNat:Int) 8))*64)))] am ?_;have⟨I,an,e⟩:=Vx e;refine Vf J3 [43] [43] 9 (A.mb 30 29475839) rfl (fun a w hf hh=>U1 an hf) ?_;have⟨ao,e⟩:=Vq e;refine A.AH.qF hT38 J3 [43] [43] [] [] 29475839 29491199 10 [(10,.n),(11,.n),(12,.n),(13,.n)] [74] [(64:Int)≠0] [(74,.int .i32 (IntKind.i32.wrap ((IntKind.i32.wrap ((IntKind.i32.wrap ((IntKind.i32.wrap (Int.tmod (z.toNat:Int) 8))*64))+(IntKind.i32.wrap (Int.tmod (I.toNat:Int) 64))))*64)))] ao ?_;have⟨V,ap,e⟩:=Vx e;refine Vf J3 [43] [43] 17 (A.mb 30 29622271) rfl (fun a w hf hh=>U1 ap hf) ?_;have⟨aq,e⟩:=Vq e;refine A.AH.qF hT38 J3 [43] [43] [] [] 29622271 33554431 5 [(18,.n),(19,.n),(20,.n),(21,.n)] [82] [(64:Int)≠0] [(82,.int .i32 (IntKind.i32.wrap ((IntKind.i32.wrap ((IntKind.i32.wrap ((IntKind.i32.wrap ((IntKind.i32.wrap ((IntKind.i32.wrap (Int.tmod (z.toNat:Int) 8))*64))+(IntKind.i32.wrap (Int.tmod (I.toNat:Int) 64))))*64))+(IntKind.i32.wrap (Int.tmod (V.toNat:Int) 64))))*64)))] aq ?_;have⟨a2,ar,e⟩:=Vx e;refine Vf J3 [43] [43] 25 (A.mb 30 67108863) rfl (fun a w hf hh=>U1 ar hf) ?_;have⟨au,e⟩:=Vq e;refine A.AH.qF hT38 J3 [43] [43] [] [] 67108863 1073741823 0 [(26,.n),(27,.n),(28,.n),(29,.n)] [6] [(64:Int)≠0] [(6,.int .i32 (IntKind.i32.wrap ((IntKind.i32.wrap ((IntKind.i32.wrap ((IntKind.i32.wrap ((IntKind.i32.wrap ((IntKind.i32.wrap ((IntKind.i32.wrap (Int.tmod (z.toNat:Int) 8))*64))+(IntKind.i32.wrap (Int.tmod (I.toNat:Int) 64))))*64))+(IntKind.i32.wrap (Int.tmod (V.toNat:Int) 64))))*64))+(IntKind.i32.wrap (Int.tmod (a2.toNat:Int) 64)))))] au ?_;refine A.AH.doneF hT38 ?_;refine A.ee 1 ?_;exact Vi ⟨p,(IntKind.i32.wrap ((IntKind.i32.wrap ((IntKind.i32.wrap ((IntKind.i32.wrap ((IntKind.i32.wrap ((IntKind.i32.wrap ((IntKind.i32.wrap (Int.tmod (z.toNat:Int) 8))*64))+(IntKind.i32.wrap (Int.tmod (I.toNat:Int) 64))))*64))+(IntKind.i32.wrap (Int.tmod (V.toNat:Int) 64))))*64))+(IntKind.i32.wrap (Int.tmod (a2.toNat:Int) 64)))),rfl,rfl,hr9,(A.wrap_has _ _),e⟩
   refine Jv 0 ?_;refine J0 1 [(5,A.i 1)] (Ug 1 ?_);exact Vi ⟨1,65533,rfl,rfl,(Vd .i64 (1) rfl),(Vd .i32 (65533) rfl),e⟩
  rintro _ _ ⟨u,t,rfl,rfl,aw,av,e⟩;rw[F.bS]at e;refine Jv 1 ?_;refine J0 4 [(90,.slice x s.length y),(93,.agg #[A.i h,.int .i32 t])] ?_;refine Vp 166 (ty:=T234) (cs:=[A.i h,.int .i32 t]) [(h,t)] ⟨⟨⟨rfl,W⟩,⟨rfl,av⟩⟩,rfl⟩ (fun ax=>?_) Tryz.zeroValue235 Tryz.sizeOf235
  have⟨hl17,e⟩:=Vq e;refine V1 (k:=43) [] (Uk (k:=166) rfl) inf235 hl17 fun a3 a4=>?_;refine J0 1 [(3,.slice a3 ((s++[(h,t)]).length) a4)] (Vb 1 ?_);have⟨a5,e⟩:=Vq e;refine Ub 4 [Z.R64 (h+u)] [(4,A.i (h+u))] a5 (Ug 1 ?_);exact Vi ⟨_,Qh _,⟨(s++[(h,t)]),(h+u),a3,a4,rfl,rfl,(J2 a5),e⟩⟩
 refine Jv 3 ?_;refine J0 2 [(2,.slice x s.length y)] (Jw 1 ?_);obtain rfl:=J7 e;exact Va [(0,43)] ⟨x,y,rfl,rfl⟩
def F.d5 (a:Bool):Option Bool:=some a
def F.du (a:Bool):Option Bool:=some a
def F.dv (a:D81)(e:Bool):Option Bool:=if e=true then(if(a.2.2.size:Int)≤4 then((F.eI a.2.2).bind fun h=>(if h=true then((F.eT a.2.2).bind fun k=>(F.du (decide ((k.length:Int)=1))))else(F.du false)))else(F.du false))else(some (decide (a.2.2=(ByteArray.mk #[]))))
def F.eQ (a:D81):Option Bool:=if a.1=5 then(if(bif decide ((1:Int)≤(a.2.2.size:Int))then decide ((a.2.2.size:Int)≤16)else false)=true then((F.eI a.2.2).bind fun e=>(F.d5 e))else(F.d5 false))else(if a.1=12 then(F.dv a (decide (a.1=12)))else(F.dv a (decide (a.1=22))))
theorem o_bK (e:D81)(z:A.h6 e.1)(B:A.h6 e.2.1)(o:e.2.2.size≤maxLen)(r:Bool)(a:F.eQ e=some r):
    A.Ct Tryz.prog 162 [.agg #[A.i e.1,A.i e.2.1,.string e.2.2]] [] [] (fun v H'=>v=.bool r∧H'=[]):=by
 refine J1 Tryz.func162 rfl Tryz.ntmps162 rfl fun E I=>?_;rw[F.eQ]at a;refine Jv 1 ?_;refine Vc 0 (cs:=[A.i e.1,A.i e.2.1,.string e.2.2]) fun J=>?_;refine J0 1 [] (Vb 2 ?_);refine Jz [0] [] [.n,.b 0 0] [(4,A.i e.1)] (Vb 3 ?_);refine J0 2 [(8,.bool (decide (e.1=5)))] (Jw 1 ?_);refine Vr a ?_ ?_<;>intro p a
 ·refine J4 [] [] (fun h k=>∃(s:Bool),h=[(2,.bool s)]∧k=[]∧F.d5 s=some r) ?_ ?_
  ·refine Jv 0 ?_;refine Jz [0] [] [.n,.b 0 2,.n,.n,.n,.sy .n,.sy (.b 0 2),.sy .n,.sy .n,.pk,.n] [(20,.bool (bif decide ((1:Int)≤(e.2.2.size:Int))then decide ((e.2.2.size:Int)≤16)else false))] ?_;refine Vs (j:=20) rfl a (fun a=>?_) (fun a=>?_)
   ·refine Jz [0] [] [.on .n,.on (.b 0 2)] [(22,.string e.2.2)] ?_;refine Vk (dj:=20) rfl rfl ?_;refine Vw 1 [] a (o_aN e.2.2 o) .nil ?_;rintro w - a _ _ ⟨rfl,rfl⟩;refine Ve ?_;refine J0 2 [(2,.bool w)] (Jy ?_);exact Vi ⟨w,rfl,rfl,a⟩
   refine Jz [] [] [.off,.off,.off,.n,.n] [(2,.bool false)] (Jy ?_);exact Vi ⟨false,rfl,rfl,a⟩
  rintro _ _ ⟨s,rfl,rfl,a⟩;rw[F.d5]at a;obtain rfl:=J7 a;exact Va [] ⟨rfl,rfl⟩
 refine J4 [1] [0] (fun h k=>∃(t:Bool),h=[(25,.bool t)]∧k=[]∧F.dv e t=some r) ?_ ?_
 ·refine Jv 1 ?_;refine J0 2 [(25,.bool (decide (e.1=12)))] (Jw 1 ?_);refine Vr a ?_ ?_<;>intro p a
  ·refine Vy 1 ?_;exact Vi ⟨(decide (e.1=12)),rfl,rfl,a⟩
  refine Jv 0 ?_;refine J0 2 [(25,.bool (decide (e.1=22)))] (Jy ?_);exact Vi ⟨(decide (e.1=22)),rfl,rfl,a⟩
 rintro _ _ ⟨t,rfl,rfl,a⟩;rw[F.dv]at a;refine Ud a ?_ ?_<;>intro p a
 ·refine J4 [] [] (fun h k=>∃(u:Bool),h=[(2,.bool u)]∧k=[]∧F.du u=some r) ?_ ?_
  ·refine Jv 0 ?_;refine Jz [0] [] [.n,.b 0 2,.n,.n,.n] [(32,.bool (decide ((e.2.2.size:Int)≤4)))] ?_;refine V6 (j:=32) rfl a ?_ ?_<;>intro p a
   ·refine Jz [0] [] [.on .n,.on (.b 0 2)] [(34,.string e.2.2)] ?_;refine Vk (dj:=32) rfl rfl ?_;refine Vw 41 [] a (o_aN e.2.2 o) .nil ?_;rintro y - a _ _ ⟨rfl,rfl⟩;refine Ve ?_;refine J0 2 [(37,.bool y)] ?_;refine Vs (j:=37) rfl a (fun a=>?_) (fun a=>?_)
    ·refine Jz [0] [] [.on .n,.on (.b 0 2)] [(39,.string e.2.2)] ?_;refine Vk (dj:=37) rfl rfl ?_;refine Vw 81 [] a (o_bt e.2.2 o) .nil ?_;rintro x - a _ _ ⟨L,c12,rfl,rfl⟩;refine Ve ?_;refine Jz [] [] [.on .n,.on .n,.n,.n] [(2,.bool (decide ((x.length:Int)=1)))] (Jy ?_);exact Vi ⟨(decide ((x.length:Int)=1)),rfl,rfl,a⟩
    refine Jz [] [] [.off,.off,.off,.off,.off,.n,.n] [(2,.bool false)] (Jy ?_);exact Vi ⟨false,rfl,rfl,a⟩
   refine Jz [] [] [.off,.off,.off,.n,.n,.off,.off,.off,.off,.off,.n,.n] [(2,.bool false)] (Jy ?_);exact Vi ⟨false,rfl,rfl,a⟩
  rintro _ _ ⟨u,rfl,rfl,a⟩;rw[F.du]at a;obtain rfl:=J7 a;exact Va [] ⟨rfl,rfl⟩
 refine Jv 1 ?_;refine Jz [0] [] [.n,.b 0 2,.n,.n] [(2,.bool (decide (e.2.2=(ByteArray.mk #[]))))] (Jw 1 ?_);obtain rfl:=J7 a;exact Va [] ⟨rfl,rfl⟩
def F.c5 (e:Int→Option Int)(a:Int)(h:Bool):Option Int:=if h=true then(some 0)else(A.gd (Z.R64 (a+1)) (e (a+1)))
def F.be (a:D81)(e:(List Int)):Nat→Int→Option Int
 |0,_=>none
 |f+1,h=>if h<(e.length:Int)then((A.ix e h).bind fun k=>(if k=a.1 then((F.eL a).bind fun o=>(if o=true then((F.eQ a).bind fun p=>(F.c5 (F.be a e f) h p))else(F.c5 (F.be a e f) h false)))else(F.c5 (F.be a e f) h false)))else(some 60)
def F.bs (a:D81)(e:(List Int))(h:Bool):Option Int:=if h=true then(some 0)else(F.be a e A.FU 0)
def F.ei (h:Int)(a:D81):Option Int:=(F.cS h).bind fun e=>(if(e.length:Int)=0 then(F.bs a e (decide (a=(0,0,ByteArray.mk #[]))))else(F.bs a e false))
theorem o_bu (s:Int)(k:D81)(a2:A.h6 s)(L:A.h6 k.1)(N:A.h6 k.2.1)(O:k.2.2.size≤maxLen)(r:Int)(h:F.ei s k=some r):
    A.Ct Tryz.prog 124 [A.i s,.agg #[A.i k.1,A.i k.2.1,.string k.2.2]] [] [] (fun v H'=>v=A.i r∧H'=[]∧A.h6 r):=by
 refine J1 Tryz.func124 rfl Tryz.ntmps124 rfl fun w0 F0=>?_;rw[F.ei]at h;refine Jv 1 ?_;refine Vc 0 (cs:=[A.i k.1,A.i k.2.1,.string k.2.2]) fun g1=>?_;refine J0 1 [] (Vb 2 ?_);refine J0 1 [(7,A.i s)] ?_;refine Vw 1 [] h (o_bJ s a2) .nil ?_;rintro p - h _ _ ⟨U,V,rfl,rfl⟩;refine Ve ?_;refine J0 1 [(5,.slice U p.length V)] (Jw 2 ?_);refine J4 [3,5] [0,1] (fun u z=>∃(E:Bool),u=[(16,.bool E)]∧z=[]∧F.bs k p E=some r) ?_ ?_
 ·refine Jv 0 ?_;refine J0 4 [(12,.bool (decide ((p.length:Int)=0)))] ?_;refine V6 (j:=12) rfl h ?_ ?_<;>intro B h
  ·refine Jz [0] [] [.on (.b 0 0),.on .n] [(13,.agg #[A.i k.1,A.i k.2.1,.string k.2.2]),(14,.agg #[A.i 0,A.i 0,.string (ByteArray.mk #[])])] ?_;refine Vk (dj:=12) rfl rfl ?_;refine Uc rfl (fun a w hf hh=>eqagg_eql82 (x:=k) (y:=(0,0,ByteArray.mk #[])) (hf.eval rfl) (hf.eval rfl)) ?_;refine J0 1 [(16,.bool (decide (k=(0,0,ByteArray.mk #[]))))] (Jy ?_);exact Vi ⟨(decide (k=(0,0,ByteArray.mk #[]))),rfl,rfl,h⟩
  refine Jz [] [] [.off,.off,.off,.n] [(16,.bool false)] (Jy ?_);exact Vi ⟨false,rfl,rfl,h⟩
 rintro _ _ ⟨E,rfl,rfl,h⟩;rw[F.bs]at h;refine Ud h ?_ ?_<;>intro B h
 ·refine Jv 1 ?_;refine J0 1 [(4,A.i 0)] (Jw 1 ?_);obtain rfl:=J7 h;exact Va [] ⟨rfl,rfl,J5⟩
 refine Jv 4 ?_;refine J0 1 [(6,A.i 0)] (Jw 2 ?_);refine Vo [3,5] [0,1] (fun f u z=>∃(o:Int),u=[(6,A.i o)]∧z=[]∧A.h6 o∧F.be k p f o=some r) ⟨0,rfl,rfl,J5,h⟩ ?_;rintro I _ _ ⟨o,rfl,rfl,a6,h⟩;rcases I with _|I
 ·exact Vm h
 rw[F.be]at h;refine Jv 2 ?_;refine J0 4 [(20,.bool (decide (o<(p.length:Int))))] (Jw 1 ?_);refine Vr h ?_ ?_<;>intro B h
 ·refine V3 4 ?_;refine J4 [3,5,6] [0,1] (fun u z=>∃(J:Bool),u=[(37,.bool J)]∧z=[]∧F.c5 (F.be k p I) o J=some r) ?_ ?_
  ·refine Vl mixed 15 15 (A.mb 15 0) ?_;refine Vh J3 [] [0,1] [0] [] (A.mb 15 51) 11 [(0,.n),(1,.n),(4,.n),(5,.b 0 0)] [(23,.slice U p.length V),(24,A.i o),(28,A.i k.1)] ?_;have⟨a3,W,h⟩:=Vx h;refine Up 1 203 W fun a7=>?_;intro a8 a4;refine Vf J3 [0,1] l5r 2 (A.mb 15 55) rfl (fun a w hf hh=>Uu (t:=A.ti) W a4 hf) ?_;refine Vh J3 l5r l5r [] [203] (A.mb 15 255) 7 [(3,.e 0 0),(6,.n),(7,.n)] [(30,.bool (decide (a3=k.1)))] ?_;refine Ui (j:=30) rfl h ?_ ?_<;>intro B h
   ·refine Vh J3 l5r l5r [0] [] (A.mb 15 511) 6 [(8,.on (.b 0 0))] [(31,.agg #[A.i k.1,A.i k.2.1,.string k.2.2])] ?_;refine J8 9 ?_;refine Vk (dj:=30) rfl rfl ?_;refine Vw 204 [] h (o_bd k L N O) .nil ?_;rintro a5 - h _ _ ⟨rfl,rfl⟩;refine Ve ?_;refine Vg (A.mb 15 1023) l5r ?_;refine Vh J3 l5r l5r [] [] (A.mb 15 4095) 3 [(10,.n),(11,.n)] [(34,.bool a5)] ?_;refine A.AH.cnd (j:=34) rfl h (fun h=>?_) (fun h=>?_)
    ·refine Vh J3 l5r l5r [0] [] (A.mb 15 8191) 2 [(12,.on (.b 0 0))] [(35,.agg #[A.i k.1,A.i k.2.1,.string k.2.2])] ?_;refine J8 13 ?_;refine Vk (dj:=34) rfl rfl ?_;refine Vw 244 [] h (o_bK k L N O) .nil ?_;rintro X - h _ _ ⟨rfl,rfl⟩;refine Ve ?_;refine Vg (A.mb 15 16383) l5r ?_;refine Vh J3 l5r l5r [] [] (A.mb 15 32767) 0 [(14,.n)] [(37,.bool X)] (J9 ?_);exact Vi ⟨X,rfl,rfl,h⟩
    refine Vh J3 l5r l5r [] [] (A.mb 15 32767) 0 [(12,.off),(13,.off),(14,.n)] [(37,.bool false)] (J9 ?_);exact Vi ⟨false,rfl,rfl,h⟩
   refine Vh J3 l5r l5r [] [] (A.mb 15 32767) 0 [(8,.off),(9,.off),(10,.n),(11,.n),(12,.off),(13,.off),(14,.n)] [(37,.bool false)] (J9 ?_);exact Vi ⟨false,rfl,rfl,h⟩
  rintro _ _ ⟨J,rfl,rfl,h⟩;rw[F.c5]at h;refine Ud h ?_ ?_<;>intro B h
  ·refine Jv 1 ?_;refine J0 1 [(4,A.i 0)] (Jw 1 ?_);obtain rfl:=J7 h;exact Va [] ⟨rfl,rfl,J5⟩
  refine Jv 3 ?_;have⟨Y,h⟩:=Vq h;refine Ub 3 [Z.R64 (o+1)] [(6,A.i (o+1))] Y (Jy ?_);exact Vi ⟨_,Qh _,⟨(o+1),rfl,rfl,(J2 Y),h⟩⟩
 refine Jv 3 ?_;refine J0 1 [(4,A.i 60)] (Jw 1 ?_);obtain rfl:=J7 h;exact Va [] ⟨rfl,rfl,(Vd .i64 (60) rfl)⟩
def F.dH (e:Int→Option Int)(a:Int)(h:Bool):Option Int:=if h=true then(some 80)else(A.gd (Z.R64 (a+1)) (e (a+1)))
def F.bT (k:Int→Option Int)(a:D23)(e:Int):Nat→Int→Option Int
 |0,_=>none
 |f+1,h=>(A.ix a e).bind fun p=>(if h<(p.2.2.1.length:Int)then((A.ix a e).bind fun s=>((A.ix s.2.2.1 h).bind fun t=>((F.cO a t).bind fun o=>(if o<0 then(F.dH (F.bT k a e f) h true)else((A.ix a o).bind fun u=>(F.dH (F.bT k a e f) h (decide (u.2.1=15))))))))else(A.gd (Z.R64 (e+1)) (k (e+1))))
def F.aO (a:D23):Nat→Int→Option Int
 |0,_=>none
 |f+1,e=>if e<(a.length:Int)then(F.bT (F.aO a f) a e A.FU 0)else(some 0)
def F.bt (a:D23):Nat→Int→Option Int
 |0,_=>none
 |f+1,e=>if e<(a.length:Int)then((A.ix a e).bind fun h=>((A.ix a e).bind fun k=>((F.ei h.2.1 k.2.2.2.1).bind fun o=>(if o≠0 then(some 60)else(A.gd (Z.R64 (e+1)) ((F.bt a f) (e+1)))))))else(F.aO a A.FU 0)
def F.cj (a:D23):Nat→Int→Option Int
 |0,_=>none
 |f+1,e=>if e<(a.length:Int)then((F.eY a e).bind fun h=>(if(!h)=true then(some 80)else(A.gd (Z.R64 (e+1)) ((F.cj a f) (e+1)))))else(F.bt a A.FU 0)
def F.eJ (a:D23):Option Int:=if(32:Int)<(a.length:Int)then(some 80)else(F.cj a A.FU 0)
theorem o_bv(k:D23)(r:Int)(h:F.eJ k=some r):
    A.Ct Tryz.prog 83 [.agg #[.slice A0_ k.length c1_]] [(0,.sh (.slice T83) [.slice A0_ k.length c1_] k)] [] (fun v H'=>v=A.i r∧H'=[]∧A.h6 r):=by
 refine J1 Tryz.func83 rfl Tryz.ntmps83 rfl fun w0 F0=>?_;rw[F.eJ]at h;refine Jv 1 ?_;refine Vc 1 (cs:=[.slice A0_ k.length c1_]) fun g1=>?_;refine J0 1 [] (Vb 3 ?_);refine Jz [1] [] [.n,.b 0 0,.n,.n] [(11,.bool (decide ((32:Int)<(k.length:Int))))] (Jw 1 ?_);refine Vr h ?_ ?_<;>intro B h
 ·refine Jv 1 ?_;refine J0 1 [(2,A.i 80)] (Jw 1 ?_);obtain rfl:=J7 h;exact Va [] ⟨rfl,rfl,(Vd .i64 (80) rfl)⟩
 refine Jv 4 ?_;refine J0 1 [(3,A.i 0)] (Jw 2 ?_);refine Vo [1] [0,1] (fun f y z=>∃(u:Int),y=[(3,A.i u)]∧z=[]∧A.h6 u∧F.cj k f u=some r) ⟨0,rfl,rfl,J5,h⟩ ?_;rintro U _ _ ⟨u,rfl,rfl,a9,h⟩;rcases U with _|U
 ·exact Vm h
 rw[F.cj]at h;refine Jv 2 ?_;refine Jz [1] [] [.n,.n,.b 0 0,.n,.n] [(16,.bool (decide (u<(k.length:Int))))] (Jw 1 ?_);refine Vr h ?_ ?_<;>intro B h
 ·refine Jv 5 ?_;refine Jz [1] [] [.b 0 0,.n] [(19,.agg #[.slice A0_ k.length c1_]),(20,A.i u)] ?_;refine Vw 2884 [] h (o_bT A0_ c1_ k u a9) (.s 0 .nil) ?_;rintro r5 - h _ _ ⟨rfl,rfl⟩;refine Ve ?_;refine J0 1 [(22,.bool (!r5))] (Jw 1 ?_);refine Ud h ?_ ?_<;>intro B h
  ·refine Jv 1 ?_;refine J0 1 [(2,A.i 80)] (Jw 1 ?_);obtain rfl:=J7 h;exact Va [] ⟨rfl,rfl,(Vd .i64 (80) rfl)⟩
  refine Jv 3 ?_;have⟨V,h⟩:=Vq h;refine Ub 3 [Z.R64 (u+1)] [(3,A.i (u+1))] V (Jy ?_);exact Vi ⟨_,Qh _,⟨(u+1),rfl,rfl,(J2 V),h⟩⟩
 refine Jv 4 ?_;refine J0 1 [(4,A.i 0)] (Jw 2 ?_);refine Vo [1] [0,1] (fun f y z=>∃(x:Int),y=[(4,A.i x)]∧z=[]∧A.h6 x∧F.bt k f x=some r) ⟨0,rfl,rfl,J5,h⟩ ?_;rintro W _ _ ⟨x,rfl,rfl,an,h⟩;rcases W with _|W
 ·exact Vm h
 rw[F.bt]at h;refine Jv 2 ?_;refine Jz [1] [] [.n,.n,.b 0 0,.n,.n] [(27,.bool (decide (x<(k.length:Int))))] (Jw 1 ?_);refine Vr h ?_ ?_<;>intro B h
 ·refine V3 5 ?_;refine Vl mixed 14 14 (A.mb 14 0) ?_;refine Vh J3 [] [0,1] [1] [] (A.mb 14 455) 8 [(0,.n),(2,.n),(6,.n),(8,.n),(1,.b 0 0),(7,.b 0 0)] [(32,A.i x),(38,A.i x),(31,.slice A0_ k.length c1_),(37,.slice A0_ k.length c1_)] ?_;have⟨X,Y,h⟩:=Vx h;refine Uh 0 3858 Y fun aa=>?_;intro ao ap aq ar ab;refine Vf J3 [0,1] l5d1 3 (A.mb 14 463) rfl (fun a w hf hh=>Vj (t:=T83) Y ab hf) ?_;refine Vh J3 l5d1 l5d1 [] [3858] (A.mb 14 511) 5 [(4,.n),(5,.e 0 1)] [(35,A.i X.2.1)] ?_;have⟨E,a1,h⟩:=Vx h;refine Uh 0 3860 a1 fun J=>?_;intro au av aw ax ac;refine Vf J3 l5d1 l5i 9 (A.mb 14 1023) rfl (fun a w hf hh=>Vj (t:=T83) a1 ac hf) ?_;refine Vh J3 l5i l5i [] [3860] (A.mb 14 4095) 2 [(10,.n),(11,.e 0 3)] [(41,.agg #[A.i E.2.2.2.1.1,A.i E.2.2.2.1.2.1,.string E.2.2.2.1.2.2])] ?_;refine J8 12 ?_;refine Vw 3862 [] h (o_bu X.2.1 E.2.2.2.1 aa.2.1 J.2.2.2.1.1 J.2.2.2.1.2.1 J.2.2.2.1.2.2) .nil ?_;rintro ad - h _ _ ⟨rfl,rfl,hr29⟩;refine Ve ?_;refine Vg (A.mb 14 8191) l5i ?_;refine Vh J3 l5i l5i [] [] (A.mb 14 16383) 0 [(13,.n)] [(43,.bool (decide (ad≠0)))] (J9 ?_);refine Uy 1 ?_;refine Vr h ?_ ?_<;>intro B h
  ·refine Jv 1 ?_;refine J0 1 [(2,A.i 60)] (Jw 1 ?_);obtain rfl:=J7 h;exact Va [] ⟨rfl,rfl,(Vd .i64 (60) rfl)⟩
  refine Jv 3 ?_;have⟨a2,h⟩:=Vq h;refine Ub 3 [Z.R64 (x+1)] [(4,A.i (x+1))] a2 (Jy ?_);exact Vi ⟨_,Qh _,⟨(x+1),rfl,rfl,(J2 a2),h⟩⟩
 refine Jv 4 ?_;refine J0 1 [(5,A.i 0)] (Jw 2 ?_);refine Vo [1] [0,1] (fun f y z=>∃(o:Int),y=[(5,A.i o)]∧z=[]∧A.h6 o∧F.aO k f o=some r) ⟨0,rfl,rfl,J5,h⟩ ?_;rintro I _ _ ⟨o,rfl,rfl,ay,h⟩;rcases I with _|I
 ·exact Vm h
 rw[F.aO]at h;refine Jv 2 ?_;refine Jz [1] [] [.n,.n,.b 0 0,.n,.n] [(48,.bool (decide (o<(k.length:Int))))] (Jw 1 ?_);refine Vr h ?_ ?_<;>intro B h
 ·refine Jv 5 ?_;refine J0 1 [(6,A.i 0)] (Jw 2 ?_);refine Vo [1,5] [0,1] (fun f y z=>∃(p:Int),y=[(6,A.i p)]∧z=[]∧A.h6 p∧F.bT (F.aO k I) k o f p=some r) ⟨0,rfl,rfl,J5,h⟩ ?_;rintro L _ _ ⟨p,rfl,rfl,az,h⟩;rcases L with _|L
  ·exact Vm h
  rw[F.bT]at h;refine Jv 2 ?_;refine Jz [1] [] [.n,.n,.b 0 0,.n] [(51,A.i p),(53,.slice A0_ k.length c1_),(54,A.i o)] ?_;have⟨ae,af,h⟩:=Vx h;refine V2 0 4278 af fun b0=>?_;intro b1 b2 b3 b4;refine Jz [] [4278] [.n,.e 0 2,.n,.n] [(59,.bool (decide (p<(ae.2.2.1.length:Int))))] (Jw 1 ?_);refine Vr h ?_ ?_<;>intro B h
  ·refine V3 5 ?_;refine Vl mixed 12 12 (A.mb 12 0) ?_;refine Vh J3 [] [0,1,4278,4279] [1] [] (A.mb 12 143) 7 [(0,.b 0 0),(1,.n),(3,.n),(7,.n),(2,.b 0 0)] [(62,.agg #[.slice A0_ k.length c1_]),(65,A.i o),(69,A.i p),(64,.slice A0_ k.length c1_)] ?_;have⟨ag,a3,h⟩:=Vx h;refine Uh 0 4280 a3 fun b5=>?_;intro ah ai b6 b7 aj;refine Vf J3 [0,1,4278,4279] l5s 4 (A.mb 12 159) rfl (fun a w hf hh=>Vj (t:=T83) a3 aj hf) ?_;refine Vh J3 l5s l5s [] [4280] (A.mb 12 255) 4 [(5,.n),(6,.e 0 2)] [(68,.slice ah ag.2.2.1.length ai)] ?_;have⟨a4,a5,h⟩:=Vx h;refine Uh 4281 4282 a5 fun ak=>?_;intro b9 bb al;refine Vf J3 l5s l5f 8 (A.mb 12 511) rfl (fun a w hf hh=>Vj (t:=A.ti) a5 al hf) ?_;refine Vh J3 l5f l5f [] [4282] (A.mb 12 1023) 2 [(9,.e 0 0)] [(71,A.i a4)] ?_;refine J8 10 ?_;refine Vw 4283 [] h (o_s A0_ c1_ k a4 ak) (.s 0 .nil) ?_;rintro N - h _ _ ⟨rfl,rfl,hr60⟩;refine Ve ?_;refine Vg (A.mb 12 2047) l5f ?_;refine Vh J3 l5f l5f [] [] (A.mb 12 4095) 0 [(11,.n)] [(7,A.i N)] (J9 ?_);refine Uy 1 ?_;refine J4 [1,5,6] [0,1] (fun y z=>∃(O:Bool),y=[(83,.bool O)]∧z=[]∧F.dH (F.bT (F.aO k I) k o L) p O=some r) ?_ ?_
   ·refine Jv 0 ?_;refine J0 3 [(75,.bool (decide (N<0)))] ?_;refine V6 (j:=75) rfl h ?_ ?_<;>intro B h
    ·refine Jz [] [] [.off,.off,.off,.off,.off,.off,.off,.n] [(83,.bool true)] (Jy ?_);exact Vi ⟨true,rfl,rfl,h⟩
    refine Jz [1] [] [.on .n,.on (.b 0 0),.on .n] [(77,.slice A0_ k.length c1_),(78,A.i N)] ?_;refine Vk (dj:=75) rfl rfl ?_;have⟨a6,am,h⟩:=Vx h;refine V2 0 4323 am fun bc=>?_;intro bd be bg bh;refine Jz [] [4323] [.on .n,.on (.e 0 1),.on .n,.n] [(83,.bool (decide (a6.2.1=15)))] (Jy ?_);exact Vi ⟨(decide (a6.2.1=15)),rfl,rfl,h⟩
   rintro _ _ ⟨O,rfl,rfl,h⟩;rw[F.dH]at h;refine Ud h ?_ ?_<;>intro B h
   ·refine Jv 1 ?_;refine J0 1 [(2,A.i 80)] (Jw 1 ?_);obtain rfl:=J7 h;exact Va [] ⟨rfl,rfl,(Vd .i64 (80) rfl)⟩
   refine Jv 3 ?_;have⟨a7,h⟩:=Vq h;refine Ub 3 [Z.R64 (p+1)] [(6,A.i (p+1))] a7 (Jy ?_);exact Vi ⟨_,Qh _,⟨(p+1),rfl,rfl,(J2 a7),h⟩⟩
  refine Jv 3 ?_;have⟨a8,h⟩:=Vq h;refine Ub 3 [Z.R64 (o+1)] [(5,A.i (o+1))] a8 (Jy ?_);exact Vi ⟨_,Qh _,⟨(o+1),rfl,rfl,(J2 a8),h⟩⟩
 refine Jv 3 ?_;refine J0 1 [(2,A.i 0)] (Jw 1 ?_);obtain rfl:=J7 h;exact Va [] ⟨rfl,rfl,J5⟩
def F.dI (e:Int→Option Bool)(a:Int)(h:Bool):Option Bool:=if h=true then(some false)else(A.gd (Z.R64 (a+1)) (e (a+1)))
def F.bU (h:D23)(a:D83)(k:(List Bool)):Nat→Int→Option Bool
 |0,_=>none
 |f+1,e=>if e<(a.2.2.1.length:Int)then(if a.2.1≠14 then((A.ix a.2.2.1 e).bind fun o=>((F.cO h o).bind fun p=>((A.ix k p).bind fun s=>(F.dI (F.bU h a k f) e (!s)))))else(F.dI (F.bU h a k f) e false))else(some true)
def F.eK (a:D23)(e:D83)(h:(List Bool)):Option Bool:=F.bU a e h A.FU 0
theorem o_bw(p:D23)(h:D83)(u:(List Bool))(X:A.h6 h.1)(Y:A.h6 h.2.1)(a3:A.h6 h.2.2.2.1.1)(a4:A.h6 h.2.2.2.1.2.1)(a5:h.2.2.2.1.2.2.size≤maxLen)(a6:h.2.2.2.2.1.size≤maxLen)(a7:A.h6 h.2.2.2.2.2.1)(a8:A.h6 h.2.2.2.2.2.2)(r:Bool)(k:F.eK p h u=some r):
    A.Ct Tryz.prog 125 [.agg #[.slice A0_ p.length c1_],.agg #[A.i h.1,A.i h.2.1,.slice A4_ h.2.2.1.length c5_,A.i h.2.2.2.1.1,A.i h.2.2.2.1.2.1,.string h.2.2.2.1.2.2,.string h.2.2.2.2.1,A.i h.2.2.2.2.2.1,A.i h.2.2.2.2.2.2],.slice A12_ u.length c13_] [(0,.sh (.slice T83) [.slice A0_ p.length c1_] p),(1,.sh A.TI [.slice A4_ h.2.2.1.length c5_] h.2.2.1),(2,.ln Z.Ty.bool A12_ c13_ u)] [] (fun v H'=>v=.bool r∧H'=[]):=by
 refine J1 Tryz.func125 rfl Tryz.ntmps125 rfl fun w0 F0=>?_;rw[F.eK]at k;refine Jv 1 ?_;refine Vc 3 (cs:=[.slice A0_ p.length c1_]) fun g1=>?_;refine Vc 4 (cs:=[A.i h.1,A.i h.2.1,.slice A4_ h.2.2.1.length c5_,A.i h.2.2.2.1.1,A.i h.2.2.2.1.2.1,.string h.2.2.2.1.2.2,.string h.2.2.2.2.1,A.i h.2.2.2.2.2.1,A.i h.2.2.2.2.2.2]) fun g2=>?_;refine J0 1 [] (Vb 3 ?_);refine J0 1 [(7,A.i 0)] (Jw 2 ?_);refine Vo [2,3,4] l5n (fun f x y=>∃(o:Int),x=[(7,A.i o)]∧y=[]∧A.h6 o∧F.bU p h u f o=some r) ⟨0,rfl,rfl,J5,k⟩ ?_;rintro z _ _ ⟨o,rfl,rfl,a9,k⟩;rcases z with _|z
 ·exact Vm k
 rw[F.bU]at k;refine Jv 2 ?_;refine Jz [4] [] [.n,.n,.b 0 2,.n,.n] [(12,.bool (decide (o<(h.2.2.1.length:Int))))] (Jw 1 ?_);refine Vr k ?_ ?_<;>intro E k
 ·refine V3 4 ?_;refine J4 [2,3,4,7] l5n (fun x y=>∃(B:Bool),x=[(30,.bool B)]∧y=[]∧F.dI (F.bU p h u z) o B=some r) ?_ ?_
  ·refine Vl mixed 16 16 (A.mb 16 0) ?_;refine Vh J3 [] l5n [4] [] (A.mb 16 15) 12 [(0,.n),(1,.b 0 1),(2,.n),(3,.n)] [(18,.bool (decide (h.2.1≠14)))] ?_;refine Ui (j:=18) rfl k ?_ ?_<;>intro E k
   ·refine Vh J3 l5n l5n [3,4] [] (A.mb 16 511) 7 [(4,.on .n),(5,.on (.b 0 0)),(6,.on .n),(8,.on .n),(7,.on (.b 1 2))] [(19,.slice A12_ u.length c13_),(20,.agg #[.slice A0_ p.length c1_]),(23,A.i o),(22,.slice A4_ h.2.2.1.length c5_)] ?_;have⟨I,J,k⟩:=Vx k;refine Uh 1 89 J fun U=>?_;intro aa ab V;refine Ue J3 l5n l5c1 9 (A.mb 16 1023) (dj:=18) rfl (fun a w hf hh=>Vj (t:=A.ti) J V hf) ?_;refine Vh J3 l5c1 l5c1 [] [89] (A.mb 16 2047) 5 [(10,.on (.e 0 0))] [(25,A.i I)] ?_;refine J8 11 ?_;refine Vk (dj:=18) rfl rfl ?_;refine Vw 90 [] k (o_s A0_ c1_ p I U) (.s 0 .nil) ?_;rintro ac - k _ _ ⟨rfl,rfl,hr16⟩;refine Ve ?_;refine Vg (A.mb 16 4095) l5c1 ?_;have⟨L,N,k⟩:=Vx k;refine Vn 2 130 N fun ad=>?_;intro ae af W;refine Ue J3 l5c1 [0,1,2,3,4,89,130] 12 (A.mb 16 8191) (dj:=18) rfl (fun a w hf hh=>Vj (t:=Z.Ty.bool) N W hf) ?_;refine Vh J3 [0,1,2,3,4,89,130] [0,1,2,3,4,89,130] [] [130] (A.mb 16 65535) 0 [(13,.on (.e 0 0)),(14,.on .n),(15,.n)] [(30,.bool (!L))] (J9 ?_);exact Vi ⟨(!L),rfl,rfl,k⟩
   refine Vh J3 l5n l5n [] [] (A.mb 16 65535) 0 [(4,.off),(5,.off),(6,.off),(8,.off),(7,.off),(9,.off),(10,.off),(11,.off),(12,.off),(13,.off),(14,.off),(15,.n)] [(30,.bool false)] (J9 ?_);exact Vi ⟨false,rfl,rfl,k⟩
  rintro _ _ ⟨B,rfl,rfl,k⟩;rw[F.dI]at k;refine Ud k ?_ ?_<;>intro E k
  ·refine Jv 1 ?_;refine J0 1 [(6,.bool false)] (Jw 1 ?_);obtain rfl:=J7 k;exact Va [] ⟨rfl,rfl⟩
  refine Jv 3 ?_;have⟨O,k⟩:=Vq k;refine Ub 3 [Z.R64 (o+1)] [(7,A.i (o+1))] O (Jy ?_);exact Vi ⟨_,Qh _,⟨(o+1),rfl,rfl,(J2 O),k⟩⟩
 refine Jv 3 ?_;refine J0 1 [(6,.bool true)] (Jw 1 ?_);obtain rfl:=J7 k;exact Va [] ⟨rfl,rfl⟩
def F.dJ (e:Int→Int→Option ((List Int)×Bool))(a:Int)(h:Int):Option ((List Int)×Bool):=A.gd (Z.R64 (a+1)) (e h (a+1))
def F.c6 (e:Int→Int→Option ((List Int)×Bool))(h:Int)(a:Int)(k:Bool):Option ((List Int)×Bool):=if k=true then(F.dJ e a a)else(F.dJ e a h)
def F.a3 (p:(List Bool)→(List Int)→Option ((List Int)×Bool))(e:D23)(h:List Bool)(o:List Int):Nat→Int→Int→Option ((List Int)×Bool)
 |0,_,_=>none
 |f+1,a,k=>if(bif decide (k<(e.length:Int))then decide (k<(e.length:Int))else false)=true then(if a<0 then((A.ix h k).bind fun s=>(if(!s)=true then((A.ix e k).bind fun t=>((F.eK e t h).bind fun u=>(F.c6 (F.a3 p e h o f) a k u)))else(F.c6 (F.a3 p e h o f) a k false)))else(F.c6 (F.a3 p e h o f) a k false))else(if a<0 then(some ([],false))else((A.ix h a).bind fun w=>(A.gd ((List.length (α:=Int) o+List.length (α:=Int) [a])*8≤140737488355328) (p (h.set a.toNat true) (o++[a])))))
def F.bu (a:D23):Nat→(List Bool)→(List Int)→Option ((List Int)×Bool)
 |0,_,_=>none
 |f+1,h,e=>if(e.length:Int)<(a.length:Int)then(F.a3 (F.bu a f) a h e A.FU (-1) 0)else(some (e,true))
def F.dK (a:D23):Option ((List Int)×Bool):=A.gd (1*a.length≤140737488355328) (F.bu a A.FU (List.replicate a.length (false:Bool)) [])
theorem o_bx(p:D23)(r:(List Int)×Bool)(h:F.dK p=some r):
    A.Ct Tryz.prog 84 [.agg #[.slice A0_ p.length c1_]] [(0,.sh (.slice T83) [.slice A0_ p.length c1_] p)] [] (fun v H'=>∃(A0':Option Addr) (c1':Nat),v=.tuple #[.slice A0' r.1.length c1',.bool r.2]∧H'=[(0,.own A.ti 3 A0' c1' r.1)]):=by
 refine J1 Tryz.func84 rfl Tryz.ntmps84 rfl fun w0 F0=>?_;rw[F.dK]at h;refine Jv 1 ?_;refine Vc 1 (cs:=[.slice A0_ p.length c1_]) fun g1=>?_;refine J0 2 [] (Vb 2 ?_);refine J0 1 [(4,.slice none 0 0)] (Vb 2 ?_);refine Jz [1] [] [.n,.b 0 0,.n] [(10,A.i (p.length:Int))] ?_;have⟨ac,h⟩:=Vq h;refine A.AL.mks 2 (t:=Z.Ty.bool) (u:=p.length) (false:Bool) ac inf4 (fun N=>?_) rfl rfl rfl rfl rfl
 refine J0 1 [(5,.slice (some ⟨N,0,none⟩) p.length p.length)] (Jw 3 ?_);refine V9 145 A.ti 3 ?_;refine Vo [1,5] [0,1] (fun f J L=>∃(z:List Bool),∃(B:List Int),∃(O:Option Addr),∃(U:Nat),J=[(4,.slice O B.length U)]∧L=[(2,.own Z.Ty.bool 4 (some ⟨N,0,none⟩) p.length z),(145,.own A.ti 3 O U B)]∧p.length=z.length∧F.bu p f z B=some r) ⟨(List.replicate p.length (false:Bool)),[],none,0,rfl,rfl,(by rw[Xb]),h⟩ ?_;rintro V _ _ ⟨z,B,O,U,rfl,rfl,hn7,h⟩;rcases V with _|V
 ·exact Vm h
 rw[F.bu]at h;refine Jv 2 ?_;refine Jz [1] [] [.n,.n,.n,.b 0 0,.n,.n] [(17,.bool (decide ((B.length:Int)<(p.length:Int))))] (Jw 1 ?_);refine Vr h ?_ ?_<;>intro X h
 ·refine Jv 4 ?_;refine J0 1 [(6,A.i (-1))] (Vb 3 ?_);refine J0 1 [(7,A.i 0)] (Jw 2 ?_);refine Vo [1,4,5] l5z (fun f J L=>∃(x:Int),∃(y:Int),J=[(6,A.i x),(7,A.i y)]∧L=[]∧A.h6 x∧A.h6 y∧F.a3 (F.bu p V) p z B f x y=some r) ⟨(-1),0,rfl,rfl,(Vd .i64 (-1) rfl),J5,h⟩ ?_;rintro Y _ _ ⟨x,y,rfl,rfl,a2,ad,h⟩;rcases Y with _|Y
  ·exact Vm h
  rw[F.a3]at h;refine Jv 2 ?_;refine Jz [1] [] [.n,.n,.b 0 0,.n,.n,.n,.sy .n,.sy .n,.sy .n,.sy .n,.pk] [(28,.bool (bif decide (y<(p.length:Int))then decide (y<(p.length:Int))else false))] (Jw 1 ?_);refine Ud h ?_ ?_<;>intro X h
  ·refine V3 2 ?_;refine J4 [1,4,5,7] l5z (fun J L=>∃(W:Int),J=[(6,A.i W)]∧L=[]∧A.h6 W∧F.dJ (F.a3 (F.bu p V) p z B Y) y W=some r) ?_ ?_
   ·refine V3 1 ?_;refine J4 [1,4,5,6,7] l5z (fun J L=>∃(a1:Bool),J=[(49,.bool a1)]∧L=[]∧F.c6 (F.a3 (F.bu p V) p z B Y) x y a1=some r) ?_ ?_
    ·refine Vl mixed 19 19 (A.mb 19 0) ?_;refine Vh J3 [] l5z [] [] (A.mb 19 7) 16 [(0,.n),(1,.n),(2,.n)] [(33,.bool (decide (x<0)))] ?_;refine Ui (j:=33) rfl h ?_ ?_<;>intro X h
     ·refine Vh J3 l5z l5z [] [] (A.mb 19 31) 14 [(3,.on .n),(4,.on .n)] [(34,.slice (some ⟨N,0,none⟩) p.length p.length),(35,A.i y)] ?_;refine U3 34 (Ul (show p.length=z.length from hn7)) ?_;have⟨ae,a4,h⟩:=Vx h;refine Up 2 514 a4 fun ak=>?_;intro al af;refine Ue J3 l5z l5q 5 (A.mb 19 63) (dj:=33) rfl (fun a w hf hh=>Uu (t:=Z.Ty.bool) a4 af hf) ?_;refine Vh J3 l5q l5q [] [514] (A.mb 19 1023) 9 [(6,.on (.e 0 0)),(7,.on .n),(8,.n),(9,.n)] [(40,.bool (!ae))] ?_;refine A.AH.cnd (j:=40) rfl h (fun h=>?_) (fun h=>?_)
      ·refine Vh J3 l5q l5q [1] [] (A.mb 19 81919) 4 [(10,.on (.b 0 0)),(11,.on .n),(13,.on .n),(16,.on .n),(12,.on (.b 0 0))] [(41,.agg #[.slice A0_ p.length c1_]),(44,A.i y),(47,.slice (some ⟨N,0,none⟩) p.length p.length),(43,.slice A0_ p.length c1_)] ?_;have⟨E,a5,h⟩:=Vx h;refine Uh 0 515 a5 fun I=>?_;intro a6 c31 am an ag;refine Ue J3 l5q l5l 14 (A.mb 19 98303) (dj:=40) rfl (fun a w hf hh=>Vj (t:=T83) a5 ag hf) ?_;refine Vh J3 l5l l5l [] [515] (A.mb 19 131071) 2 [(15,.on (.e 0 0))] [(46,.agg #[A.i E.1,A.i E.2.1,.slice a6 E.2.2.1.length c31,A.i E.2.2.2.1.1,A.i E.2.2.2.1.2.1,.string E.2.2.2.1.2.2,.string E.2.2.2.2.1,A.i E.2.2.2.2.2.1,A.i E.2.2.2.2.2.2])] ?_;refine J8 17 ?_;refine Vk (dj:=40) rfl rfl ?_;refine U3 47 (Ul (show p.length=z.length from hn7)) ?_;refine Vw 517 [] h (o_bw A0_ a6 (some ⟨N,0,none⟩) c1_ c31 p.length p E z I.1 I.2.1 I.2.2.2.1.1 I.2.2.2.1.2.1 I.2.2.2.1.2.2 I.2.2.2.2.1 I.2.2.2.2.2.1 I.2.2.2.2.2.2) (.s 0 (.s 516 (.o 2 .nil))) ?_;rintro a7 - h _ _ ⟨rfl,rfl⟩;refine Ve ?_;refine Vg (A.mb 19 262143) l5l ?_;refine Vh J3 l5l l5l [] [] (A.mb 19 524287) 0 [(18,.n)] [(49,.bool a7)] (J9 ?_);exact Vi ⟨a7,rfl,rfl,h⟩
      refine Vh J3 l5q l5q [] [] (A.mb 19 524287) 0 [(10,.off),(11,.off),(13,.off),(16,.off),(12,.off),(14,.off),(15,.off),(17,.off),(18,.n)] [(49,.bool false)] (J9 ?_);exact Vi ⟨false,rfl,rfl,h⟩
     refine Vh J3 l5z l5z [] [] (A.mb 19 524287) 0 [(3,.off),(4,.off),(5,.off),(6,.off),(7,.off),(8,.n),(9,.n),(10,.off),(11,.off),(13,.off),(16,.off),(12,.off),(14,.off),(15,.off),(17,.off),(18,.n)] [(49,.bool false)] (J9 ?_);exact Vi ⟨false,rfl,rfl,h⟩
    rintro _ _ ⟨a1,rfl,rfl,h⟩;rw[F.c6]at h;refine Ud h ?_ ?_<;>intro X h
    ·refine Jv 0 ?_;refine J0 2 [(6,A.i y)] (Ug 1 ?_);exact Vi ⟨y,rfl,rfl,ad,h⟩
    refine Vy 2 ?_;exact Vi ⟨x,rfl,rfl,a2,h⟩
   rintro _ _ ⟨W,rfl,rfl,ah,h⟩;rw[F.dJ]at h;refine Jv 0 ?_;have⟨a8,h⟩:=Vq h;refine Ub 3 [Z.R64 (y+1)] [(7,A.i (y+1))] a8 (Jy ?_);exact Vi ⟨_,Qh _,⟨W,(y+1),rfl,rfl,ah,(J2 a8),h⟩⟩
  refine Jv 4 ?_;refine J0 2 [(52,.bool (decide (x<0)))] (Jw 1 ?_);refine Vr h ?_ ?_<;>intro X h
  ·refine Jv 1 ?_;refine J0 2 [(2,.slice none 0 0),(3,.bool false)] (Jw 1 ?_);obtain rfl:=J7 h;refine V9 557 A.ti 3 ?_;exact V4 [(0,557)] ⟨none,0,rfl,rfl⟩
  refine Jv 3 ?_;refine J0 2 [(53,.slice (some ⟨N,0,none⟩) p.length p.length),(54,A.i x)] ?_;refine U3 53 (Ul (show p.length=z.length from hn7)) ?_;have⟨ai,a9,h⟩:=Vx h;refine Um 2 558 a9 fun ao=>?_;intro ap aj;refine A.AL.setel 2 558 [558] (o:=0) (m:=1) (t:=Z.Ty.bool) (new:=[.bool true]) (es:=[.bool ai]) true a9 aj rfl ?_;refine Vb 1 ?_;refine J0 2 [(56,.slice O B.length U),(57,A.i x)] ?_;refine Vp 559 (ty:=A.ti) (cs:=[A.i x]) [x] ⟨⟨rfl,a2⟩,rfl⟩ (fun aq=>?_) Tryz.zeroValue3 Tryz.sizeOf3
  have⟨hl44,h⟩:=Vq h;refine V1 (k:=145) [] (Uk (k:=559) rfl) inf3 hl44 fun aa ab=>?_;refine J0 1 [(4,.slice aa ((B++[x]).length) ab)] (Ug 1 ?_);exact Vi ⟨_,Qh _,⟨(z.set x.toNat true),(B++[x]),aa,ab,rfl,rfl,(by rw[W5];exact hn7),h⟩⟩
 refine Jv 3 ?_;refine J0 3 [(2,.slice O B.length U),(3,.bool true)] (Jw 1 ?_);obtain rfl:=J7 h;exact V4 [(0,145)] ⟨O,U,rfl,rfl⟩
def F.dL (a:Int):Option Int:=some a
def F.a4 (a:Int):Option Int:=if(4:Int)<a then(F.dL (-1))else(F.dL a)
def F.c7 (a:Int)(e:Bool):Option Int:=if e=true then(if a≠0 then(F.a4 (-1))else(F.a4 a))else(F.a4 a)
def F.c8 (a:D83)(h:(List Int))(e:Int)(k:Bool):Option Int:=if k=true then((A.ix h 0).bind fun o=>((A.ix h 1).bind fun p=>(if o≠p then(F.a4 (-1))else(F.a4 e))))else(if a.2.1=11 then(F.c7 e (decide (a.2.1=11)))else(if a.2.1=16 then(F.c7 e (decide (a.2.1=16)))else(F.c7 e (decide (a.2.1=15)))))
def F.c9 (a:D83)(h:(List Int))(e:Int):Option Int:=if a.2.1=14 then(F.a4 a.2.2.2.2.2.2)else(if a.2.1=12 then(A.gd (Z.R64 (e+1)) (F.a4 (e+1)))else(if a.2.1=13 then(A.gd (Z.R64 (e-1)) (F.a4 (e-1)))else(if a.2.1=5 then(F.c8 a h e (decide (a.2.1=5)))else(F.c8 a h e (decide (a.2.1=9))))))
def F.ej (e:D83)(a:(List Int)):Option Int:=if(0:Int)<(a.length:Int)then((A.ix a 0).bind fun h=>(F.c9 e a h))else(F.c9 e a 0)
theorem o_bz(k:D83)(s:(List Int))(a8:A.h6 k.1)(a9:A.h6 k.2.1)(aa:A.h6 k.2.2.2.1.1)(ab:A.h6 k.2.2.2.1.2.1)(ac:k.2.2.2.1.2.2.size≤maxLen)(ad:k.2.2.2.2.1.size≤maxLen)(ae:A.h6 k.2.2.2.2.2.1)(W:A.h6 k.2.2.2.2.2.2)(r:Int)(h:F.ej k s=some r):
    A.Ct Tryz.prog 126 [.agg #[A.i k.1,A.i k.2.1,.slice A2_ k.2.2.1.length c3_,A.i k.2.2.2.1.1,A.i k.2.2.2.1.2.1,.string k.2.2.2.1.2.2,.string k.2.2.2.2.1,A.i k.2.2.2.2.2.1,A.i k.2.2.2.2.2.2],.slice A10_ s.length c11_] [(0,.sh A.TI [.slice A2_ k.2.2.1.length c3_] k.2.2.1),(1,.ln A.ti A10_ c11_ s)] [] (fun v H'=>v=A.i r∧H'=[]∧A.h6 r):=by
 refine J1 Tryz.func126 rfl Tryz.ntmps126 rfl fun w0 F0=>?_;rw[F.ej]at h;refine Jv 1 ?_;refine Vc 2 (cs:=[A.i k.1,A.i k.2.1,.slice A2_ k.2.2.1.length c3_,A.i k.2.2.2.1.1,A.i k.2.2.2.1.2.1,.string k.2.2.2.1.2.2,.string k.2.2.2.2.1,A.i k.2.2.2.2.2.1,A.i k.2.2.2.2.2.2]) fun g1=>?_;refine J0 1 [] (Vb 2 ?_);refine J0 1 [(5,A.i 0)] (Jw 1 ?_);refine J4 [1,2] [0,1,2] (fun u x=>∃(o:Int),u=[(5,A.i o)]∧x=[]∧A.h6 o∧F.c9 k s o=some r) ?_ ?_
 ·refine Jv 1 ?_;refine J0 3 [(8,.bool (decide ((0:Int)<(s.length:Int))))] (Jw 1 ?_);refine Vr h ?_ ?_<;>intro p h
  ·refine Jv 0 ?_;refine J0 1 [(9,.slice A10_ s.length c11_)] ?_;have⟨J,X,h⟩:=Vx h;refine Ua 1 3 X fun Y=>?_;intro af ag;refine Jz [] [3] [.e 0 0,.n] [(5,A.i J)] (Jy ?_);exact Vi ⟨J,rfl,rfl,Y,h⟩
  refine Vy 1 ?_;exact Vi ⟨0,rfl,rfl,J5,h⟩
 rintro _ _ ⟨o,rfl,rfl,B,h⟩;rw[F.c9]at h;refine J4 [] [] (fun u x=>∃(y:Int),u=[(5,A.i y)]∧x=[]∧A.h6 y∧F.a4 y=some r) ?_ ?_
 ·refine Jv 1 ?_;refine Jz [2] [] [.n,.b 0 1] [(13,A.i k.2.1)] (Vb 3 ?_);refine J0 2 [(14,.bool (decide (k.2.1=14)))] (Jw 1 ?_);refine Vr h ?_ ?_<;>intro p h
  ·refine Jv 0 ?_;refine Jz [2] [] [.n,.b 0 8,.n] [(5,A.i k.2.2.2.2.2.2)] (Ug 1 ?_);exact Vi ⟨k.2.2.2.2.2.2,rfl,rfl,W,h⟩
  refine Jv 1 ?_;refine J0 2 [(18,.bool (decide (k.2.1=12)))] (Jw 1 ?_);refine Vr h ?_ ?_<;>intro p h
  ·refine Jv 0 ?_;have⟨L,h⟩:=Vq h;refine Ub 3 [Z.R64 (o+1)] [(5,A.i (o+1))] L (Ug 1 ?_);exact Vi ⟨(o+1),rfl,rfl,(J2 L),h⟩
  refine Jv 1 ?_;refine J0 2 [(22,.bool (decide (k.2.1=13)))] (Jw 1 ?_);refine Vr h ?_ ?_<;>intro p h
  ·refine Jv 0 ?_;have⟨N,h⟩:=Vq h;refine Ub 3 [Z.R64 (o-1)] [(5,A.i (o-1))] N (Ug 1 ?_);exact Vi ⟨(o-1),rfl,rfl,(J2 N),h⟩
  refine J4 [1,5,13] [1] (fun u x=>∃(E:Bool),u=[(26,.bool E)]∧x=[]∧F.c8 k s o E=some r) ?_ ?_
  ·refine Jv 1 ?_;refine J0 2 [(26,.bool (decide (k.2.1=5)))] (Jw 1 ?_);refine Vr h ?_ ?_<;>intro p h
   ·refine Vy 1 ?_;exact Vi ⟨(decide (k.2.1=5)),rfl,rfl,h⟩
   refine Jv 0 ?_;refine J0 2 [(26,.bool (decide (k.2.1=9)))] (Jy ?_);exact Vi ⟨(decide (k.2.1=9)),rfl,rfl,h⟩
  rintro _ _ ⟨E,rfl,rfl,h⟩;rw[F.c8]at h;refine Ud h ?_ ?_<;>intro p h
  ·refine V3 1 ?_;refine Vl mixed 7 7 (A.mb 7 0) ?_;refine Vh J3 [] [1] [] [] (A.mb 7 9) 5 [(0,.n),(3,.n)] [(29,.slice A10_ s.length c11_),(32,.slice A10_ s.length c11_)] ?_;have⟨O,U,h⟩:=Vx h;refine Vn 1 4 U fun ah=>?_;intro ai aj a2;refine Vf J3 [1] [1,4] 1 (A.mb 7 11) rfl (fun a w hf hh=>Vj (t:=A.ti) U a2 hf) ?_;refine Vh J3 [1,4] [1,4] [] [4] (A.mb 7 15) 3 [(2,.e 0 0)] [(31,A.i O)] ?_;have⟨a3,V,h⟩:=Vx h;refine Vn 1 5 V fun ak=>?_;intro al am a5;refine Vf J3 [1,4] [1,4,5] 4 (A.mb 7 31) rfl (fun a w hf hh=>Vj (t:=A.ti) V a5 hf) ?_;refine Vh J3 [1,4,5] [1,4,5] [] [5] (A.mb 7 127) 0 [(5,.e 0 0),(6,.n)] [(35,.bool (decide (O≠a3)))] (J9 ?_);refine Uy 1 ?_;refine Vr h ?_ ?_<;>intro p h
   ·refine Jv 0 ?_;refine J0 1 [(5,A.i (-1))] (Ug 1 ?_);exact Vi ⟨(-1),rfl,rfl,(Vd .i64 (-1) rfl),h⟩
   refine Vy 2 ?_;exact Vi ⟨o,rfl,rfl,B,h⟩
  refine J4 [5] [] (fun u x=>∃(I:Bool),u=[(36,.bool I)]∧x=[]∧F.c7 o I=some r) ?_ ?_
  ·refine Jv 1 ?_;refine J0 2 [(36,.bool (decide (k.2.1=11)))] (Jw 1 ?_);refine Vr h ?_ ?_<;>intro p h
   ·refine Vy 1 ?_;exact Vi ⟨(decide (k.2.1=11)),rfl,rfl,h⟩
   refine Jv 1 ?_;refine J0 2 [(36,.bool (decide (k.2.1=16)))] (Jw 1 ?_);refine Vr h ?_ ?_<;>intro p h
   ·refine Vy 1 ?_;exact Vi ⟨(decide (k.2.1=16)),rfl,rfl,h⟩
   refine Jv 0 ?_;refine J0 2 [(36,.bool (decide (k.2.1=15)))] (Jy ?_);exact Vi ⟨(decide (k.2.1=15)),rfl,rfl,h⟩
  rintro _ _ ⟨I,rfl,rfl,h⟩;rw[F.c7]at h;refine Ud h ?_ ?_<;>intro p h
  ·refine Jv 1 ?_;refine J0 2 [(41,.bool (decide (o≠0)))] (Jw 1 ?_);refine Vr h ?_ ?_<;>intro p h
   ·refine Jv 0 ?_;refine J0 1 [(5,A.i (-1))] (Ug 1 ?_);exact Vi ⟨(-1),rfl,rfl,(Vd .i64 (-1) rfl),h⟩
   refine Vy 2 ?_;exact Vi ⟨o,rfl,rfl,B,h⟩
  refine Vy 2 ?_;exact Vi ⟨o,rfl,rfl,B,h⟩
 rintro _ _ ⟨y,rfl,rfl,a6,h⟩;rw[F.a4]at h;refine J4 [] [] (fun u x=>∃(z:Int),u=[(5,A.i z)]∧x=[]∧A.h6 z∧F.dL z=some r) ?_ ?_
 ·refine Jv 1 ?_;refine J0 2 [(43,.bool (decide ((4:Int)<y)))] (Jw 1 ?_);refine Vr h ?_ ?_<;>intro p h
  ·refine Jv 0 ?_;refine J0 1 [(5,A.i (-1))] (Jy ?_);exact Vi ⟨(-1),rfl,rfl,(Vd .i64 (-1) rfl),h⟩
  refine Vy 1 ?_;exact Vi ⟨y,rfl,rfl,a6,h⟩
 rintro _ _ ⟨z,rfl,rfl,a7,h⟩;rw[F.dL]at h;refine Jv 1 ?_;refine J0 2 [(4,A.i z)] (Jw 1 ?_);obtain rfl:=J7 h;exact Va [] ⟨rfl,rfl,a7⟩
def F.b0 (t:(List Int)→Int→Option ((List Int)×Bool))(u:D23)(o:(List Int))(a:List Int)(e:Int)(h:D83):Nat→(List Int)→Int→Option ((List Int)×Bool)
 |0,_,_=>none
 |f+1,p,k=>if k<(h.2.2.1.length:Int)then((A.ix h.2.2.1 k).bind fun y=>((F.cO u y).bind fun z=>((A.ix a z).bind fun w=>(A.gd ((List.length (α:=Int) p+List.length (α:=Int) [w])*8≤140737488355328) (A.gd (Z.R64 (k+1)) ((F.b0 t u o a e h f) (p++[w]) (k+1)))))))else((A.ix o e).bind fun s=>((F.ej h p).bind fun x=>((A.ix a s).bind fun I=>((A.ix o e).bind fun B=>((A.ix (a.set s.toNat x) B).bind fun E=>(if E<0 then(some ([],false))else(A.gd (Z.R64 (e+1)) (t (a.set s.toNat x) (e+1)))))))))
def F.dl (e:Int→Option ((List Int)×Bool))(a:Int)(h:Bool):Option ((List Int)×Bool):=if h=true then(some ([],false))else(A.gd (Z.R64 (a+1)) (e (a+1)))
def F.bf (a:D23)(e:List Int):Nat→Int→Option ((List Int)×Bool)
 |0,_=>none
 |f+1,h=>if h<(a.length:Int)then((A.ix a h).bind fun k=>(if k.2.1=14 then((A.ix k.2.2.1 0).bind fun o=>((F.cO a o).bind fun p=>((A.ix e p).bind fun s=>(F.dl (F.bf a e f) h (decide (s≠k.2.2.2.2.2.2))))))else(F.dl (F.bf a e f) h false)))else(some (e,true))
def F.b1 (a:D23)(e:(List Int)):Nat→(List Int)→Int→Option ((List Int)×Bool)
 |0,_,_=>none
 |f+1,k,h=>if h<(e.length:Int)then((A.ix e h).bind fun o=>((A.ix a o).bind fun p=>(F.b0 (F.b1 a e f) a e k h p A.FU [] 0)))else(F.bf a k A.FU 0)
def F.dg (a:D23)(e:(List Int)):Option ((List Int)×Bool):=A.gd (8*a.length≤140737488355328) (F.b1 a e A.FU (List.replicate a.length (0:Int)) 0)
theorem o_be(p:D23)(E:(List Int))(r:(List Int)×Bool)(h:F.dg p E=some r):
    A.Ct Tryz.prog 85 [.agg #[.slice A0_ p.length c1_],.slice A2_ E.length c3_] [(0,.sh (.slice T83) [.slice A0_ p.length c1_] p),(1,.ln A.ti A2_ c3_ E)] [] (fun v H'=>∃(A0':Option Addr) (c1':Nat),v=.tuple #[.slice A0' r.1.length c1',.bool r.2]∧H'=[(0,.own A.ti 3 A0' c1' r.1)]):=by
 refine J1 Tryz.func85 rfl Tryz.ntmps85 rfl fun w0 F0=>?_;rw[F.dg]at h;refine Jv 1 ?_;refine Vc 2 (cs:=[.slice A0_ p.length c1_]) fun g1=>?_;refine J0 2 [] (Vb 2 ?_);refine Jz [2] [] [.n,.b 0 0,.n] [(15,A.i (p.length:Int))] ?_;have⟨av,h⟩:=Vq h;refine A.AL.mks 3 (t:=A.ti) (u:=p.length) (0:Int) av inf3 (fun N=>?_) rfl rfl rfl rfl ⟨rfl,by decide⟩
 refine J0 1 [(6,.slice (some ⟨N,0,none⟩) p.length p.length)] (Vb 3 ?_);refine J0 1 [(7,A.i 0)] (Jw 2 ?_);refine Vo [1,2,6] [0,1,2] (fun f U V=>∃(z:List Int),∃(B:Int),U=[(7,A.i B)]∧V=[(3,.own A.ti 3 (some ⟨N,0,none⟩) p.length z)]∧p.length=z.length∧A.h6 B∧F.b1 p E f z B=some r) ⟨(List.replicate p.length (0:Int)),0,rfl,rfl,(by rw[Xb]),J5,h⟩ ?_;rintro a5 _ _ ⟨z,B,rfl,rfl,hn7,bi,h⟩;rcases a5 with _|a5
 ·exact Vm h
 rw[F.b1]at h;refine Jv 2 ?_;refine J0 4 [(20,.bool (decide (B<(E.length:Int))))] (Jw 1 ?_);refine Vr h ?_ ?_<;>intro Y h
 ·refine V3 5 ?_;refine Vl mixed 9 10 (A.mb 10 0) ?_;refine Vh J3 [] [0,1,2,3] [2] [] (A.mb 10 15) 6 [(0,.n),(2,.n),(3,.n),(1,.b 0 0)] [(25,.slice A2_ E.length c3_),(26,A.i B),(24,.slice A0_ p.length c1_)] ?_;have⟨aw,ac,h⟩:=Vx h;refine Vn 1 996 ac fun bj=>?_;intro bk bl ax;refine Vf J3 [0,1,2,3] [0,1,2,3,996] 4 (A.mb 10 31) rfl (fun a w hf hh=>Vj (t:=A.ti) ac ax hf) ?_;refine Vh J3 [0,1,2,3,996] [0,1,2,3,996] [] [996] (A.mb 10 63) 4 [(5,.e 0 0)] [(28,A.i aw)] ?_;have⟨x,ad,h⟩:=Vx h;refine Uh 0 997 ad fun O=>?_;intro a2 c22 bm bp ay;refine Vf J3 [0,1,2,3,996] l5w 6 (A.mb 10 127) rfl (fun a w hf hh=>Vj (t:=T83) ad ay hf) ?_;refine Vh J3 l5w l5w [] [997] (A.mb 10 255) 2 [(7,.e 0 0)] [(30,.agg #[A.i x.1,A.i x.2.1,.slice a2 x.2.2.1.length c22,A.i x.2.2.2.1.1,A.i x.2.2.2.1.2.1,.string x.2.2.2.1.2.2,.string x.2.2.2.2.1,A.i x.2.2.2.2.2.1,A.i x.2.2.2.2.2.2])] ?_;refine J8 8 ?_;refine J6 999 (cs:=l5a) Tryz.zeroValue84 fun bq=>?_;refine Vg (A.mb 10 511) l5w ?_;refine J8 9 ?_;refine Vu 999 [] [A.i x.1,A.i x.2.1,.slice a2 x.2.2.1.length c22,A.i x.2.2.2.1.1,A.i x.2.2.2.1.2.1,.string x.2.2.2.1.2.2,.string x.2.2.2.2.1,A.i x.2.2.2.2.2.1,A.i x.2.2.2.2.2.2] ?_;refine Ut (A.mb 10 1023) ?_;refine J9 ?_;refine A.el 2 ?_;refine J0 1 [(9,.slice none 0 0)] (Vb 3 ?_);refine J0 1 [(10,A.i 0)] (Jw 2 ?_);refine V9 1089 A.ti 3 ?_;refine Vo [1,2,6,7,8] [0,1,2,3,998,999] (fun f U V=>∃(J:List Int),∃(L:Int),∃(W:Option Addr),∃(X:Nat),U=[(9,.slice W J.length X),(10,A.i L)]∧V=[(1089,.own A.ti 3 W X J)]∧A.h6 L∧F.b0 (F.b1 p E a5) p E z B x f J L=some r) ⟨[],0,none,0,rfl,rfl,J5,h⟩ ?_;rintro ae _ _ ⟨J,L,W,X,rfl,rfl,br,h⟩;rcases ae with _|ae
  ·exact Vm h
  rw[F.b0]at h;refine Jv 2 ?_;refine Jz [999] [] [.n,.n,.b 0 2,.n,.n] [(35,.bool (decide (L<(x.2.2.1.length:Int))))] (Jw 1 ?_);refine Vr h ?_ ?_<;>intro Y h
  ·refine V3 4 ?_;refine Vl mixed 14 14 (A.mb 14 0) ?_;refine Vh J3 [] [0,1,2,3,998,999] [2,999] [] (A.mb 14 63) 8 [(0,.n),(1,.n),(2,.b 0 0),(3,.n),(5,.n),(4,.b 1 2)] [(38,.slice W J.length X),(39,.slice (some ⟨N,0,none⟩) p.length p.length),(40,.agg #[.slice A0_ p.length c1_]),(43,A.i L),(42,.slice a2 x.2.2.1.length c22)] ?_;have⟨af,ag,h⟩:=Vx h;refine Uh 998 1266 ag fun az=>?_;intro bs bt b2;refine Vf J3 [0,1,2,3,998,999] l5p 6 (A.mb 14 127) rfl (fun a w hf hh=>Vj (t:=A.ti) ag b2 hf) ?_;refine Vh J3 l5p l5p [] [1266] (A.mb 14 255) 6 [(7,.e 0 0)] [(45,A.i af)] ?_;refine J8 8 ?_;refine Vw 1267 [] h (o_s A0_ c1_ p af az) (.s 0 .nil) ?_;rintro bu - h _ _ ⟨rfl,rfl,hr40⟩;refine Ve ?_;refine Vg (A.mb 14 511) l5p ?_;refine U3 39 (Ul (show p.length=z.length from hn7)) ?_;have⟨a3,ah,h⟩:=Vx h;refine Up 3 1307 ah fun b3=>?_;intro bv b4;refine Vf J3 l5p l5h 9 (A.mb 14 1023) rfl (fun a w hf hh=>Uu (t:=A.ti) ah b4 hf) ?_;refine Vh J3 l5h l5h [] [1307] (A.mb 14 2047) 3 [(10,.e 0 0)] [(48,A.i a3)] ?_;refine J8 11 ?_;refine Vp 1308 (ty:=A.ti) (cs:=[A.i a3]) [a3] ⟨⟨rfl,b3⟩,rfl⟩ (fun bw=>?_) Tryz.zeroValue3 Tryz.sizeOf3
   refine Vg (A.mb 14 4095) l5h ?_;refine J8 12 ?_;have⟨hl49,h⟩:=Vq h;refine V1 (k:=1089) [] (Uk (k:=1308) rfl) inf3 hl49 fun ai aj=>?_;refine Vg (A.mb 14 8191) l5h ?_;refine Vh J3 l5h [0,1,2,3,998,999,1089,1266,1307,1308] [] [] (A.mb 14 16383) 0 [(13,.n)] [(9,.slice ai ((J++[a3]).length) aj)] (J9 ?_);refine A.el 2 ?_;have⟨ak,h⟩:=Vq h;refine Ub 3 [Z.R64 (L+1)] [(10,A.i (L+1))] ak (Jy ?_);exact Vi ⟨_,Qh _,⟨(J++[a3]),(L+1),ai,aj,rfl,rfl,(J2 ak),h⟩⟩
  refine V3 3 ?_;refine Vl mixed 9 10 (A.mb 10 0) ?_;refine Vh J3 [] [0,1,2,3,998,999,1089] [999] [] (A.mb 10 103) 5 [(0,.n),(1,.n),(2,.n),(5,.b 0 0),(6,.n)] [(51,.slice (some ⟨N,0,none⟩) p.length p.length),(52,.slice A2_ E.length c3_),(53,A.i B),(56,.agg #[A.i x.1,A.i x.2.1,.slice a2 x.2.2.1.length c22,A.i x.2.2.2.1.1,A.i x.2.2.2.1.2.1,.string x.2.2.2.1.2.2,.string x.2.2.2.2.1,A.i x.2.2.2.2.2.1,A.i x.2.2.2.2.2.2]),(57,.slice W J.length X)] ?_;have⟨a6,al,h⟩:=Vx h;refine Vn 1 1309 al fun bx=>?_;intro bz c0 b5;refine Vf J3 [0,1,2,3,998,999,1089] l5j 3 (A.mb 10 111) rfl (fun a w hf hh=>Vj (t:=A.ti) al b5 hf) ?_;refine Vh J3 l5j l5j [] [1309] (A.mb 10 127) 3 [(4,.e 0 0)] [(55,A.i a6)] ?_;refine J8 7 ?_;refine Vw 1310 [] h (o_bz a2 W c22 X x J O.1 O.2.1 O.2.2.2.1.1 O.2.2.2.1.2.1 O.2.2.2.1.2.2 O.2.2.2.2.1 O.2.2.2.2.2.1 O.2.2.2.2.2.2) (.s 998 (.o 1089 .nil)) ?_;rintro a4 - h _ _ ⟨rfl,rfl,hr59⟩;refine Ve ?_;refine Vg (A.mb 10 255) l5j ?_;refine U3 51 (Ul (show p.length=z.length from hn7)) ?_;have⟨b6,a7,h⟩:=Vx h;refine Up 3 1350 a7 fun c1=>?_;intro c2 am;refine Vf J3 l5j [0,1,2,3,998,999,1089,1309,1350] 8 (A.mb 10 511) rfl (fun a w hf hh=>Uu (t:=A.ti) a7 am hf) ?_;refine J8 9 ?_;refine A.AL.setel 3 1350 [1350] (o:=0) (m:=1) (t:=A.ti) (new:=[A.i a4]) (es:=[A.i b6]) a4 a7 am ⟨rfl,hr59⟩ ?_;refine Ut (A.mb 10 1023) ?_;refine J9 ?_;refine A.el 2 ?_;refine J0 3 [(60,.slice (some ⟨N,0,none⟩) p.length p.length),(61,.slice A2_ E.length c3_),(62,A.i B)] ?_;have⟨b7,b9,h⟩:=Vx h;refine Ua 1 1351 b9 fun c3=>?_;intro c4 c5;refine Jz [] [1351] [.e 0 0] [(64,A.i b7)] ?_;refine U3 60 (Ul (show p.length=(z.set a6.toNat a4).length from(by rw[W5];exact hn7))) ?_;have⟨bb,bc,h⟩:=Vx h;refine Um 3 1352 bc fun c6=>?_;intro c7 c8;refine Jz [] [1352] [.e 0 0,.n] [(67,.bool (decide (bb<0)))] (Jw 1 ?_);refine Vr h ?_ ?_<;>intro Y h
  ·refine Jv 1 ?_;refine J0 2 [(4,.slice none 0 0),(5,.bool false)] (Jw 1 ?_);obtain rfl:=J7 h;refine V9 1353 A.ti 3 ?_;exact V4 [(0,1353)] ⟨none,0,rfl,rfl⟩
  refine Jv 3 ?_;have⟨an,h⟩:=Vq h;refine Ub 3 [Z.R64 (B+1)] [(7,A.i (B+1))] an (Jy ?_);exact Vi ⟨_,Qh _,⟨(z.set a6.toNat a4),(B+1),rfl,rfl,(by rw[W5];exact hn7),(J2 an),h⟩⟩
 refine Jv 4 ?_;refine J0 1 [(11,A.i 0)] (Jw 2 ?_);refine Vo [2,6] [0,2,3] (fun f U V=>∃(I:Int),U=[(11,A.i I)]∧V=[]∧A.h6 I∧F.bf p z f I=some r) ⟨0,rfl,rfl,J5,h⟩ ?_;rintro a8 _ _ ⟨I,rfl,rfl,c9,h⟩;rcases a8 with _|a8
 ·exact Vm h
 rw[F.bf]at h;refine Jv 2 ?_;refine Jz [2] [] [.n,.n,.b 0 0,.n,.n] [(72,.bool (decide (I<(p.length:Int))))] (Jw 1 ?_);refine Vr h ?_ ?_<;>intro Y h
 ·refine Jv 5 ?_;refine Jz [2] [] [.n,.b 0 0,.n] [(76,.slice A0_ p.length c1_),(77,A.i I)] ?_;have⟨y,bd,h⟩:=Vx h;refine V2 0 1446 bd fun ca=>?_;intro a9 aa cb cc;refine Jz [] [1446] [.e 0 0] [(79,.agg #[A.i y.1,A.i y.2.1,.slice a9 y.2.2.1.length aa,A.i y.2.2.2.1.1,A.i y.2.2.2.1.2.1,.string y.2.2.2.1.2.2,.string y.2.2.2.2.1,A.i y.2.2.2.2.2.1,A.i y.2.2.2.2.2.2])] ?_;refine J6 1448 (cs:=l5a) Tryz.zeroValue84 fun cd=>?_;refine Vu 1448 [] [A.i y.1,A.i y.2.1,.slice a9 y.2.2.1.length aa,A.i y.2.2.2.1.1,A.i y.2.2.2.1.2.1,.string y.2.2.2.1.2.2,.string y.2.2.2.2.1,A.i y.2.2.2.2.2.1,A.i y.2.2.2.2.2.2] ?_;refine Jw 1 ?_;refine J4 [2,6,11] [0,2,3] (fun U V=>∃(ab:Bool),U=[(96,.bool ab)]∧V=[]∧F.dl (F.bf p z a8) I ab=some r) ?_ ?_
  ·refine Vl mixed 17 17 (A.mb 17 0) ?_;refine Vh J3 [] l5m [1448] [] (A.mb 17 15) 13 [(0,.n),(1,.b 0 1),(2,.n),(3,.n)] [(83,.bool (decide (y.2.1=14)))] ?_;refine Ui (j:=83) rfl h ?_ ?_<;>intro Y h
   ·refine Vh J3 l5m l5m [2,1448] [] (A.mb 17 24831) 7 [(4,.on .n),(5,.on (.b 0 0)),(6,.on .n),(13,.on .n),(7,.on (.b 1 2)),(14,.on (.b 1 8))] [(84,.slice (some ⟨N,0,none⟩) p.length p.length),(85,.agg #[.slice A0_ p.length c1_]),(87,.slice a9 y.2.2.1.length aa),(94,A.i y.2.2.2.2.2.2)] ?_;have⟨ao,ap,h⟩:=Vx h;refine Uh 1447 1449 ap fun be=>?_;intro ce cf bg;refine Ue J3 l5m l5k 8 (A.mb 17 25087) (dj:=83) rfl (fun a w hf hh=>Vj (t:=A.ti) ap bg hf) ?_;refine Vh J3 l5k l5k [] [1449] (A.mb 17 25599) 5 [(9,.on (.e 0 0))] [(89,A.i ao)] ?_;refine J8 10 ?_;refine Vk (dj:=83) rfl rfl ?_;refine Vw 1450 [] h (o_s A0_ c1_ p ao be) (.s 0 .nil) ?_;rintro ch - h _ _ ⟨rfl,rfl,hr97⟩;refine Ve ?_;refine Vg (A.mb 17 26623) l5k ?_;refine U3 84 (Ul (show p.length=z.length from hn7)) ?_;have⟨aq,ar,h⟩:=Vx h;refine Up 3 1490 ar fun ci=>?_;intro cj bh;refine Ue J3 l5k l5t 11 (A.mb 17 28671) (dj:=83) rfl (fun a w hf hh=>Uu (t:=A.ti) ar bh hf) ?_;refine Vh J3 l5t l5t [] [1490] (A.mb 17 131071) 0 [(12,.on (.e 0 0)),(15,.on .n),(16,.n)] [(96,.bool (decide (aq≠y.2.2.2.2.2.2)))] (J9 ?_);exact Vi ⟨(decide (aq≠y.2.2.2.2.2.2)),rfl,rfl,h⟩
   refine Vh J3 l5m l5m [] [] (A.mb 17 131071) 0 [(4,.off),(5,.off),(6,.off),(13,.off),(7,.off),(14,.off),(8,.off),(9,.off),(10,.off),(11,.off),(12,.off),(15,.off),(16,.n)] [(96,.bool false)] (J9 ?_);exact Vi ⟨false,rfl,rfl,h⟩
  rintro _ _ ⟨ab,rfl,rfl,h⟩;rw[F.dl]at h;refine Ud h ?_ ?_<;>intro Y h
  ·refine Jv 1 ?_;refine J0 2 [(4,.slice none 0 0),(5,.bool false)] (Jw 1 ?_);obtain rfl:=J7 h;refine V9 1491 A.ti 3 ?_;exact V4 [(0,1491)] ⟨none,0,rfl,rfl⟩
  refine Jv 3 ?_;have⟨au,h⟩:=Vq h;refine Ub 3 [Z.R64 (I+1)] [(11,A.i (I+1))] au (Jy ?_);exact Vi ⟨_,Qh _,⟨(I+1),rfl,rfl,(J2 au),h⟩⟩
 refine Jv 3 ?_;refine J0 3 [(4,.slice (some ⟨N,0,none⟩) p.length p.length),(5,.bool true)] (Jw 1 ?_);obtain rfl:=J7 h;refine U3 4 (Ul (show p.length=z.length from hn7)) ?_;exact V4 [(0,3)] ⟨(some ⟨N,0,none⟩),p.length,rfl,rfl⟩
def F.dM (e:(List D39))(h:D39):Nat→Int→Option Bool
 |0,_=>none
 |f+1,a=>if a<(e.length:Int)then((A.ix e a).bind fun k=>(if k=h then(some true)else(A.gd (Z.R64 (a+1)) ((F.dM e h f) (a+1)))))else(some false)
def F.eR (a:(List D39))(e:D39):Option Bool:=F.dM a e A.FU 0
theorem o_a5(p:(List D39))(o:D39)(N:A.h6 o.1)(O:A.h6 o.2)(r:Bool)(h:F.eR p o=some r):
    A.Ct Tryz.prog 128 [.slice A0_ p.length c1_,(A.rae o)] [(0,.ln T39 A0_ c1_ p)] [] (fun v H'=>v=.bool r∧H'=[]):=by
 refine J1 Tryz.func128 rfl Tryz.ntmps128 rfl fun U V=>?_;rw[F.eR]at h;refine Jv 1 ?_;refine Vc 1 (cs:=(A.raa o)) fun W=>?_;refine J0 1 [] (Vb 3 ?_);refine J0 1 [(5,A.i 0)] (Jw 2 ?_);refine Vo [0,3] [0,1] (fun f E I=>∃(k:Int),E=[(5,A.i k)]∧I=[]∧A.h6 k∧F.dM p o f k=some r) ⟨0,rfl,rfl,J5,h⟩ ?_;rintro s _ _ ⟨k,rfl,rfl,X,h⟩;rcases s with _|s
 ·exact Vm h
 rw[F.dM]at h;refine Jv 2 ?_;refine J0 4 [(9,.bool (decide (k<(p.length:Int))))] (Jw 1 ?_);refine Vr h ?_ ?_<;>intro J h
 ·refine V3 5 ?_;refine Vl mixed 6 6 (A.mb 6 0) ?_;refine Vh J3 [] [0,1] [1] [] (A.mb 6 19) 3 [(0,.n),(1,.n),(4,.b 0 0)] [(12,.slice A0_ p.length c1_),(13,A.i k),(16,(A.rae o))] ?_;have⟨u,z,h⟩:=Vx h;refine Vn 0 4 z fun Y=>?_;intro b9 a2 L;refine Vf J3 [0,1] [0,1,4] 2 (A.mb 6 23) rfl (fun a w hf hh=>Vj (t:=T39) z L hf) ?_;refine Vh J3 [0,1,4] [0,1,4] [] [4] (A.mb 6 31) 1 [(3,.e 0 0)] [(15,(A.rae u))] ?_;refine Vf J3 [0,1,4] [0,1,4] 5 (A.mb 6 63) rfl (fun a w hf hh=>eqagg_eql40 (x:=u) (y:=o) (hf.eval rfl) (hf.eval rfl)) ?_;refine J9 ?_;refine Uy 1 ?_;refine Vr h ?_ ?_<;>intro J h
  ·refine Jv 1 ?_;refine J0 1 [(4,.bool true)] (Jw 1 ?_);obtain rfl:=J7 h;exact Va [] ⟨rfl,rfl⟩
  refine Jv 3 ?_;have⟨B,h⟩:=Vq h;refine Ub 3 [Z.R64 (k+1)] [(5,A.i (k+1))] B (Jy ?_);exact Vi ⟨_,Qh _,⟨(k+1),rfl,rfl,(J2 B),h⟩⟩
 refine Jv 3 ?_;refine J0 1 [(4,.bool false)] (Jw 1 ?_);obtain rfl:=J7 h;exact Va [] ⟨rfl,rfl⟩
def F.dN (e:(List D41))(h:D39):Nat→Int→Option Int
 |0,_=>none
 |f+1,a=>if a<(e.length:Int)then((A.ix e a).bind fun k=>(if k.1=h then((A.ix e a).bind fun o=>(some o.2))else(A.gd (Z.R64 (a+1)) ((F.dN e h f) (a+1)))))else(some (-1))
def F.e0 (a:(List D41))(e:D39):Option Int:=F.dN a e A.FU 0
theorem o_bX(p:(List D41))(o:D39)(V:A.h6 o.1)(W:A.h6 o.2)(r:Int)(h:F.e0 p o=some r):
    A.Ct Tryz.prog 163 [.slice A0_ p.length c1_,(A.rae o)] [(0,.ln T41 A0_ c1_ p)] [] (fun v H'=>v=A.i r∧H'=[]∧A.h6 r):=by
 refine J1 Tryz.func163 rfl Tryz.ntmps163 rfl fun X Y=>?_;rw[F.e0]at h;refine Jv 1 ?_;refine Vc 1 (cs:=(A.raa o)) fun g1=>?_;refine J0 1 [] (Vb 3 ?_);refine J0 1 [(5,A.i 0)] (Jw 2 ?_);refine Vo [0,3] [0,1] (fun f E I=>∃(k:Int),E=[(5,A.i k)]∧I=[]∧A.h6 k∧F.dN p o f k=some r) ⟨0,rfl,rfl,J5,h⟩ ?_;rintro s _ _ ⟨k,rfl,rfl,a2,h⟩;rcases s with _|s
 ·exact Vm h
 rw[F.dN]at h;refine Jv 2 ?_;refine J0 4 [(9,.bool (decide (k<(p.length:Int))))] (Jw 1 ?_);refine Vr h ?_ ?_<;>intro J h
 ·refine V3 5 ?_;refine Vl mixed 7 7 (A.mb 7 0) ?_;refine Vh J3 [] [0,1] [1] [] (A.mb 7 35) 4 [(0,.n),(1,.n),(5,.b 0 0)] [(12,.slice A0_ p.length c1_),(13,A.i k),(17,(A.rae o))] ?_;have⟨u,z,h⟩:=Vx h;refine Vn 0 6 z fun a3=>?_;intro b9 a4 L;refine Vf J3 [0,1] [0,1,6] 2 (A.mb 7 39) rfl (fun a w hf hh=>Vj (t:=T41) z L hf) ?_;refine Vh J3 [0,1,6] [0,1,6] [] [6] (A.mb 7 63) 1 [(3,.n),(4,.e 0 0)] [(16,(A.rae u.1))] ?_;refine Vf J3 [0,1,6] [0,1,6] 6 (A.mb 7 127) rfl (fun a w hf hh=>eqagg_eql40 (x:=u.1) (y:=o) (hf.eval rfl) (hf.eval rfl)) ?_;refine J9 ?_;refine Uy 1 ?_;refine Vr h ?_ ?_<;>intro J h
  ·refine Jv 1 ?_;refine J0 2 [(19,.slice A0_ p.length c1_),(20,A.i k)] ?_;have⟨N,O,h⟩:=Vx h;refine Ua 0 7 O fun U=>?_;intro a5 a6;refine Jz [] [7] [.n,.e 0 2,.n] [(4,A.i N.2)] (Jw 1 ?_);obtain rfl:=J7 h;exact Va [] ⟨rfl,rfl,U.2⟩
  refine Jv 3 ?_;have⟨B,h⟩:=Vq h;refine Ub 3 [Z.R64 (k+1)] [(5,A.i (k+1))] B (Jy ?_);exact Vi ⟨_,Qh _,⟨(k+1),rfl,rfl,(J2 B),h⟩⟩
 refine Jv 3 ?_;refine J0 1 [(4,A.i (-1))] (Jw 1 ?_);obtain rfl:=J7 h;exact Va [] ⟨rfl,rfl,(Vd .i64 (-1) rfl)⟩
def F.ey (k:D23)(o:(List D41))(a:D53)(e:Int):Option Bool:=(F.ex k a.1.1).bind fun h=>((F.e0 o a.2.1).bind fun p=>(if e≤p then(some (bif bif decide (h.1.2.1≠14)then true else decide (h.1.2.2.2.2.2.2≠e)then true else decide (a.1.2=2)))else(some false)))
theorem o_bL(k:D23)(o:(List D41))(e:D53)(p:Int)(w:A.h6 e.1.1)(B:A.h6 e.1.2)(x:A.h6 e.2.1.1)(y:A.h6 e.2.1.2)(E:A.h6 e.2.2.1)(I:A.h6 e.2.2.2.1)(J:A.h6 e.2.2.2.2.1)(L:A.h6 e.2.2.2.2.2.1)(N:A.h6 e.2.2.2.2.2.2.1)(O:A.h6 e.2.2.2.2.2.2.2.1)(U:A.h6 e.2.2.2.2.2.2.2.2.1)(V:A.h6 e.2.2.2.2.2.2.2.2.2)(W:A.h6 p)(r:Bool)(h:F.ey k o e p=some r):
    A.Ct Tryz.prog 127 [.agg #[.slice A0_ k.length c1_],.slice A2_ o.length c3_,(A.rai e),A.i p] [(0,.sh (.slice T83) [.slice A0_ k.length c1_] k),(1,.ln T41 A2_ c3_ o)] [] (fun v H'=>v=.bool r∧H'=[]):=by
 refine J1 Tryz.func127 rfl Tryz.ntmps127 rfl fun X Y=>?_;rw[F.ey]at h;refine Jv 1 ?_;refine Vc 2 (cs:=[.slice A0_ k.length c1_]) fun g1=>?_;refine Vc 3 (cs:=(A.rad e)) fun g2=>?_;refine J0 1 [] (Vb 2 ?_);refine Jz [2,3] [] [.b 0 0,.n,.n,.b 1 0] [(12,.agg #[.slice A0_ k.length c1_]),(15,A.i e.1.1)] ?_;refine Vw 4 [] h (o_aS A0_ c1_ k e.1.1 w) (.s 0 .nil) ?_;rintro a - h _ _ ⟨t,u,rfl,rfl,hr5,hr6,hr9,hr10,hr11,hr12,hr13,hr14⟩;refine Ve ?_;refine J0 3 [(17,.agg #[A.i a.1.1,A.i a.1.2.1,.slice t a.1.2.2.1.length u,A.i a.1.2.2.2.1.1,A.i a.1.2.2.2.1.2.1,.string a.1.2.2.2.1.2.2,.string a.1.2.2.2.2.1,A.i a.1.2.2.2.2.2.1,A.i a.1.2.2.2.2.2.2]),(18,.bool a.2)] ?_;refine J6 44 (cs:=l5a) Tryz.zeroValue84 fun a4=>?_;refine Vu 44 [] [A.i a.1.1,A.i a.1.2.1,.slice t a.1.2.2.1.length u,A.i a.1.2.2.2.1.1,A.i a.1.2.2.2.1.2.1,.string a.1.2.2.2.1.2.2,.string a.1.2.2.2.2.1,A.i a.1.2.2.2.2.2.1,A.i a.1.2.2.2.2.2.2] ?_;refine J0 1 [] (Vb 2 ?_);refine Jz [3] [] [.n,.n,.b 0 2] [(19,.slice A2_ o.length c3_),(21,(A.rae e.2.1))] ?_;refine Vw 45 [] h (o_bX A2_ c3_ o e.2.1 x y) (.s 1 .nil) ?_;rintro z - h _ _ ⟨rfl,rfl,hr18⟩;refine Ve ?_;refine J0 3 [(25,.bool (decide (p≤z)))] ?_;refine V6 (j:=25) rfl h ?_ ?_<;>intro hb h
 ·refine Jz [44,3] [] [.on .n,.on (.b 0 1),.on .n,.on .n,.sy .n,.sy (.b 0 8),.sy .n,.sy .n,.on .pk,.on .n,.sy .n,.sy .n,.sy (.b 1 1),.sy .n,.on .pk,.n,.n] [(8,.bool (bif bif decide (a.1.2.1≠14)then true else decide (a.1.2.2.2.2.2.2≠p)then true else decide (e.1.2=2)))] (Jw 1 ?_);obtain rfl:=J7 h;exact Va [] ⟨rfl,rfl⟩
 refine Jz [] [] [.off,.off,.off,.off,.off,.off,.off,.off,.off,.off,.off,.off,.off,.off,.off,.n,.n] [(8,.bool false)] (Jw 1 ?_);obtain rfl:=J7 h;exact Va [] ⟨rfl,rfl⟩
def F.dO (e:(List D39)→(List D39)→Int→Option Bool)(a:Int)(h:List D39)(k:List D39):Option Bool:=A.gd (Z.R64 (a+1)) (e h k (a+1))
def F.da (k:(List D39)→(List D39)→Int→Option Bool)(o:(List D53))(e:List D39)(h:List D39)(a:Int)(t:Bool):Option Bool:=if t=true then((A.ix o a).bind fun p=>(A.gd ((List.length (α:=D39) e+List.length (α:=D39) [p.2.1])*16≤140737488355328) ((A.ix o a).bind fun s=>(A.gd ((List.length (α:=D39) h+List.length (α:=D39) [s.2.1])*16≤140737488355328) (F.dO k a (e++[p.2.1]) (h++[s.2.1]))))))else(F.dO k a e h)
def F.aY (p:(List D39)→(List D39)→Int→Option Bool)(s:D23)(t:(List D41))(a:(List D53))(u:D41)(h:Int):Nat→(List D39)→(List D39)→Int→Option Bool
 |0,_,_,_=>none
 |f+1,k,o,e=>if e<(a.length:Int)then((A.ix a e).bind fun w=>((A.ix o h).bind fun x=>(if w.1=x then((A.ix a e).bind fun y=>((F.ey s t y u.2).bind fun z=>(if z=true then((A.ix a e).bind fun B=>((F.eR k B.2.1).bind fun E=>(F.da (F.aY p s t a u h f) a k o e (!E))))else(F.da (F.aY p s t a u h f) a k o e false))))else(F.da (F.aY p s t a u h f) a k o e false))))else(A.gd (Z.R64 (h+1)) (p k o (h+1)))
def F.bV (e:D23)(h:(List D41))(k:(List D53))(a:D41):Nat→(List D39)→(List D39)→Int→Option Bool
 |0,_,_,_=>none
 |f+1,o,p,s=>if s<(p.length:Int)then(F.aY (F.bV e h k a f) e h k a s A.FU o p 0)else((F.eR o a.1).bind fun t=>(some t))
def F.ek (e:D23)(h:(List D41))(k:(List D53))(a:D41):Option Bool:=F.bV e h k a A.FU [] [a.1] 0
theorem o_bA(B:D23)(E:(List D41))(u:(List D53))(p:D41)(aj:A.h6 p.1.1)(ak:A.h6 p.1.2)(b3:A.h6 p.2)(r:Bool)(h:F.ek B E u p=some r):
    A.Ct Tryz.prog 86 [.agg #[.slice A0_ B.length c1_],.slice A2_ E.length c3_,.slice A4_ u.length c5_,(A.rag p)] [(0,.sh (.slice T83) [.slice A0_ B.length c1_] B),(1,.ln T41 A2_ c3_ E),(2,.ln T53 A4_ c5_ u)] [] (fun v H'=>v=.bool r∧H'=[]):=by
 refine J1 Tryz.func86 rfl Tryz.ntmps86 rfl fun w0 F0=>?_;rw[F.ek]at h;refine Jv 1 ?_;refine Vc 3 (cs:=[.slice A0_ B.length c1_]) fun g1=>?_;refine Vc 4 (cs:=(A.rac p)) fun g2=>?_;refine J0 1 [] (Vb 2 ?_);refine A.AL.bs0 5 T39 (fun g3=>?_) Tryz.sizeOf40
 refine J0 1 [(9,.slice (some ⟨g3,0,none⟩) 0 0)] (Vb 2 ?_);refine Jz [4] [] [.n,.b 0 0] [(15,(A.rae p.1))] ?_;refine Vp 6 (ty:=T39) (cs:=(A.raa p.1)) [p.1] ⟨⟨⟨rfl,aj⟩,⟨rfl,ak⟩⟩,rfl⟩ (fun g4=>?_) Tryz.zeroValue40 Tryz.sizeOf40
 refine J0 1 [(10,.slice (some ⟨g4,0,none⟩) 1 1)] (Vb 3 ?_);refine J0 1 [(11,A.i 0)] (Jw 2 ?_);refine Vo [1,2,4,7] l5n (fun f V W=>∃(X:List D39),∃(a5:List D39),∃(I:Int),∃(A5:Option Addr),∃(c6:Nat),∃(A8:Option Addr),∃(c9:Nat),V=[(9,.slice A5 X.length c6),(10,.slice A8 a5.length c9),(11,A.i I)]∧W=[(5,.own T39 40 A5 c6 X),(6,.own T39 40 A8 c9 a5)]∧A.h6 I∧F.bV B E u p f X a5 I=some r) ⟨[],[p.1],0,(some ⟨g3,0,none⟩),0,(some ⟨g4,0,none⟩),1,rfl,rfl,J5,h⟩ ?_;rintro a6 _ _ ⟨X,a5,I,A5,c6,A8,c9,rfl,rfl,be,h⟩;rcases a6 with _|a6
 ·exact Vm h
 rw[F.bV]at h;refine Jv 2 ?_;refine J0 4 [(20,.bool (decide (I<(a5.length:Int))))] (Jw 1 ?_);refine Vr h ?_ ?_<;>intro hb h
 ·refine Jv 5 ?_;refine J0 1 [(12,A.i 0)] (Jw 2 ?_);refine Vo [1,2,4,7,11] l5n (fun f V W=>∃(J:List D39),∃(N:List D39),∃(z:Int),∃(O:Option Addr),∃(U:Nat),∃(Y:Option Addr),∃(a4:Nat),V=[(9,.slice O J.length U),(10,.slice Y N.length a4),(12,A.i z)]∧W=[(5,.own T39 40 O U J),(6,.own T39 40 Y a4 N)]∧A.h6 z∧F.aY (F.bV B E u p a6) B E u p I f J N z=some r) ⟨X,a5,0,A5,c6,A8,c9,rfl,rfl,J5,h⟩ ?_;rintro ab _ _ ⟨J,N,z,O,U,Y,a4,rfl,rfl,bg,h⟩;rcases ab with _|ab
  ·exact Vm h
  rw[F.aY]at h;refine Jv 2 ?_;refine J0 4 [(26,.bool (decide (z<(u.length:Int))))] (Jw 1 ?_);refine Vr h ?_ ?_<;>intro hb h
  ·refine V3 2 ?_;refine J4 [1,2,4,7,11,12] l5n (fun V W=>∃(a7:List D39),∃(a8:List D39),∃(ac:Option Addr),∃(ad:Nat),∃(ae:Option Addr),∃(af:Nat),V=[(9,.slice ac a7.length ad),(10,.slice ae a8.length af)]∧W=[(5,.own T39 40 ac ad a7),(6,.own T39 40 ae af a8)]∧F.dO (F.aY (F.bV B E u p a6) B E u p I ab) z a7 a8=some r) ?_ ?_
   ·refine V3 1 ?_;refine J4 [1,2,4,7,9,10,11,12] [0,1,2,3,4,5,6] (fun V W=>∃(ag:Bool),V=[(59,.bool ag)]∧W=[]∧F.da (F.aY (F.bV B E u p a6) B E u p I ab) u J N z ag=some r) ?_ ?_
    ·refine A.AX.drF mixed 31 31 [0,0,3,4,8,0,0,96,128,272,512,1024,1024,1024,1024,25600,33792,1024,132096,334848,525312,1572864,2097152,2097152,2097152,27262976,35651584,69206016,140509184,270532608,538968064] [0,0,3,4,8,0,0,96,128,272,512,1024,1024,1024,1024,25600,33792,1024,132096,334848,525312,1048576,2097152,2097152,2097152,27262976,35651584,69206016,140509184,270532608,538968064] fun hT49=>?_;refine A.AH.qF hT49 J3 [] [0,1,2,3,4,5,6] [] [] 0 99 27 [(0,.n),(1,.n),(5,.n),(6,.n)] [29,30,34,35] [] [(29,.slice A4_ u.length c5_),(30,A.i z),(34,.slice Y N.length a4),(35,A.i I)] trivial ?_;have⟨ah,al,h⟩:=Vx h;refine Vn 2 791 al fun bh=>?_;intro bi bj b4;refine Vf J3 [0,1,2,3,4,5,6] [0,1,2,3,4,5,6,791] 2 (A.mb 31 103) rfl (fun a w hf hh=>Vj (t:=T53) al b4 hf) ?_;refine A.AH.qF hT49 J3 [0,1,2,3,4,5,6,791] [0,1,2,3,4,5,6,791] [] [791] 103 127 24 [(3,.n),(4,.e 0 0)] [33] [] [(33,(A.rae ah.1))] trivial ?_;have⟨ai,am,h⟩:=Vx h;refine Up 6 792 am fun bk=>?_;intro bl b5;refine Vf J3 [0,1,2,3,4,5,6,791] l5u 7 (A.mb 31 255) rfl (fun a w hf hh=>Uu (t:=T39) am b5 hf) ?_;refine A.AH.qF hT49 J3 [0,1,2,3,4,5,6,791,792] [0,1,2,3,4,5,6,791,792] [] [792] 255 511 22 [(8,.e 0 0)] [37] [] [(37,(A.rae ai))] trivial ?_;refine Vf J3 l5u l5u 9 (A.mb 31 1023) rfl (fun a w hf hh=>eqagg_eql40 (x:=ah.1) (y:=ai) (hf.eval rfl) (hf.eval rfl)) ?_;refine A.AH.qF hT49 J3 [0,1,2,3,4,5,6,791,792] [0,1,2,3,4,5,6,791,792] [] [] 1023 2047 20 [(10,.n)] [39] [] [(39,.bool (decide (ah.1=ai)))] trivial ?_;refine Ui (j:=39) rfl h ?_ ?_<;>intro hb h
     ·refine A.AH.qF hT49 J3 [0,1,2,3,4,5,6,791,792] [0,1,2,3,4,5,6,791,792] [3,4] [] 2047 425983 14 [(11,.on (.b 0 0)),(12,.on .n),(13,.on .n),(14,.on .n),(17,.on .n),(18,.on (.b 1 2))] [40,41,42,43,47] [] [(40,.agg #[.slice A0_ B.length c1_]),(41,.slice A2_ E.length c3_),(42,.slice A4_ u.length c5_),(43,A.i z),(47,A.i p.2)] trivial ?_;have⟨an,ao,h⟩:=Vx h;refine Vn 2 793 ao fun L=>?_;intro bm bp b6;refine Ue J3 l5u [0,1,2,3,4,5,6,791,792,793] 15 (A.mb 31 458751) (dj:=39) rfl (fun a w hf hh=>Vj (t:=T53) ao b6 hf) ?_;refine A.AH.qF hT49 J3 [0,1,2,3,4,5,6,791,792,793] [0,1,2,3,4,5,6,791,792,793] [] [793] 458751 524287 12 [(16,.on (.e 0 0))] [45] [] [(45,(A.rai an))] trivial ?_;refine A.AH.oneF hT49 19 ?_;refine Vk (dj:=39) rfl rfl ?_;refine Vw 794 [] h (o_bL A0_ A2_ c1_ c3_ B E an p.2 L.1.1 L.1.2 L.2.1.1 L.2.1.2 L.2.2.1 L.2.2.2.1 L.2.2.2.2.1 L.2.2.2.2.2.1 L.2.2.2.2.2.2.1 L.2.2.2.2.2.2.2.1 L.2.2.2.2.2.2.2.2.1 L.2.2.2.2.2.2.2.2.2 b3) (.s 0 (.s 1 .nil)) ?_;rintro b7 - h _ _ ⟨rfl,rfl⟩;refine Ve ?_;refine A.AH.nxF 1048575 [0,1,2,3,4,5,6,791,792,793] ?_;refine A.AH.qF hT49 J3 [0,1,2,3,4,5,6,791,792,793] [0,1,2,3,4,5,6,791,792,793] [] [] 1048575 4194303 9 [(20,.n),(21,.n)] [50] [] [(50,.bool b7)] trivial ?_;refine A.AH.cnd (j:=50) rfl h (fun h=>?_) (fun h=>?_)
      ·refine A.AH.qF hT49 J3 [0,1,2,3,4,5,6,791,792,793] [0,1,2,3,4,5,6,791,792,793] [] [] 4194303 33554431 6 [(22,.on .n),(23,.on .n),(24,.on .n)] [51,52,53] [] [(51,.slice O J.length U),(52,.slice A4_ u.length c5_),(53,A.i z)] trivial ?_;have⟨ap,aq,h⟩:=Vx h;refine Vn 2 834 aq fun ar=>?_;intro bq br b9;refine Ue J3 [0,1,2,3,4,5,6,791,792,793] [0,1,2,3,4,5,6,791,792,793,834] 25 (A.mb 31 67108863) (dj:=50) rfl (fun a w hf hh=>Vj (t:=T53) aq b9 hf) ?_;refine A.AH.qF hT49 J3 [0,1,2,3,4,5,6,791,792,793,834] [0,1,2,3,4,5,6,791,792,793,834] [] [834] 67108863 268435455 3 [(26,.on .n),(27,.on (.e 0 2))] [56] [] [(56,(A.rae ap.2.1))] trivial ?_;refine A.AH.oneF hT49 28 ?_;refine Vk (dj:=50) rfl rfl ?_;refine Vw 835 [] h (o_a5 O U J ap.2.1 ar.2.1.1 ar.2.1.2) (.o 5 .nil) ?_;rintro au - h _ _ ⟨rfl,rfl⟩;refine Ve ?_;refine A.AH.nxF 536870911 [0,1,2,3,4,5,6,791,792,793,834] ?_;refine A.AH.qF hT49 J3 [0,1,2,3,4,5,6,791,792,793,834] [0,1,2,3,4,5,6,791,792,793,834] [] [] 536870911 2147483647 0 [(29,.on .n),(30,.n)] [59] [] [(59,.bool (!au))] trivial ?_;refine A.AH.doneF hT49 ?_;exact Vi ⟨(!au),rfl,rfl,h⟩
      refine A.AH.qF hT49 J3 [0,1,2,3,4,5,6,791,792,793] [0,1,2,3,4,5,6,791,792,793] [] [] 4194303 2147483647 0 [(22,.off),(23,.off),(24,.off),(25,.off),(26,.off),(27,.off),(28,.off),(29,.off),(30,.n)] [59] [] [(59,.bool false)] trivial ?_;refine A.AH.doneF hT49 ?_;exact Vi ⟨false,rfl,rfl,h⟩
     refine A.AH.qF hT49 J3 [0,1,2,3,4,5,6,791,792] [0,1,2,3,4,5,6,791,792] [] [] 2047 2147483647 0 [(11,.off),(12,.off),(13,.off),(14,.off),(17,.off),(15,.off),(18,.off),(16,.off),(19,.off),(20,.n),(21,.n),(22,.off),(23,.off),(24,.off),(25,.off),(26,.off),(27,.off),(28,.off),(29,.off),(30,.n)] [59] [] [(59,.bool false)] trivial ?_;refine A.AH.doneF hT49 ?_;exact Vi ⟨false,rfl,rfl,h⟩
    rintro _ _ ⟨ag,rfl,rfl,h⟩;rw[F.da]at h;refine Ud h ?_ ?_<;>intro hb h
    ·refine Jv 1 ?_;refine J0 3 [(60,.slice O J.length U),(61,.slice A4_ u.length c5_),(62,A.i z)] ?_;have⟨a9,bb,h⟩:=Vx h;refine Ua 2 875 bb fun av=>?_;intro bs bt;refine Jz [] [875] [.n,.e 0 2] [(65,(A.rae a9.2.1))] ?_;refine Vp 876 (ty:=T39) (cs:=(A.raa a9.2.1)) [a9.2.1] ⟨⟨⟨rfl,av.2.1.1⟩,⟨rfl,av.2.1.2⟩⟩,rfl⟩ (fun bu=>?_) Tryz.zeroValue40 Tryz.sizeOf40
     have⟨hl39,h⟩:=Vq h;refine V1 (k:=5) [] (Uk (k:=876) rfl) inf40 hl39 fun aw ax=>?_;refine J0 1 [(9,.slice aw ((J++[a9.2.1]).length) ax)] (Vb 1 ?_);refine J0 3 [(68,.slice Y N.length a4),(69,.slice A4_ u.length c5_),(70,A.i z)] ?_;have⟨aa,bc,h⟩:=Vx h;refine Ua 2 877 bc fun ay=>?_;intro bv bw;refine Jz [] [877] [.n,.e 0 2] [(73,(A.rae aa.2.1))] ?_;refine Vp 878 (ty:=T39) (cs:=(A.raa aa.2.1)) [aa.2.1] ⟨⟨⟨rfl,ay.2.1.1⟩,⟨rfl,ay.2.1.2⟩⟩,rfl⟩ (fun bx=>?_) Tryz.zeroValue40 Tryz.sizeOf40
     have⟨hl48,h⟩:=Vq h;refine V1 (k:=6) [] (Uk (k:=878) rfl) inf40 hl48 fun az b0=>?_;refine J0 1 [(10,.slice az ((N++[aa.2.1]).length) b0)] (Ug 1 ?_);exact Vi ⟨(J++[a9.2.1]),(N++[aa.2.1]),aw,ax,az,b0,rfl,rfl,h⟩
    refine Vy 2 ?_;exact Vi ⟨J,N,O,U,Y,a4,rfl,rfl,h⟩
   rintro _ _ ⟨a7,a8,ac,ad,ae,af,rfl,rfl,h⟩;rw[F.dO]at h;refine Jv 0 ?_;have⟨b1,h⟩:=Vq h;refine Ub 3 [Z.R64 (z+1)] [(12,A.i (z+1))] b1 (Jy ?_);exact Vi ⟨_,Qh _,⟨a7,a8,(z+1),ac,ad,ae,af,rfl,rfl,(J2 b1),h⟩⟩
  refine Jv 3 ?_;have⟨b2,h⟩:=Vq h;refine Ub 3 [Z.R64 (I+1)] [(11,A.i (I+1))] b2 (Jy ?_);exact Vi ⟨_,Qh _,⟨J,N,(I+1),O,U,Y,a4,rfl,rfl,(J2 b2),h⟩⟩
 refine Jv 3 ?_;refine Jz [4] [] [.n,.n,.b 0 0] [(76,.slice A5 X.length c6),(78,(A.rae p.1))] ?_;refine Vw 879 [] h (o_a5 A5 c6 X p.1 aj ak) (.o 5 .nil) ?_;rintro bd - h _ _ ⟨rfl,rfl⟩;refine Ve ?_;refine J0 1 [(8,.bool bd)] (Jw 1 ?_);obtain rfl:=J7 h;exact Va [] ⟨rfl,rfl⟩
def F.ck (h:D23)(k:(List Int)×Bool)(o:(List Int)×Bool)(a:(List D41))(p:(List D53)):Nat→Int→Option ((List Int)×(List Int)×Int)
 |0,_=>none
 |f+1,e=>if e<(a.length:Int)then((A.ix a e).bind fun s=>((F.ek h a p s).bind fun t=>(if t=true then(some ([],[],81))else(A.gd (Z.R64 (e+1)) ((F.ck h k o a p f) (e+1))))))else(some (k.1,o.1,0))
def F.el (a:D23):Option ((List Int)×(List Int)×Int):=(F.eJ a).bind fun k=>(if k≠0 then(some ([],[],k))else((F.dK a).bind fun e=>(if(!e.2)=true then(some ([],[],81))else((F.dg a e.1).bind fun h=>(if(!h.2)=true then(some ([],[],80))else((F.eg a h.1).bind fun o=>((F.dF a o).bind fun p=>(F.ck a e h o p A.FU 0))))))))
theorem o_bB(k:D23)(r:(List Int)×(List Int)×Int)(h:F.el k=some r):
    A.Ct Tryz.prog 48 [.agg #[.slice A0_ k.length c1_]] [(0,.sh (.slice T83) [.slice A0_ k.length c1_] k)] [] (fun v H'=>∃(A0':Option Addr) (c1':Nat) (A2':Option Addr) (c3':Nat),v=.tuple #[.slice A0' r.1.length c1',.slice A2' r.2.1.length c3',A.i r.2.2]∧H'=[(0,.own A.ti 3 A0' c1' r.1),(1,.own A.ti 3 A2' c3' r.2.1)]∧A.h6 r.2.2):=by
 refine J1 Tryz.func48 rfl Tryz.ntmps48 rfl fun w0 F0=>?_;rw[F.el]at h;refine Jv 1 ?_;refine Vc 1 (cs:=[.slice A0_ k.length c1_]) fun g1=>?_;refine J0 3 [] (Vb 3 ?_);refine Jz [1] [] [.b 0 0] [(12,.agg #[.slice A0_ k.length c1_])] ?_;refine Vw 2 [] h (o_bv A0_ c1_ k) (.s 0 .nil) ?_;rintro L - h _ _ ⟨rfl,rfl,hr4⟩;refine Ve ?_;refine J0 1 [(5,A.i L)] (Vb 2 ?_);refine J0 2 [(15,.bool (decide (L≠0)))] (Jw 1 ?_);refine Vr h ?_ ?_<;>intro N h
 ·refine Jv 1 ?_;refine J0 4 [(2,.slice none 0 0),(3,.slice none 0 0),(4,A.i L)] (Jw 1 ?_);obtain rfl:=J7 h;refine V9 42 A.ti 3 ?_;refine V9 43 A.ti 3 ?_;exact Vv [(0,42),(1,43)] (.tuple #[.slice none 0 0,.slice none 0 0,A.i L]) (fun a w hf hh=>Z.resv3 rfl (Vz hf rfl) (Vz hf rfl) (Vz hf rfl)) (⟨none,0,none,0,rfl,rfl,hr4⟩)
 refine Jv 3 ?_;refine Jz [1] [] [.b 0 0] [(18,.agg #[.slice A0_ k.length c1_])] ?_;refine Vw 44 [] h (o_bx A0_ c1_ k) (.s 0 .nil) ?_;rintro u - h _ _ ⟨z,B,rfl,rfl⟩;refine Ve ?_;refine J0 5 [(6,.slice z u.1.length B),(7,.bool u.2)] (Vb 3 ?_);refine J0 2 [(23,.bool (!u.2))] (Jw 1 ?_);refine Ud h ?_ ?_<;>intro N h
 ·refine Jv 1 ?_;refine J0 3 [(2,.slice none 0 0),(3,.slice none 0 0),(4,A.i 81)] (Jw 1 ?_);obtain rfl:=J7 h;refine V9 84 A.ti 3 ?_;refine V9 85 A.ti 3 ?_;exact Vv [(0,84),(1,85)] (.tuple #[.slice none 0 0,.slice none 0 0,A.i 81]) (fun a w hf hh=>Z.resv3 rfl (Vz hf rfl) (Vz hf rfl) (Vz hf rfl)) (⟨none,0,none,0,rfl,rfl,(Vd .i64 (81) rfl)⟩)
 refine Jv 3 ?_;refine Jz [1] [] [.b 0 0,.n] [(25,.agg #[.slice A0_ k.length c1_]),(26,.slice z u.1.length B)] ?_;refine Vw 86 [] h (o_be A0_ z c1_ B k u.1) (.s 0 (.o 44 .nil)) ?_;rintro x - h _ _ ⟨E,c12,rfl,rfl⟩;refine Ve ?_;refine J0 5 [(8,.slice E x.1.length c12),(7,.bool x.2)] (Vb 3 ?_);refine J0 2 [(31,.bool (!x.2))] (Jw 1 ?_);refine Ud h ?_ ?_<;>intro N h
 ·refine Jv 1 ?_;refine J0 3 [(2,.slice none 0 0),(3,.slice none 0 0),(4,A.i 80)] (Jw 1 ?_);obtain rfl:=J7 h;refine V9 126 A.ti 3 ?_;refine V9 127 A.ti 3 ?_;exact Vv [(0,126),(1,127)] (.tuple #[.slice none 0 0,.slice none 0 0,A.i 80]) (fun a w hf hh=>Z.resv3 rfl (Vz hf rfl) (Vz hf rfl) (Vz hf rfl)) (⟨none,0,none,0,rfl,rfl,(Vd .i64 (80) rfl)⟩)
 refine Jv 3 ?_;refine Jz [1] [] [.b 0 0,.n] [(32,.agg #[.slice A0_ k.length c1_]),(33,.slice E x.1.length c12)] ?_;refine Vw 128 [] h (o_aK A0_ E c1_ c12 k x.1) (.s 0 (.o 86 .nil)) ?_;rintro y - h _ _ ⟨I,J,rfl,rfl⟩;refine Ve ?_;refine J0 1 [(9,.slice I y.length J)] (Vb 2 ?_);refine Jz [1] [] [.b 0 0,.n] [(35,.agg #[.slice A0_ k.length c1_]),(36,.slice I y.length J)] ?_;refine Vw 168 [] h (o_aL A0_ I c1_ J k y) (.s 0 (.o 128 .nil)) ?_;rintro O - h _ _ ⟨U,c20,rfl,rfl⟩;refine Ve ?_;refine J0 1 [(10,.slice U O.length c20)] (Vb 3 ?_);refine J0 1 [(11,A.i 0)] (Jw 2 ?_);refine Vo [1,6,8,9,10] [0,1,44,86,128,168] (fun f nl nh=>∃(p:Int),nl=[(11,A.i p)]∧nh=[]∧A.h6 p∧F.ck k u x y O f p=some r) ⟨0,rfl,rfl,J5,h⟩ ?_;rintro W _ _ ⟨p,rfl,rfl,a3,h⟩;rcases W with _|W
 ·exact Vm h
 rw[F.ck]at h;refine Jv 2 ?_;refine J0 4 [(41,.bool (decide (p<(y.length:Int))))] (Jw 1 ?_);refine Vr h ?_ ?_<;>intro N h
 ·refine V3 5 ?_;refine Vl mixed 7 8 (A.mb 8 0) ?_;refine Vh J3 [] [0,1,44,86,128,168] [1] [] (A.mb 8 31) 3 [(0,.b 0 0),(1,.n),(2,.n),(3,.n),(4,.n)] [(44,.agg #[.slice A0_ k.length c1_]),(45,.slice I y.length J),(46,.slice U O.length c20),(47,.slice I y.length J),(48,A.i p)] ?_;have⟨X,Y,h⟩:=Vx h;refine Up 128 294 Y fun V=>?_;intro a4 a2;refine Vf J3 [0,1,44,86,128,168] l5b1 5 (A.mb 8 63) rfl (fun a w hf hh=>Uu (t:=T41) Y a2 hf) ?_;refine Vh J3 l5b1 l5b1 [] [294] (A.mb 8 127) 1 [(6,.e 0 0)] [(50,(A.rag X))] ?_;refine J8 7 ?_;refine Vw 295 [] h (o_bA A0_ I U c1_ J c20 k y O X V.1.1 V.1.2 V.2) (.s 0 (.o 128 (.o 168 .nil))) ?_;rintro a5 - h _ _ ⟨rfl,rfl⟩;refine Ve ?_;refine Ut (A.mb 8 255) ?_;refine J9 ?_;refine Uy 1 ?_;refine Ud h ?_ ?_<;>intro N h
  ·refine Jv 1 ?_;refine J0 3 [(2,.slice none 0 0),(3,.slice none 0 0),(4,A.i 81)] (Jw 1 ?_);obtain rfl:=J7 h;refine V9 335 A.ti 3 ?_;refine V9 336 A.ti 3 ?_;exact Vv [(0,335),(1,336)] (.tuple #[.slice none 0 0,.slice none 0 0,A.i 81]) (fun a w hf hh=>Z.resv3 rfl (Vz hf rfl) (Vz hf rfl) (Vz hf rfl)) (⟨none,0,none,0,rfl,rfl,(Vd .i64 (81) rfl)⟩)
  refine Jv 3 ?_;have⟨a1,h⟩:=Vq h;refine Ub 3 [Z.R64 (p+1)] [(11,A.i (p+1))] a1 (Jy ?_);exact Vi ⟨_,Qh _,⟨(p+1),rfl,rfl,(J2 a1),h⟩⟩
 refine Jv 3 ?_;refine J0 5 [(2,.slice z u.1.length B),(3,.slice E x.1.length c12),(4,A.i 0)] (Jw 1 ?_);obtain rfl:=J7 h;exact Vv [(0,44),(1,86)] (.tuple #[.slice z u.1.length B,.slice E x.1.length c12,A.i 0]) (fun a w hf hh=>Z.resv3 rfl (Vz hf rfl) (Vz hf rfl) (Vz hf rfl)) (⟨z,B,E,c12,rfl,rfl,J5⟩)
def F.dP (e:D23):Option ((List D41)×Int):=(F.el e).bind fun a=>(if a.2.2≠0 then(some ([],a.2.2))else((F.eg e a.2.1).bind fun h=>(some (h,0))))
theorem o_bC(a:D23)(r:(List D41)×Int)(e:F.dP a=some r):
    A.Ct Tryz.prog 13 [.agg #[.slice A0_ a.length c1_]] [(0,.sh (.slice T83) [.slice A0_ a.length c1_] a)] [] (fun v H'=>∃(A0':Option Addr) (c1':Nat),v=.tuple #[.slice A0' r.1.length c1',A.i r.2]∧H'=[(0,.own T41 42 A0' c1' r.1)]∧A.h6 r.2):=by
 refine J1 Tryz.func13 rfl Tryz.ntmps13 rfl fun w x=>?_;rw[F.dP]at e;refine Jv 1 ?_;refine Vc 1 (cs:=[.slice A0_ a.length c1_]) fun y=>?_;refine J0 2 [] (Vb 2 ?_);refine Jz [1] [] [.b 0 0] [(8,.agg #[.slice A0_ a.length c1_])] ?_;refine Vw 2 [] e (o_bB A0_ c1_ a) (.s 0 .nil) ?_;rintro h - e _ _ ⟨z,B,k,p,rfl,rfl,hr8⟩;refine Ve ?_;refine J0 7 [(5,.slice k h.2.1.length p),(6,A.i h.2.2)] (Vb 3 ?_);refine J0 2 [(14,.bool (decide (h.2.2≠0)))] (Jw 1 ?_);refine Vr e ?_ ?_<;>intro E e
 ·refine Jv 1 ?_;refine J0 3 [(2,.slice none 0 0),(3,A.i h.2.2)] (Jw 1 ?_);obtain rfl:=J7 e;refine V9 42 T41 42 ?_;exact V4 [(0,42)] ⟨none,0,rfl,rfl,hr8⟩
 refine Jv 3 ?_;refine Jz [1] [] [.b 0 0,.n] [(16,.agg #[.slice A0_ a.length c1_]),(17,.slice k h.2.1.length p)] ?_;refine Vw 43 [] e (o_aK A0_ k c1_ p a h.2.1) (.s 0 (.o 3 .nil)) ?_;rintro u - e _ _ ⟨t,c12,rfl,rfl⟩;refine Ve ?_;refine J0 2 [(2,.slice t u.length c12),(3,A.i 0)] (Jw 1 ?_);obtain rfl:=J7 e;exact V4 [(0,43)] ⟨t,c12,rfl,rfl,J5⟩
def F.dQ (e:D23):Option ((List D53)×Int):=(F.dP e).bind fun a=>(if a.2≠0 then(some ([],a.2))else((F.dF e a.1).bind fun h=>(some (h,0))))
theorem o_bD(a:D23)(r:(List D53)×Int)(e:F.dQ a=some r):
    A.Ct Tryz.prog 14 [.agg #[.slice A0_ a.length c1_]] [(0,.sh (.slice T83) [.slice A0_ a.length c1_] a)] [] (fun v H'=>∃(A0':Option Addr) (c1':Nat),v=.tuple #[.slice A0' r.1.length c1',A.i r.2]∧H'=[(0,.own T53 54 A0' c1' r.1)]∧A.h6 r.2):=by
 refine J1 Tryz.func14 rfl Tryz.ntmps14 rfl fun w x=>?_;rw[F.dQ]at e;refine Jv 1 ?_;refine Vc 1 (cs:=[.slice A0_ a.length c1_]) fun y=>?_;refine J0 2 [] (Vb 2 ?_);refine Jz [1] [] [.b 0 0] [(7,.agg #[.slice A0_ a.length c1_])] ?_;refine Vw 2 [] e (o_bC A0_ c1_ a) (.s 0 .nil) ?_;rintro h - e _ _ ⟨k,p,rfl,rfl,hr6⟩;refine Ve ?_;refine J0 5 [(4,.slice k h.1.length p),(5,A.i h.2)] (Vb 3 ?_);refine J0 2 [(12,.bool (decide (h.2≠0)))] (Jw 1 ?_);refine Vr e ?_ ?_<;>intro z e
 ·refine Jv 1 ?_;refine J0 3 [(2,.slice none 0 0),(3,A.i h.2)] (Jw 1 ?_);obtain rfl:=J7 e;refine V9 42 T53 54 ?_;exact V4 [(0,42)] ⟨none,0,rfl,rfl,hr6⟩
 refine Jv 3 ?_;refine Jz [1] [] [.b 0 0,.n] [(14,.agg #[.slice A0_ a.length c1_]),(15,.slice k h.1.length p)] ?_;refine Vw 43 [] e (o_aL A0_ k c1_ p a h.1) (.s 0 (.o 2 .nil)) ?_;rintro u - e _ _ ⟨t,c10,rfl,rfl⟩;refine Ve ?_;refine J0 2 [(2,.slice t u.length c10),(3,A.i 0)] (Jw 1 ?_);obtain rfl:=J7 e;exact V4 [(0,43)] ⟨t,c10,rfl,rfl,J5⟩
end Go.Proofs.YtlbnpmfggfbdoaaGreatDoor
end
section
namespace Go.Proofs.YtlbnpmfggfbdoaaGreatDoor
open Go.RowKit
variable(A0_ A1_ A2_ A4_ A5_ A7_ A10_ A12_ A13_:Option Addr)(b0_ g0_ b1_ c1_ c2_ g2_ c3_ b4_ b5_ c5_ b6_ c6_ c8_ g8_ g10_ c11_ c13_ c14_:Nat)
def F.bi (e:Bool→Int→Option Bool)(a:Int)(h:Bool):Option Bool:=A.gd (Z.R64 (a+1)) (e h (a+1))
def F.bj (e:Bool→Int→Option Bool)(a:Int)(h:Bool):Option Bool:=A.gd (Z.R64 (a+1)) (e h (a+1))
def F.aA (h:Bool→Int→Option Bool)(k:D44)(o:Int)(p:D53)(a:(List D44)):Nat→Bool→Int→Option Bool
 |0,_,_=>none
 |f+1,s,e=>if e<(a.length:Int)then((A.ix a e).bind fun u=>((F.b7 u p.2.2).bind fun t=>(if s=true then(F.bj (F.aA h k o p a f) e true)else(if t.2=0 then(F.bj (F.aA h k o p a f) e (decide (t.1=k)))else(F.bj (F.aA h k o p a f) e false)))))else(F.bi h o s)
def F.aq (p:Int→Option Bool)(s:(List D57)×Int)(a:(List D53)×Int)(e:D57)(h:Int)(t:D44):Nat→Bool→Int→Option Bool
 |0,_,_=>none
 |f+1,k,o=>if o<(a.1.length:Int)then((A.ix a.1 o).bind fun u=>(if(bif decide (u.2.1≠e.2.1)then true else k)=true then(F.bi (F.aq p s a e h t f) o k)else((F.dd s.1 e.1 u.1).bind fun w=>(F.aA (F.aq p s a e h t f) t o u w A.FU k 0))))else(if(!k)=true then(some false)else(A.gd (Z.R64 (h+1)) (p (h+1))))
def F.cq (a:Int→Option Bool)(e:(List D57)×Int)(h:(List D53)×Int)(k:D57)(o:Int)(p:D44)(s:Bool):Option Bool:=F.aq a e h k o p A.FU s 0
def F.ab (s:Int→Option Bool)(e:(List D57)×Int)(h:(List D53)×Int)(k:Int)(a:D57):Nat→Int→Option Bool
 |0,_=>none
 |f+1,o=>if o<(a.2.2.length:Int)then((A.ix a.2.2 o).bind fun p=>((F.eE p.1).bind fun t=>(if a.1=a.2.1 then(F.cq (F.ab s e h k a f) e h a o p (decide (p=t.1)))else(F.cq (F.ab s e h k a f) e h a o p false))))else(A.gd (Z.R64 (k+1)) (s (k+1)))
def F.cr (a:Int→Option Bool)(e:(List D57)×Int)(h:(List D53)×Int)(k:Int)(o:D57)(p:Bool):Option Bool:=if p=true then(some false)else(F.ab a e h k o A.FU 0)
def F.y (a:(List D57)×Int)(e:(List D53)×Int):Nat→Int→Option Bool
 |0,_=>none
 |f+1,h=>if h<(a.1.length:Int)then((A.ix a.1 h).bind fun k=>((F.eD k.2.2).bind fun o=>(if o.2≠0 then(F.cr (F.y a e f) a e h k true)else((F.eN o.1 k.2.2).bind fun p=>(F.cr (F.y a e f) a e h k (bif !p then true else decide ((o.1.length:Int)=0)))))))else(some true)
def F.bk (a:D23)(e:(List D57)×Int)(h:Bool):Option Bool:=if h=true then((F.ed).bind fun k=>(some k))else((F.dQ a).bind fun o=>(F.y e o A.FU 0))
def F.db (a:D23):Option Bool:=(F.aZ a).bind fun e=>((F.ed).bind fun h=>(if(!h)=true then(F.bk a e true)else((F.eX a).bind fun k=>(F.bk a e (bif !k then true else decide (e.2≠0))))))
theorem o_aQ(J:D23)(r:Bool)(h:F.db J=some r):
    A.Ct Tryz.prog 5 [.agg #[.slice A0_ J.length c1_]] [(0,.sh (.slice T83) [.slice A0_ J.length c1_] J),(1,.el none 0 0 A.tabF),(2,.el none 1 0 A.tabA)] [] (fun v H'=>v=.bool r∧H'=[]):=by
 refine J1 Tryz.func5 rfl Tryz.ntmps5 rfl fun w0 F0=>?_;rw[F.db]at h;refine Jv 1 ?_;refine Vc 3 (cs:=[.slice A0_ J.length c1_]) fun g1=>?_;refine J0 1 [] (Vb 2 ?_);refine Jz [3] [] [.b 0 0] [(23,.agg #[.slice A0_ J.length c1_])] ?_;refine Vw 4 [] h (o_ay A0_ c1_ J) (.s 0 (.s 1 (.s 2 .nil))) ?_;rintro p - h _ _ ⟨A4,c5,rfl,rfl,hr6⟩;refine Ve ?_;refine J0 5 [(3,.slice A4 p.1.length c5),(4,A.i p.2)] (Jw 2 ?_);refine J4 [1,3] l5n (fun z B=>∃(y7:Bool),z=[(37,.bool y7)]∧B=[]∧F.bk J p y7=some r) ?_ ?_
 ·refine Jv 0 ?_;refine Vw 44 [] h o_aI (.s 1 (.s 2 .nil)) ?_;rintro ar - h _ _ ⟨rfl,rfl⟩;refine Ve ?_;refine J0 2 [(29,.bool (!ar))] ?_;refine Vs (j:=29) rfl h (fun h=>?_) (fun h=>?_)
  ·refine Jz [] [] [.off,.off,.off,.n,.n,.off,.off,.n] [(37,.bool true)] (Jy ?_);exact Vi ⟨true,rfl,rfl,h⟩
  refine Jz [3] [] [.on (.b 0 0)] [(30,.agg #[.slice A0_ J.length c1_])] ?_;refine Vk (dj:=29) rfl rfl ?_;refine Vw 84 [] h (o_bR A0_ c1_ J) (.s 0 .nil) ?_;rintro ai - h _ _ ⟨rfl,rfl⟩;refine Ve ?_;refine Jz [] [] [.on .n,.n,.n,.sy .n,.sy .n,.pk] [(37,.bool (bif !ai then true else decide (p.2≠0)))] (Jy ?_);exact Vi ⟨(bif !ai then true else decide (p.2≠0)),rfl,rfl,h⟩
 rintro _ _ ⟨y7,rfl,rfl,h⟩;rw[F.bk]at h;refine Ud h ?_ ?_<;>intro O h
 ·refine Jv 1 ?_;refine Vw 124 [] h o_aI (.s 1 (.s 2 .nil)) ?_;rintro r8 - h _ _ ⟨rfl,rfl⟩;refine Ve ?_;refine J0 1 [(2,.bool r8)] (Jw 1 ?_);obtain rfl:=J7 h;exact Va [] ⟨rfl,rfl⟩
 refine Jv 3 ?_;refine Jz [3] [] [.b 0 0] [(40,.agg #[.slice A0_ J.length c1_])] ?_;refine Vw 164 [] h (o_bD A0_ c1_ J) (.s 0 .nil) ?_;rintro t - h _ _ ⟨aj,c13,rfl,rfl,hr14⟩;refine Ve ?_;refine J0 5 [(5,.slice aj t.1.length c13)] (Vb 3 ?_);refine J0 3 [(44,.slice A4 p.1.length c5),(45,A.i (p.1.length:Int)),(46,A.i 0)] (Jw 2 ?_);refine Vo [3,5,44,45] [1,2,4,164] (fun f z B=>∃(E:Int),z=[(46,A.i E)]∧B=[]∧A.h6 E∧F.y p t f E=some r) ⟨0,rfl,rfl,J5,h⟩ ?_;rintro V _ _ ⟨E,rfl,rfl,az,h⟩;rcases V with _|V
 ·exact Vm h
 rw[F.y]at h;refine Jv 1 ?_;refine J0 1 [(47,.bool (decide (E<(p.1.length:Int))))] (Jw 2 ?_);refine Vr h ?_ ?_<;>intro O h
 ·refine Jv 5 ?_;have⟨k,au,h⟩:=Vx h;refine Um 4 3706 au fun ak=>?_;intro a1 c22 b0 b1;refine Jz [] [3706] [.e 0 0] [(49,.agg #[A.i k.1.1,A.i k.1.2,A.i k.2.1.1,A.i k.2.1.2,.slice a1 k.2.2.length c22])] ?_;refine J6 3708 (cs:=[A.i 0,A.i 0,A.i 0,A.i 0,.slice none 0 0]) Tryz.zeroValue58 fun b2=>?_;refine Vu 3708 [] [A.i k.1.1,A.i k.1.2,A.i k.2.1.1,A.i k.2.1.2,.slice a1 k.2.2.length c22] ?_;refine Vb 2 ?_;refine Jz [3708] [] [.n,.b 0 4] [(52,.slice a1 k.2.2.length c22)] ?_;refine Vw 3709 [] h (o_bo a1 c22 k.2.2) (.l 3707 .nil) ?_;rintro a2 - h _ _ ⟨ae,af,rfl,rfl,hr30⟩;refine Ve ?_;refine J0 5 [(9,.slice ae a2.1.length af),(10,A.i a2.2)] (Jw 2 ?_);refine J4 [3,5,8,44,45,46] [1,2,4,164,3707,3708] (fun z B=>∃(ag:Bool),z=[(69,.bool ag)]∧B=[]∧F.cr (F.y p t V) p t E k ag=some r) ?_ ?_
  ·refine Jv 0 ?_;refine J0 3 [(58,.bool (decide (a2.2≠0)))] ?_;refine V6 (j:=58) rfl h ?_ ?_<;>intro O h
   ·refine Jz [] [] [.off,.off,.off,.off,.off,.n,.n,.off,.off,.off,.n] [(69,.bool true)] (Jy ?_);exact Vi ⟨true,rfl,rfl,h⟩
   refine Jz [3708] [] [.on .n,.on .n,.on (.b 0 4)] [(59,.slice ae a2.1.length af),(61,.slice a1 k.2.2.length c22)] ?_;refine Vk (dj:=58) rfl rfl ?_;refine Vw 3749 [] h (o_bF ae a1 af c22 a2.1 k.2.2) (.o 3709 (.l 3707 .nil)) ?_;rintro al - h _ _ ⟨rfl,rfl⟩;refine Ve ?_;refine Jz [] [] [.on .n,.n,.n,.sy .n,.sy .n,.sy .n,.pk] [(69,.bool (bif !al then true else decide ((a2.1.length:Int)=0)))] (Jy ?_);exact Vi ⟨(bif !al then true else decide ((a2.1.length:Int)=0)),rfl,rfl,h⟩
  rintro _ _ ⟨ag,rfl,rfl,h⟩;rw[F.cr]at h;refine Ud h ?_ ?_<;>intro O h
  ·refine Jv 1 ?_;refine J0 1 [(2,.bool false)] (Jw 1 ?_);obtain rfl:=J7 h;exact Va [] ⟨rfl,rfl⟩
  refine Jv 3 ?_;refine Jz [3708] [] [.n,.b 0 4,.n,.n] [(71,.slice a1 k.2.2.length c22),(72,A.i (k.2.2.length:Int)),(73,A.i 0)] (Jw 2 ?_);refine Vo [3,5,8,44,45,46,71,72] [1,2,4,164,3707,3708] (fun f z B=>∃(I:Int),z=[(73,A.i I)]∧B=[]∧A.h6 I∧F.ab (F.y p t V) p t E k f I=some r) ⟨0,rfl,rfl,J5,h⟩ ?_;rintro a3 _ _ ⟨I,rfl,rfl,b3,h⟩;rcases a3 with _|a3
  ·exact Vm h
  rw[F.ab]at h;refine Jv 1 ?_;refine J0 1 [(74,.bool (decide (I<(k.2.2.length:Int))))] (Jw 2 ?_);refine Vr h ?_ ?_<;>intro O h
  ·refine Jv 5 ?_;have⟨u,av,h⟩:=Vx h;refine V2 3707 4901 av fun aw=>?_;intro b4 b5;refine Jz [] [4901] [.e 0 0] [(76,(A.raf u))] ?_;refine J6 4902 (cs:=l5c) Tryz.zeroValue45 fun b6=>?_;refine Vu 4902 [] (A.rab u) ?_;refine Vb 2 ?_;refine Jz [4902] [] [.n,.b 0 0] [(79,A.i u.1)] ?_;refine Vw 4903 [] h (o_aJ u.1 aw.1) .nil ?_;rintro a4 - h _ _ ⟨rfl,rfl,hr43,hr44,hr45,hr46,hr47,hr48,hr49,hr50,hr51⟩;refine Ve ?_;refine J0 3 [(81,(A.raf a4.1)),(82,A.i a4.2)] ?_;refine J6 4943 (cs:=l5c) Tryz.zeroValue45 fun b7=>?_;refine Vu 4943 [] (A.rab a4.1) ?_;refine J0 1 [] (Jw 1 ?_);refine J4 [3,5,8,12,44,45,46,71,72,73] l5x (fun z B=>∃(a8:Bool),z=[(15,.bool a8)]∧B=[]∧F.cq (F.ab (F.y p t V) p t E k a3) p t k I u a8=some r) ?_ ?_
   ·refine Jv 0 ?_;refine Jz [3708] [] [.n,.b 0 0,.n,.b 0 2] [(84,(A.rae k.1)),(86,(A.rae k.2.1))] ?_;refine Uc rfl (fun a w hf hh=>eqagg_eql40 (x:=k.1) (y:=k.2.1) (hf.eval rfl) (hf.eval rfl)) ?_;refine J0 1 [(88,.bool (decide (k.1=k.2.1)))] ?_;refine V6 (j:=88) rfl h ?_ ?_<;>intro O h
    ·refine Jz [4902,4943] [] [.on (.b 0 0),.on (.b 1 0)] [(89,(A.raf u)),(90,(A.raf a4.1))] ?_;refine Vk (dj:=88) rfl rfl ?_;refine Uc rfl (fun a w hf hh=>eqagg_eql45 (x:=u) (y:=a4.1) (hf.eval rfl) (hf.eval rfl)) ?_;refine J0 2 [(15,.bool (decide (u=a4.1)))] (Jy ?_);exact Vi ⟨(decide (u=a4.1)),rfl,rfl,h⟩
    refine Jz [] [] [.off,.off,.off,.n,.n] [(15,.bool false)] (Jy ?_);exact Vi ⟨false,rfl,rfl,h⟩
   rintro _ _ ⟨a8,rfl,rfl,h⟩;rw[F.cq]at h;refine Jv 2 ?_;refine J0 3 [(93,.slice aj t.1.length c13),(94,A.i (t.1.length:Int)),(95,A.i 0)] (Jw 2 ?_);refine Vo [3,5,8,12,44,45,46,71,72,73,93,94] l5x (fun f z B=>∃(a5:Bool),∃(L:Int),z=[(15,.bool a5),(95,A.i L)]∧B=[]∧A.h6 L∧F.aq (F.ab (F.y p t V) p t E k a3) p t k I u f a5 L=some r) ⟨a8,0,rfl,rfl,J5,h⟩ ?_;rintro a6 _ _ ⟨a5,L,rfl,rfl,b9,h⟩;rcases a6 with _|a6
   ·exact Vm h
   rw[F.aq]at h;refine Jv 1 ?_;refine J0 1 [(96,.bool (decide (L<(t.1.length:Int))))] (Jw 2 ?_);refine Vr h ?_ ?_<;>intro O h
   ·refine V3 2 ?_;refine J4 [3,5,8,12,44,45,46,71,72,73,93,94,95] l5x (fun z B=>∃(a9:Bool),z=[(15,.bool a9)]∧B=[]∧F.bi (F.aq (F.ab (F.y p t V) p t E k a3) p t k I u a6) L a9=some r) ?_ ?_
    ·refine Jv 2 ?_;have⟨N,ax,h⟩:=Vx h;refine Um 164 5286 ax fun U=>?_;intro bb bc;refine Jz [] [5286] [.e 0 0] [(98,(A.rai N))] ?_;refine J6 5287 (cs:=A.zz12) Tryz.zeroValue54 fun bd=>?_;refine Vu 5287 [] (A.rad N) ?_;refine Vb 3 ?_;refine Jz [5287,3708] [] [.n,.b 0 2,.n,.b 1 2] [(100,(A.rae N.2.1)),(102,(A.rae k.2.1))] ?_;refine Uc rfl (fun a w hf hh=>eqagg_neq40 (x:=N.2.1) (y:=k.2.1) (hf.eval rfl) (hf.eval rfl)) ?_;refine Jz [] [] [.n,.sy .n,.pk] [(106,.bool (bif decide (N.2.1≠k.2.1)then true else a5))] (Jw 1 ?_);refine Ud h ?_ ?_<;>intro O h
     ·refine Vy 1 ?_;exact Vi ⟨a5,rfl,rfl,h⟩
     refine Jv 3 ?_;refine Jz [3708,5287] [] [.n,.n,.b 0 0,.n,.b 1 0] [(107,.slice A4 p.1.length c5),(109,(A.rae k.1)),(111,(A.rae N.1))] ?_;refine Vw 5288 [] h (o_aC A4 c5 p.1 k.1 N.1 ak.1.1 ak.1.2 U.1.1 U.1.2) (.o 4 .nil) ?_;rintro aa - h _ _ ⟨be,bg,rfl,rfl⟩;refine Ve ?_;refine J0 2 [(113,A.i (aa.length:Int)),(114,A.i 0)] (Jw 2 ?_);refine Vo [3,5,8,12,17,44,45,46,71,72,73,93,94,95,112,113] l5y (fun f z B=>∃(a7:Bool),∃(W:Int),z=[(15,.bool a7),(114,A.i W)]∧B=[]∧A.h6 W∧F.aA (F.aq (F.ab (F.y p t V) p t E k a3) p t k I u a6) u L N aa f a7 W=some r) ⟨a5,0,rfl,rfl,J5,h⟩ ?_;rintro ah _ _ ⟨a7,W,rfl,rfl,bh,h⟩;rcases ah with _|ah
     ·exact Vm h
     rw[F.aA]at h;refine Jv 1 ?_;refine J0 1 [(115,.bool (decide (W<(aa.length:Int))))] (Jw 2 ?_);refine Vr h ?_ ?_<;>intro O h
     ·refine V3 2 ?_;refine J4 [3,5,8,12,17,44,45,46,71,72,73,93,94,95,112,113,114] l5y (fun z B=>∃(ac:Bool),z=[(15,.bool ac)]∧B=[]∧F.bj (F.aA (F.aq (F.ab (F.y p t V) p t E k a3) p t k I u a6) u L N aa ah) W ac=some r) ?_ ?_
      ·refine Jv 2 ?_;have⟨ad,ay,h⟩:=Vx h;refine Um 5288 5414 ay fun Y=>?_;intro bl bm;refine Jz [] [5414] [.e 0 0] [(117,(A.raf ad))] ?_;refine J6 5415 (cs:=l5c) Tryz.zeroValue45 fun bp=>?_;refine Vu 5415 [] (A.rab ad) ?_;refine Vb 2 ?_;refine Jz [5415,5287] [] [.b 0 0,.n,.b 1 4] [(119,(A.raf ad)),(121,(A.raf N.2.2))] ?_;refine Vw 5416 [] h (o_bG ad N.2.2 Y.1 Y.2.1 Y.2.2.1 Y.2.2.2.1 Y.2.2.2.2.1 Y.2.2.2.2.2.1 Y.2.2.2.2.2.2.1 Y.2.2.2.2.2.2.2 U.2.2.1 U.2.2.2.1 U.2.2.2.2.1 U.2.2.2.2.2.1 U.2.2.2.2.2.2.1 U.2.2.2.2.2.2.2.1 U.2.2.2.2.2.2.2.2.1 U.2.2.2.2.2.2.2.2.2) .nil ?_;rintro X - h _ _ ⟨rfl,rfl,hr84,hr85,hr86,hr87,hr88,hr89,hr90,hr91,hr92⟩;refine Ve ?_;refine J0 3 [(123,(A.raf X.1)),(124,A.i X.2)] ?_;refine J6 5456 (cs:=l5c) Tryz.zeroValue45 fun bq=>?_;refine Vu 5456 [] (A.rab X.1) ?_;refine J0 1 [(21,A.i X.2)] (Vb 1 ?_);refine J0 2 [(126,.bool a7)] ?_;refine Vs (j:=126) rfl h (fun h=>?_) (fun h=>?_)
       ·refine Jz [] [] [.off,.off,.off,.off,.off,.off,.off,.n,.n] [(15,.bool true)] (Ug 1 ?_);exact Vi ⟨true,rfl,rfl,h⟩
       refine Jz [] [] [.on .n,.on .n,.on .n] [(129,.bool (decide (X.2=0)))] ?_;refine V6 (j:=129) rfl h ?_ ?_<;>intro O h
       ·refine Jz [5456,4902] [] [.on (.b 0 0),.on (.b 1 0)] [(130,(A.raf X.1)),(131,(A.raf u))] ?_;refine Vk (dj:=129) rfl rfl ?_;refine Uc rfl (fun a w hf hh=>eqagg_eql45 (x:=X.1) (y:=u) (hf.eval rfl) (hf.eval rfl)) ?_;refine Jz [] [] [.on .n,.n,.n] [(15,.bool (decide (X.1=u)))] (Ug 1 ?_);exact Vi ⟨(decide (X.1=u)),rfl,rfl,h⟩
       refine Jz [] [] [.off,.off,.off,.on .n,.n,.n] [(15,.bool false)] (Ug 1 ?_);exact Vi ⟨false,rfl,rfl,h⟩
      rintro _ _ ⟨ac,rfl,rfl,h⟩;rw[F.bj]at h;refine Jv 0 ?_;have⟨am,h⟩:=Vq h;refine Ub 2 [Z.R64 (W+1)] [(114,A.i (W+1))] am (Jy ?_);exact Vi ⟨_,Qh _,⟨ac,(W+1),rfl,rfl,(J2 am),h⟩⟩
     refine Vy 2 ?_;exact Vi ⟨a7,rfl,rfl,h⟩
    rintro _ _ ⟨a9,rfl,rfl,h⟩;rw[F.bi]at h;refine Jv 0 ?_;have⟨an,h⟩:=Vq h;refine Ub 2 [Z.R64 (L+1)] [(95,A.i (L+1))] an (Jy ?_);exact Vi ⟨_,Qh _,⟨a9,(L+1),rfl,rfl,(J2 an),h⟩⟩
   refine Jv 3 ?_;refine J0 2 [(138,.bool (!a5))] (Jw 1 ?_);refine Ud h ?_ ?_<;>intro O h
   ·refine Jv 1 ?_;refine J0 1 [(2,.bool false)] (Jw 1 ?_);obtain rfl:=J7 h;exact Va [] ⟨rfl,rfl⟩
   refine Jv 3 ?_;have⟨ao,h⟩:=Vq h;refine Ub 2 [Z.R64 (I+1)] [(73,A.i (I+1))] ao (Jy ?_);exact Vi ⟨_,Qh _,⟨(I+1),rfl,rfl,(J2 ao),h⟩⟩
  refine Jv 3 ?_;have⟨ap,h⟩:=Vq h;refine Ub 2 [Z.R64 (E+1)] [(46,A.i (E+1))] ap (Jy ?_);exact Vi ⟨_,Qh _,⟨(E+1),rfl,rfl,(J2 ap),h⟩⟩
 refine Jv 3 ?_;refine J0 1 [(2,.bool true)] (Jw 1 ?_);obtain rfl:=J7 h;exact Va [] ⟨rfl,rfl⟩
def F.eU (a:D62):Nat→Int→Option Int
 |0,_=>none
 |f+1,e=>if e<4 then((A.ix [a.2.2.1,a.2.2.2.1,a.2.2.2.2.1,a.2.2.2.2.2] e).bind fun h=>(if(bif decide (h<0)then true else decide ((1048576:Int)<h))=true then(some 10)else(if(bif decide (a.2.1≤e)then decide (h≠0)else false)=true then(some 10)else(A.gd (Z.R64 (e+1)) ((F.eU a f) (e+1))))))else(some 0)
def F.e1 (a:D62):Option Int:=if(bif bif bif decide (a.1<0)then true else decide ((1073741824:Int)<a.1)then true else decide (a.2.1<0)then true else decide ((4:Int)<a.2.1))=true then(some 10)else(F.eU a A.FU 0)
def F.eZ (a:D44)(e:D62)(h:Int)(k:Int)(o:Int)(p:Int):Option (D62×Int):=some ((e.1,a.2.1+a.2.2.2.1,(h,k,o,p)),0)
def F.e4 (a:D44)(h:D62):Option (D62×Int):=(F.az a).bind fun p=>(if(!p)=true then(some ((0,0,(0,0,0,0)),20))else((F.e1 h).bind fun s=>(if s≠0 then((F.e1 h).bind fun t=>(some ((0,0,(0,0,0,0)),t)))else(if h.2.1≠a.1 then(some ((0,0,(0,0,0,0)),11))else(A.gd (Z.R64 (a.2.1+a.2.2.2.1)) (A.gd (0≤a.2.1∧a.2.1≤4) (A.gd (0≤a.2.1∧a.2.1≤4) ((A.cp4 [0,0,0,0] [h.2.2.1,h.2.2.2.1,h.2.2.2.2.1,h.2.2.2.2.2] 0 a.2.1 a.2.1).bind fun o=>(A.gd (0≤a.2.1∧a.2.1≤4) (A.gd (0≤a.2.2.2.1∧a.2.2.2.1≤4) ((A.cp4 [o.1,o.2.1,o.2.2.1,o.2.2.2] [a.2.2.2.2.1,a.2.2.2.2.2.1,a.2.2.2.2.2.2.1,a.2.2.2.2.2.2.2] a.2.1 4 a.2.2.2.1).bind fun e=>(if(0:Int)<a.2.1 then(A.gd (Z.R64 (a.2.1-1)) ((A.ix [e.1,e.2.1,e.2.2.1,e.2.2.2] (a.2.1-1)).bind fun k=>(A.gd (Z.R64 (k+a.2.2.1)) ((A.ix [e.1,e.2.1,e.2.2.1,e.2.2.2] (a.2.1-1)).bind fun w=>(A.gd (Z.R64 (a.2.1-1)) ((A.ix [(if a.2.1-1=0 then k+a.2.2.1 else e.1),(if a.2.1-1=1 then k+a.2.2.1 else e.2.1),(if a.2.1-1=2 then k+a.2.2.1 else e.2.2.1),(if a.2.1-1=3 then k+a.2.2.1 else e.2.2.2)] (a.2.1-1)).bind fun u=>(if(1048576:Int)<u then(some ((0,0,(0,0,0,0)),12))else(F.eZ a h (if a.2.1-1=0 then k+a.2.2.1 else e.1) (if a.2.1-1=1 then k+a.2.2.1 else e.2.1) (if a.2.1-1=2 then k+a.2.2.1 else e.2.2.1) (if a.2.1-1=3 then k+a.2.2.1 else e.2.2.2)))))))))else(F.eZ a h e.1 e.2.1 e.2.2.1 e.2.2.2)))))))))))))
theorem eqq_summ_Apply:True:=(fun _=>trivial) @F.e4.eq_1
end Go.Proofs.YtlbnpmfggfbdoaaGreatDoor
end
section
namespace Go.Proofs.YtlbnpmfggfbdoaaGreatDoor
open Go.RowKit
def F.et (e:Int→Option Int)(a:Int)(h:Bool):Option Int:=if h=true then(some 10)else(A.gd (Z.R64 (a+1)) (e (a+1)))
def F.dR (a:D62):Nat→Int→Option Int
 |0,_=>none
 |f+1,e=>if e<4 then((A.ix [a.2.2.1,a.2.2.2.1,a.2.2.2.2.1,a.2.2.2.2.2] e).bind fun h=>(if h<0 then(F.et (F.dR a f) e true)else((A.ix [a.2.2.1,a.2.2.2.1,a.2.2.2.2.1,a.2.2.2.2.2] e).bind fun k=>(if(1048576:Int)<k then(F.et (F.dR a f) e true)else(if a.2.1≤e then((A.ix [a.2.2.1,a.2.2.2.1,a.2.2.2.2.1,a.2.2.2.2.2] e).bind fun o=>(F.et (F.dR a f) e (decide (o≠0))))else(F.et (F.dR a f) e false))))))else(some 0)
def F.e2 (a:D62):Option Int:=if(bif bif bif decide (a.1<0)then true else decide ((1073741824:Int)<a.1)then true else decide (a.2.1<0)then true else decide ((4:Int)<a.2.1))=true then(some 10)else(F.dR a A.FU 0)
def F.eu (e:Int→Int→Int→Int→Int→Int→Int→Option (D62×Int))(h:Int)(k:Int)(a:Int)(o:Int)(p:Int)(s:Int)(t:Int):Option (D62×Int):=A.gd (Z.R64 (a+1)) (e h k o p s t (a+1))
def F.dS (e:D44)(h:D62):Nat→Int→Int→Int→Int→Int→Int→Int→Option (D62×Int)
 |0,_,_,_,_,_,_,_=>none
 |f+1,t,u,k,o,p,s,a=>if a<4 then(A.gd (Z.R64 (e.2.1-1)) (if a<e.2.1-1 then((A.ix [h.2.2.1,h.2.2.2.1,h.2.2.2.2.1,h.2.2.2.2.2] a).bind fun x=>((A.ix [k,o,p,s] a).bind fun B=>(F.eu (F.dS e h f) t u a (if a=0 then x else k) (if a=1 then x else o) (if a=2 then x else p) (if a=3 then x else s))))else(A.gd (Z.R64 (e.2.1-1)) (if a=e.2.1-1 then((A.ix [h.2.2.1,h.2.2.2.1,h.2.2.2.2.1,h.2.2.2.2.2] a).bind fun w=>(A.gd (Z.R64 (w+e.2.2.1)) ((A.ix [k,o,p,s] a).bind fun E=>(F.eu (F.dS e h f) t u a (if a=0 then w+e.2.2.1 else k) (if a=1 then w+e.2.2.1 else o) (if a=2 then w+e.2.2.1 else p) (if a=3 then w+e.2.2.1 else s)))))else(A.gd (Z.R64 (e.2.1+e.2.2.2.1)) (if a<e.2.1+e.2.2.2.1 then(A.gd (Z.R64 (a-e.2.1)) ((A.ix [e.2.2.2.2.1,e.2.2.2.2.2.1,e.2.2.2.2.2.2.1,e.2.2.2.2.2.2.2] (a-e.2.1)).bind fun y=>((A.ix [k,o,p,s] a).bind fun I=>(F.eu (F.dS e h f) t u a (if a=0 then y else k) (if a=1 then y else o) (if a=2 then y else p) (if a=3 then y else s)))))else((A.ix [k,o,p,s] a).bind fun J=>(F.eu (F.dS e h f) t u a (if a=0 then 0 else k) (if a=1 then 0 else o) (if a=2 then 0 else p) (if a=3 then 0 else s)))))))))else((F.e2 (t,u,(k,o,p,s))).bind fun z=>(if z≠0 then(some ((0,0,(0,0,0,0)),12))else(some ((t,u,(k,o,p,s)),0))))
def F.e5 (a:D44)(e:D62):Option (D62×Int):=(F.aa a).bind fun h=>(if h≠0 then(some ((0,0,(0,0,0,0)),h))else((F.e2 e).bind fun k=>(if k≠0 then(some ((0,0,(0,0,0,0)),k))else(if e.2.1≠a.1 then(some ((0,0,(0,0,0,0)),11))else(A.gd (Z.R64 (a.2.1+a.2.2.2.1)) (F.dS a e A.FU e.1 (a.2.1+a.2.2.2.1) 0 0 0 0 0))))))
theorem eqq_R02_Apply:True:=(fun _=>trivial) @F.e5.eq_1
end Go.Proofs.YtlbnpmfggfbdoaaGreatDoor
end
section
namespace Go.A
open Go.RowKit Go.Z
section
variable {r:Option Nat}{P:Program}{ops:Array Oper}{Q:Exit→Act→World→Prop}{C:Cx}{l:List (Nat×Value)}{H Hq:List (Nat×Res)}{m f:Nat}{li:List Bool}
end
end Go.A
end
section
namespace Go.Proofs.YtlbnpmfggfbdoaaGreatDoor
open Go.RowKit
end Go.Proofs.YtlbnpmfggfbdoaaGreatDoor
end
section
end
section
namespace Go.A
open Go.RowKit Go.Z Go.Shelf Go.Proofs Go.Lib
def Hall (W:World):List (Nat×Res)→Prop
 | []=>True
 |p::H=>(p.2.bl=[]∧p.2.ref=none∧p.2.holds W (fun _=>True) (fun _ _=>False))∧Hall W H
theorem Hall.at {W:World}: ∀{H:List (Nat×Res)} {k:Nat} {r:Res},Hall W H→hk H k=some r→r.bl=[]∧r.ref=none∧r.holds W (fun _=>True) (fun _ _=>False)
 | [],_,_,_,h=>by cases h
 |(d,u)::H,k,r,I,h=>by
  rw[Qaa]at h
  split at h
  ·injection h with h;subst h;exact I.1
  ·exact I.2.at h
theorem Hp.start {W:World}{H:List (Nat×Res)}(h:Hall W H):Hp ⟨0,[],W,[],fun _=>True⟩ H W:=by
 have I: ∀k b,¬Bk H k b:=fun k b ⟨r,Y,N⟩=>by rw[(h.at Y).1]at N;cases N
 refine⟨Ch.refl W,fun k r hk=>?_,fun k b J=>(I k b J).elim,fun k k' b J=>(I k b J).elim,fun k r j hk O=>?_⟩
 ·exact Res.to (S:=[]) (h.at hk).2.2 (Ch.refl W) (fun b _ _=>⟨by simp,fun k=>I k b,.inl trivial⟩) (fun b _ _=>⟨by simp,fun k=>I k b⟩) (fun i b _ hf=>hf.elim) (by simp)
 ·rw[(h.at hk).2.1]at O;cases O
theorem Hall.sh {W:World}{t:Ty}{cs:List Value}{x:t.den}{F:Nat→Prop}(h:t.rep W F cs x):(Res.sh t cs x).bl=[]∧(Res.sh t cs x).ref=none∧(Res.sh t cs x).holds W (fun _=>True) (fun _ _=>False):=
 ⟨rfl,rfl,Qcr h fun _ _ _=>trivial⟩
def putCells (cs:List Value):Obj→Obj
 | .cells _ t frozen=>.cells cs.toArray t frozen
 |o=>o
theorem tab_cells {w:World}{O W:Nat}(h:Lib.Utf8Tabs O W w):Cells w ⟨O,0,none⟩ tabF∧Cells w ⟨W,0,none⟩ tabA:=by
 constructor
 ·intro j u I
  rw[Addr.add_lit,Wf]
  have N:j<256:=by have:=(Qc.1 I).1;simpa[tabF] using this
  have e:tabF[j]?=some (.int .u8 (firstT j)):=by simp[tabF,N]
  rw[e]at I;injection I with I;subst I
  exact h.1 j N
 ·intro j u I
  rw[Addr.add_lit,Wf]
  have N:j<32:=by have:=(Qc.1 I).1;simpa[tabA] using this
  have e:tabA[j]?=some (.int .u8 (if j%2=0 then accLo (j / 2)else accHi (j / 2))):=by simp[tabA,N]
  rw[e]at I;injection I with I;subst I
  have:=h.2 (j / 2) (by omega)
  by_cases Y:j%2=0
  ·rw[if_pos Y]
   have J:j=2*(j / 2):=by omega
   rw[J];simpa using this.1
  ·rw[if_neg Y]
   have J:j=2*(j / 2)+1:=by omega
   have h3:(2*(j / 2)+1) / 2=j / 2:=by omega
   rw[J,h3];exact this.2
theorem Hall.tabs {w:World}{I J i j:Nat}(h:Lib.Utf8Tabs I J w):Hall w [(i,.el none I 0 tabF),(j,.el none J 0 tabA)]:=by
 obtain⟨N,O⟩:=tab_cells h
 exact⟨⟨rfl,rfl,N,World.block_lt_of_cell? w _ (N 0 (.int .u8 (firstT 0)) (by simp[tabF])),fun _ h=>h⟩,⟨rfl,rfl,O,World.block_lt_of_cell? w _ (O 0 (.int .u8 (accLo 0)) (by simp[tabA])),fun _ h=>h⟩,trivial⟩
end Go.A
end
