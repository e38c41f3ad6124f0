import Derived.Test.YtligcbdjiolamaaGreatDoorA7
import Derived.OpenShut
import Derived.ShutString
import Derived.ChangeOld
import Derived.ChangeArms
import Derived.DataReads
import Derived.Test.YtligcbdjiolamaaGreatDoorRows
import Derived.Test.YtligcbdjiolamaaGreatDoorTie
import Derived.Test.YtligcbdjiolamaaGreatDoorCards
import Derived.WalkKit
import Derived.ProofKit
import Derived.LaidMore
import Derived.Stop.Joined
import Derived.SevenTiedAt
import Derived.Lib.LaidIn
import Derived.Lib.LaidU8T
import Derived.PinnedBridge
import Derived.SizedLaws
set_option linter.defProp false
set_option maxRecDepth 20000
set_option linter.unusedVariables false
set_option linter.unusedSimpArgs false
set_option synthInstance.maxSize 1000000
set_option synthInstance.maxHeartbeats 400000
section
namespace Go.Proofs.YtligcbdjiolamaaGreatDoor
open Go.RowKit Go.Graph Go.Utf
abbrev Rec:=Int×ByteArray
def okT (s:ByteArray):Bool:=decide (s.size<=64)&&vld s s.size 0
def Qke (r:Rec):F.dt r=some (if okT r.2=true then 0 else 50):=by
 rw[F.dt];unfold okT;by_cases h:r.2.size<=64;rw[Qb (by omega),F.ah,Qbf,Qa,F.ca,Q4 h,Xj];cases vld r.2 r.2.size 0<;>rfl;rw[Qc (by omega),F.ca,Qc rfl,Wu h];rfl
def Qdm (r:Rec):F.co r=some (if okT r.2=true then 0 else 50):=by
 rw[F.co];unfold okT;by_cases h:r.2.size<=64;rw[Qb (by omega),Qgw _ (by omega),Qa,F.cj,Q4 h,Xj];cases vld r.2 r.2.size 0<;>rfl;rw[Qc (by omega),F.cj,Qc rfl,Wu h];rfl
def Qbu {s:ByteArray}:okT s=true↔s.size<=64/\vld s s.size 0=true:=by unfold okT;simp
def Qde {s:ByteArray}(h:vld s s.size 0=true):flat (cks s.data.toList)=s.data.toList/\∀c,c∈cks s.data.toList->Ck c:=valid_cks (by rw[Qbf];exact h)
def vld_of {s:ByteArray}{cs:List Rn}(h:s.data.toList=flat cs)(E: ∀c,c∈cs->Ck c):vld s s.size 0=true:=by
 rw[<-Qbf,h];exact valid_flat E
def cks_of {s:ByteArray}{cs:List Rn}(h:s.data.toList=flat cs)(E: ∀c,c∈cs->Ck c):cks s.data.toList=cs:=by rw[h];exact cks_flat E
def app_list (s t:ByteArray):(s++t).data.toList=s.data.toList++t.data.toList:=by rw[ByteArray.data_append,Array.toList_append]
def vld_app {s t:ByteArray}(H:vld s s.size 0=true)(I:vld t t.size 0=true):vld (s++t) (s++t).size 0=true/\cks (s++t).data.toList=cks s.data.toList++cks t.data.toList:=by
 obtain⟨h1,h2⟩:=Qde H;obtain⟨J,N⟩:=Qde I;have e:(s++t).data.toList=flat (cks s.data.toList++cks t.data.toList):=by rw[Qay,h1,J,app_list]
 have E: ∀c,c∈cks s.data.toList++cks t.data.toList->Ck c:=λc E=>(Q8.1 E).elim (h2 c) (N c);exact⟨vld_of e E,cks_of e E⟩
def cks_len (s:ByteArray):(cks s.data.toList).length<=s.size:=by
 have: ∀(n:Nat) (l:List UInt8),(ckF n l).length<=n:=by
  intro n;induction n with
  |zero=>intro l;simp[ckF]
  |succ n ih=>intro l;unfold ckF;split<;>simp;exact ih _
 exact this _ _
def mapK (f:Fun)(r:Rec):Rec:=
 if f.1=2 then(r.1,upper r.2)else if f.1=3 then(r.1,⟨(flat ((cks r.2.data.toList).take f.2.1.toNat)).toArray⟩)else if f.1=4 then(r.1,⟨(flat (cks r.2.data.toList).reverse).toArray⟩)
 else if f.1=5 then(r.1,(r.2++f.2.2).extract 0 (bd 64 0 (cks (r.2++f.2.2).data.toList)))else if f.1=6 then(Int.tmod (Int.tmod r.1 f.2.1+f.2.1) f.2.1,r.2)
 else if f.1=7 then(((cks r.2.data.toList).length:Int),r.2)else if f.1=8 then((((cks r.2.data.toList).map (·.2))[0]?).getD 0,r.2)else r
def mapP (f:Fun)(r:Rec):Rec×Int:=if chk 2 f≠0 then((0,QE),chk 2 f)else if okT r.2=true then(mapK f r,0)else((0,QE),50)
def Qkv {f:Fun}(h:chk 2 f=0):(1<=f.1/\f.1<=8)/\Qbs f=true/\Qhd f=true:=by
 have hk:chk 2 f=anyF f [1,2,3,4,5,6,7,8]:=rfl;rw[hk]at h;unfold anyF at h;split at h;rename_i h1;rw[Jh]at h1;obtain⟨y,E,h2⟩:=h1;simp only[Qd,Qy]at h2;obtain⟨rfl,H,I⟩:=h2;refine⟨?_,H,I⟩;simp only[Qn,J8,or_false]at E;omega;cases h
def num_cut {f:Fun}(h:chk 2 f=0)(E:f.1=3):0<=f.2.1/\f.2.1<=64:=by
 have:=(Qkv h).2.1;unfold Qbs at this;rw[Qc (.inl E)]at this;simpa using this
def num_mod {f:Fun}(h:chk 2 f=0)(E:f.1=6):1<=f.2.1/\f.2.1<=1048576:=by
 have:=(Qkv h).2.1;unfold Qbs at this;rw[Qb (by omega),Qc (.inl E)]at this;simpa using this
def Qgf {f:Fun}(h:chk 2 f=0)(E:f.1=5):f.2.2.size<=16/\vld f.2.2 f.2.2.size 0=true:=by
 have:=(Qkv h).2.2;unfold Qhd at this;rw[Qc E]at this;simp only[Qd,Qy]at this;exact⟨by omega,this.2⟩
def Qks (l:List UInt8):(ByteArray.mk l.toArray).size=l.length:=by show l.toArray.size=_;simp
def flat_sub {cs:List Rn}(k:Nat):(flat (cs.take k)).length<=(flat cs).length:=by
 have:=Wq List.length (Qfc cs k);rw[Qx]at this;omega
def flat_rev (cs:List Rn):(flat cs.reverse).length=(flat cs).length:=by
 show(cs.reverse.flatMap (·.1)).length=(cs.flatMap (·.1)).length;simp only[List.length_flatMap];rw[List.map_reverse,List.sum_reverse]
def Qiv {cs:List Rn}(h: ∀c,c∈cs->Ck c){x:Int}(hx:(cs.map (·.2))[0]?=some x):0<=x/\x<=1114111:=by
 rw[Q0,Jy]at hx;obtain⟨c,E,rfl⟩:=hx;have:=h c (Qu E);exact⟨this.nn,this.top⟩
def R06_may_eq (f:Fun)(r:Rec)(E:f.2.2.size<=5000):F.d5 2 f r=some (if chk 2 f≠0 then chk 2 f else if okT r.2=true then 0 else 50):=by
 rw[F.d5];show(F.bq 2 f).bind _=_;rw[Qcc 2 f E,Qa];by_cases h:chk 2 f=0;rw[Qb (λh2=>h2 h),Qb (λh2=>h2 h)];show(F.co r).bind _=_;rw[Qdm];rfl;rw[Qc h,Qc h]
def R06_Map_eq (f:Fun)(r:Rec)(hs:f.2.2.size<=5000):F.d6 f r=some (mapP f r):=by
 rw[F.d6];show(F.d5 2 f r).bind _=_;rw[R06_may_eq f r hs,Qa];unfold mapP;by_cases h:chk 2 f=0;case neg=>rw[show(if chk 2 f≠0 then chk 2 f else if okT r.2=true then 0 else 50)=chk 2 f from Qc h,Qc h,Qc h]
 rw[show(if chk 2 f≠0 then chk 2 f else if okT r.2=true then 0 else 50)=if okT r.2=true then 0 else 50 from Qb (λh2=>h2 h),Qb (show ¬(chk 2 f≠0)from λh2=>h2 h)];by_cases E:okT r.2=true;case neg=>rw[show(if okT r.2=true then(0:Int)else 50)=50 from Qb E,Qb E];rfl
 rw[show(if okT r.2=true then(0:Int)else 50)=0 from Qc E,Qc E,Qb (show ¬((0:Int)≠0)from λh2=>h2 rfl)];obtain⟨h64,W⟩:=Qbu.1 E;obtain⟨hf,hc⟩:=Qde W;have hfl:(flat (cks r.2.data.toList)).length=r.2.size:=by rw[hf,Qad]
 have hcl:=cks_len r.2;rw[Qff _ (by omega) W,Qa];unfold mapK;by_cases Y:f.1=2;rw[Qc Y,Qc Y,Qjl _ (by omega)];rfl;rw[Qb Y,Qb Y];by_cases H:f.1=3;obtain⟨n1,n2⟩:=num_cut h H;have ea:f.2.1=((f.2.1.toNat:Nat):Int):=by omega
 have hp:=part_eq hf (a:=0) (b:=f.2.1.toNat) (Ya _);rw[<-ea]at hp;have hp':F.dp r.2 (ats 0 (cks r.2.data.toList)) 0 f.2.1=_:=hp;rw[Qc H,Qc H,hp',Qa];have:r.2.extract (pos (cks r.2.data.toList) 0) (pos (cks r.2.data.toList) f.2.1.toNat)=⟨(flat ((cks r.2.data.toList).take f.2.1.toNat)).toArray⟩:=ba_eq (by rw[Qhm hf,X5]);rw[this];rfl;rw[Qb H,Qb H];by_cases e4:f.1=4;rw[Qc e4,Qc e4,turn_eq _ (by omega) W];rfl;rw[Qb e4,Qb e4];by_cases I:f.1=5;obtain⟨n1,n2⟩:=Qgf h I;have:=R05_Cut_eq (r.2++f.2.2) 64 (by rw[ByteArray.size_append];omega) (vld_app W n2).1;rw[Qc I,Qc I,A.gd1 (by omega),show(64:Int)=((64:Nat):Int)from rfl,this];rfl;rw[Qb I,Qb I];by_cases J:f.1=6;obtain⟨n1,n2⟩:=num_mod h J;have t1:Int.tmod r.1 f.2.1<f.2.1:=Yr _ (by omega);have t2: -f.2.1<Int.tmod r.1 f.2.1:=by
  have:=Yr (-r.1) (show 0<f.2.1 by omega);rw[Int.neg_tmod]at this;omega
 rw[Qc J,Qc J,A.gd1 ⟨by omega,⟨by omega,by omega⟩,by omega⟩];rfl;rw[Qb J,Qb J];by_cases e7:f.1=7;rw[Qc e7,Qc e7,Qav];rfl;rw[Qb e7,Qb e7];by_cases e8:f.1=8;rw[Qc e8,Qc e8];have hg:=Qhn (cks r.2.data.toList) 0 0;cases hx:(cks r.2.data.toList)[0]? with
 |none=>
  have:(cks r.2.data.toList).length=0:=by
   have:=Jk.1 hx;omega
  rw[Qb (by rw[Qav];omega),Q0,hx];rfl
 |some x=>
  have hlt:=(Qe.1 hx).1;have N:((cks r.2.data.toList).map (·.2))[0]?=some x.2:=by rw[Q0,hx];rfl
  have hr:=Qiv hc N;rw[hx]at hg;rw[Qc (by rw[Qav];omega),show A.ix (ats 0 (cks r.2.data.toList)) 0=some _ from A.ixn (k:=0) hg,Qa,A.gd1 ⟨by show _<=x.2;omega,by show x.2<=_;omega⟩,N];rfl
 rw[Qb e8,Qb e8];rfl
def Ck.one {b:UInt8}(h:b.toNat<128):Ck ([b],(b.toNat:Int)):=by
 have E:Lib.decodeL [b]=(b.toNat,1):=by
  rw[Lib.decodeL_N];unfold Lib.decodeN;rw[Qc (by simpa using h)];rfl
 have:=Ck.of (l:=[b]) (by simp) (by rw[E];intro h2;have:=h2.1;simp only at this;omega);rw[E]at this;exact this
def Ck.kinds {c:Rn}(h:Ck c):(∃b:UInt8,b.toNat<128/\c=([b],(b.toNat:Int)))\/∀b,b∈c.1->128<=b.toNat:=by
 have H:=h.dec [];rw[Xy]at H;have J:=h.ok;have hlen:=h.len;rw[Lib.decodeL_N]at H;have k0:=(c.1.getD 0 0).toNat_lt;rcases Lib.decodeN_shape c.1.length (c.1.getD 0 0).toNat (c.1.getD 1 0).toNat (c.1.getD 2 0).toNat (c.1.getD 3 0).toNat with⟨q,e⟩|⟨c1,c2,c3,cv,e⟩|⟨c1,c2,c3,c4,cv,cs,e⟩|⟨c1,c2,c3,c4,c5,cv,cw,e⟩|e
 left;rw[e]at H;injection H with h1 h2
 have E:=Lib.takeA c.1 (by omega);rw[Xd (by omega)]at E;refine⟨c.1.getD 0 0,q,?_⟩;have N:=h.nn;refine Prod.ext E ?_;show c.2=_;rw[h1];omega;right;rw[e]at H;injection H with h1 h2
 have E:=Lib.takeB c.1 (by omega);rw[Xd (by omega)]at E;intro b I;rw[E]at I;simp only[Qn,J8,or_false]at I;rcases I with rfl|rfl<;>omega
 right;rw[e]at H;injection H with h1 h2
 have E:=Lib.takeC c.1 (by omega);rw[Xd (by omega)]at E;intro b I;rw[E]at I;simp only[Qn,J8,or_false]at I;rcases I with rfl|rfl|rfl<;>omega
 right;rw[e]at H;injection H with h1 h2
 have E:=Lib.takeD c.1 (by omega);rw[Xd (by omega)]at E;intro b I;rw[E]at I;simp only[Qn,J8,or_false]at I;rcases I with rfl|rfl|rfl|rfl<;>omega
 rw[e]at H;injection H with h1 h2
 exact absurd ⟨h1.symm,h2.symm⟩ J
def upB_lt {b:UInt8}(h:b.toNat<128):(upB b).toNat <128:=by
 unfold upB;split;rename_i h2;have e:(UInt8.ofNat (b.toNat-32)).toNat=b.toNat-32:=by
  rw[UInt8.toNat_ofNat'];omega
 rw[e];omega;exact h
def upB_ge {b:UInt8}(h:128<=b.toNat):upB b=b:=by unfold upB;rw[Qb (by omega)]
def up_ck {cs:List Rn}(h: ∀c,c∈cs->Ck c): ∃cs',(∀c,c∈cs'->Ck c)/\flat cs'=(flat cs).map upB:=by
 induction cs with
 |nil=>exact⟨[],by simp,rfl⟩
 |cons c cs ih=>
  obtain⟨cs',h1,h2⟩:=ih λx hx=>h x (Qf _ hx);have I:=h c (Qh ..);rcases Ck.kinds I with⟨b,E,rfl⟩|E
  exact⟨([upB b],((upB b).toNat:Int))::cs',λx hx=>(Qn.1 hx).elim (λe=>e▸Ck.one (upB_lt E)) (h1 x),by rw[Qam,Qam,h2];simp⟩;refine⟨c::cs',λx hx=>(Qn.1 hx).elim (λe=>e▸I) (h1 x),?_⟩;rw[Qam,Qam,h2,Xc];congr 1;refine((Jn λb H=>upB_ge (E b H)).trans ?_).symm;simp
def o_cJ {f:Fun}{r:Rec}(h:chk 2 f=0)(H:okT r.2=true):okT (mapK f r).2=true:=by
 obtain⟨I,W⟩:=Qbu.1 H;obtain⟨Y,J⟩:=Qde W;have hfl:(flat (cks r.2.data.toList)).length=r.2.size:=by rw[Y,Qad]
 unfold mapK;by_cases e2:f.1=2;rw[Qc e2];obtain⟨cs',h1,h2⟩:=up_ck J;rw[Y]at h2;refine Qbu.2 ⟨?_,vld_of (cs:=cs') (by rw[h2];rfl) h1⟩;show(upper r.2).size<=64;unfold upper;rw[Qks,W6,Qad];exact I;rw[Qb e2];by_cases e3:f.1=3;rw[Qc e3];have hsub:=flat_sub (cs:=cks r.2.data.toList) f.2.1.toNat;exact Qbu.2 ⟨by show(ByteArray.mk _).size<=64;rw[Qks];omega,vld_of (cs:=(cks r.2.data.toList).take f.2.1.toNat) rfl λc E=>J c (Jd E)⟩;rw[Qb e3];by_cases e4:f.1=4;rw[Qc e4];have hr:=flat_rev (cks r.2.data.toList);exact Qbu.2 ⟨by show(ByteArray.mk _).size<=64;rw[Qks];omega,vld_of (cs:=(cks r.2.data.toList).reverse) rfl λc E=>J c (List.mem_reverse.1 E)⟩;rw[Qb e4];by_cases N:f.1=5;rw[Qc N];obtain⟨n1,n2⟩:=Qgf h N;obtain⟨v1,v2⟩:=vld_app W n2;obtain⟨g1,g2⟩:=Qde v1;obtain⟨k,b1,b2⟩:=bd_pre 64 (cks (r.2++f.2.2).data.toList) 0 (Ya _);have e:((r.2++f.2.2).extract 0 (bd 64 0 (cks (r.2++f.2.2).data.toList))).data.toList=flat ((cks (r.2++f.2.2).data.toList).take k):=by
  have:=Qhm g1 0 k;rw[X5]at this;rw[b1,Wl];exact this
 refine Qbu.2 ⟨?_,vld_of e λc E=>g2 c (Jd E)⟩;show((r.2++f.2.2).extract 0 _).size<=64;rw[ByteArray.size_extract];omega;rw[Qb N];by_cases e6:f.1=6;rw[Qc e6];exact H;rw[Qb e6];by_cases e7:f.1=7;rw[Qc e7];exact H;rw[Qb e7];by_cases e8:f.1=8;rw[Qc e8];exact H;rw[Qb e8];exact H
end Go.Proofs.YtligcbdjiolamaaGreatDoor
end
section
namespace Go.Ent
open Go.Utf
abbrev En:=Int×Int×ByteArray×Int
abbrev Ky:=Int×Int×ByteArray
abbrev key (e:En):Ky:=(e.1,e.2.1,e.2.2.1)
abbrev num (e:En):Int:=e.2.2.2
def bL_irr: ∀a:List UInt8,Op.bytesLess a a=false
 | []=>rfl
 |x::a=>by unfold Op.bytesLess;rw[bL_irr a];simp
def bL_tr: ∀{a b c:List UInt8},Op.bytesLess a b=true->Op.bytesLess b c=true->Op.bytesLess a c=true
 |_,_,[],_,h=>by cases h':(‹List UInt8›)<;>simp_all [Op.bytesLess]
 |_,[],_::_,h,_=>by simp_all [Op.bytesLess]
 | [],_::_,_::_,_,_=>rfl
 |x::a,y::b,z::c,h1,h2=>by
  unfold Op.bytesLess at h1 h2 ⊢;simp only[Xs,Qd,Qy,beq_iff_eq]at h1 h2 ⊢;rcases h1 with h1|⟨rfl,h1⟩
  rcases h2 with h2|⟨rfl,h2⟩
  exact .inl (UInt8.lt_trans h1 h2);exact .inl h1;rcases h2 with h2|⟨rfl,h2⟩
  exact .inl h2;exact .inr ⟨rfl,bL_tr h1 h2⟩
def bL_tri: ∀{a b:List UInt8},Op.bytesLess a b=false->Op.bytesLess b a=false->a=b
 | [],[],_,_=>rfl
 | [],_::_,h,_=>by simp[Op.bytesLess]at h
 |_::_,[],_,h=>by simp[Op.bytesLess]at h
 |x::a,y::b,h1,h2=>by
  unfold Op.bytesLess at h1 h2;simp only[Yw,decide_eq_false_iff_not,Ja]at h1 h2;have e:x=y:=UInt8.le_antisymm (UInt8.not_lt.1 h2.1) (UInt8.not_lt.1 h1.1);subst e;have E:Op.bytesLess a b=false:=by rcases h1.2 with h|h;simp at h;exact h
  have H:Op.bytesLess b a=false:=by rcases h2.2 with h|h;simp at h;exact h
  rw[bL_tri E H]
def bl (s t:ByteArray):Bool:=Op.bytesLess s.toList t.toList
def bl_irr (s:ByteArray):bl s s=false:=bL_irr _
def bl_tr {s t u:ByteArray}(h1:bl s t=true)(h2:bl t u=true):bl s u=true:=bL_tr h1 h2
def bl_tri {s t:ByteArray}(h1:bl s t=false)(h2:bl t s=false):s=t:=by
 have:=bL_tri h1 h2;rw[Lib.toList_data,Lib.toList_data]at this;exact ba_eq this
def rl (a b:Int×ByteArray):Bool:=decide (a.1<b.1)||(decide (a.1=b.1)&&bl a.2 b.2)
def rl_irr (a:Int×ByteArray):rl a a=false:=by unfold rl;rw[bl_irr];simp
def rl_tr {a b c:Int×ByteArray}(h1:rl a b=true)(h2:rl b c=true):rl a c=true:=by
 unfold rl at h1 h2 ⊢;simp only[Xs,Qd,Qy]at h1 h2 ⊢;rcases h1 with h1|⟨h1,h1'⟩
 rcases h2 with h2|⟨h2,h2'⟩
 left;omega;left;omega;rcases h2 with h2|⟨h2,h2'⟩
 left;omega;exact .inr ⟨h1.trans h2,bl_tr h1' h2'⟩
def rl_tri {a b:Int×ByteArray}(h1:rl a b=false)(h2:rl b a=false):a=b:=by
 unfold rl at h1 h2;simp only[Yw,decide_eq_false_iff_not,Ja]at h1 h2;have e:a.1=b.1:=by omega
 have E:bl a.2 b.2=false:=by rcases h1.2 with h|h;exact absurd e h;exact h
 have H:bl b.2 a.2=false:=by rcases h2.2 with h|h;exact absurd e.symm h;exact h
 exact Prod.ext e (bl_tri E H)
def kl (a b:Ky):Bool:=decide (a.1<b.1)||(decide (a.1=b.1)&&rl a.2 b.2)
def kl_irr (a:Ky):kl a a=false:=by unfold kl;rw[rl_irr];simp
def kl_tr {a b c:Ky}(h1:kl a b=true)(h2:kl b c=true):kl a c=true:=by
 unfold kl at h1 h2 ⊢;simp only[Xs,Qd,Qy]at h1 h2 ⊢;rcases h1 with h1|⟨h1,h1'⟩
 rcases h2 with h2|⟨h2,h2'⟩
 left;omega;left;omega;rcases h2 with h2|⟨h2,h2'⟩
 left;omega;exact .inr ⟨h1.trans h2,rl_tr h1' h2'⟩
def kl_tri {a b:Ky}(h1:kl a b=false)(h2:kl b a=false):a=b:=by
 unfold kl at h1 h2;simp only[Yw,decide_eq_false_iff_not,Ja]at h1 h2;have e:a.1=b.1:=by omega
 have E:rl a.2 b.2=false:=by rcases h1.2 with h|h;exact absurd e h;exact h
 have H:rl b.2 a.2=false:=by rcases h2.2 with h|h;exact absurd e.symm h;exact h
 exact Prod.ext e (rl_tri E H)
def kl_ne {a b:Ky}(h:kl a b=true):a≠b:=λe=>by subst e;rw[kl_irr]at h;cases h
def kl_asy {a b:Ky}(h:kl a b=true):kl b a=false:=by
 cases h2:kl b a with
 |false=>rfl
 |true=>have:=kl_tr h h2;rw[kl_irr]at this;cases this
abbrev Srt (l:List En):Prop:=l.Pairwise λa b=>kl (key a) (key b)=true
def gv:List En->Ky->Int
 | [],_=>0
 |e::l,k=>if key e=k then num e else gv l k
def Qle: ∀{l:List En} {k:Ky},(∀e,e∈l->key e≠k)->gv l k=0
 | [],_,_=>rfl
 |e::l,k,h=>by unfold gv;rw[Qb (h e (Qh ..))];exact Qle λx hx=>h x (Qf _ hx)
def gv_mem: ∀{l:List En} {e:En},Srt l->e∈l->gv l (key e)=num e
 |x::l,e,h,E=>by
  unfold gv;rcases Qn.1 E with rfl|E
  rw[Qc rfl];rw[Qb (kl_ne ((Wa.1 h).1 e E))];exact gv_mem (Wa.1 h).2 E
def gv_at {l:List En}{k:Ky}(h:gv l k≠0): ∃e,e∈l/\key e=k/\num e=gv l k:=by
 induction l with
 |nil=>exact absurd rfl h
 |cons x l ih=>
  unfold gv at h ⊢;by_cases hx:key x=k;rw[Qc hx];exact⟨x,Qh ..,hx,rfl⟩;rw[Qb hx]at h ⊢;obtain⟨e,h1,h2⟩:=ih h;exact⟨e,Qf _ h1,h2⟩
def en_ext {a b:En}(h:key a=key b)(E:num a=num b):a=b:=by
 obtain⟨a1,a2,a3,a4⟩:=a;obtain⟨b1,b2,b3,b4⟩:=b;simp only[key,num,Qt]at h E;obtain⟨rfl,rfl,rfl⟩:=h;subst E;rfl
def srt_ext: ∀{l m:List En},Srt l->Srt m->(∀e,e∈l↔e∈m)->l=m
 | [],[],_,_,_=>rfl
 | [],y::m,_,_,h=>by have:=(h y).2 (Qh ..);cases this
 |x::l,[],_,_,h=>by have:=(h x).1 (Qh ..);cases this
 |x::l,y::m,H,I,h=>by
  have e:x=y:=by
   rcases Qn.1 ((h x).1 (Qh ..))with e|hx
   exact e;rcases Qn.1 ((h y).2 (Qh ..))with e|N
   exact e.symm;have h1:=(Wa.1 I).1 x hx;have h2:=(Wa.1 H).1 y N;rw[kl_asy h1]at h2;cases h2
  subst e;congr 1;refine srt_ext (Wa.1 H).2 (Wa.1 I).2 λe=>?_;have nl: ∀z,z∈l->z≠x:=λz J e=>by subst e;have:=(Wa.1 H).1 z J;rw[kl_irr]at this;cases this
  have nm: ∀z,z∈m->z≠x:=λz J e=>by subst e;have:=(Wa.1 I).1 z J;rw[kl_irr]at this;cases this
  exact⟨λE=>((Qn.1 ((h e).1 (Qf _ E))).resolve_left (nl e E)),λE=>((Qn.1 ((h e).2 (Qf _ E))).resolve_left (nm e E))⟩
structure Nf (l:List En):Prop where
 srt:Srt l
 nz: ∀e,e∈l->num e≠0
def nf_mem {l m:List En}(E:Nf l)(N:Nf m)(h: ∀k,gv l k=gv m k){e:En}(H:e∈l):e∈m:=by
 have h1:=gv_mem E.srt H;rw[h]at h1;obtain⟨e',h2,J,I⟩:=gv_at (l:=m) (k:=key e) (by rw[h1];exact E.nz e H);rw[h1]at I;rw[<-en_ext J I];exact h2
def nf_ext {l m:List En}(E:Nf l)(H:Nf m)(h: ∀k,gv l k=gv m k):l=m:=
 srt_ext E.srt H.srt λe=>⟨nf_mem E H h,nf_mem H E λk=>(h k).symm⟩
def upd (x e:En)(one:Bool):En:=(x.1,x.2.1,x.2.2.1,if one=true then 1 else min (num x+num e) 1099511627776)
def insP (e:En)(one:Bool):List En->List En
 | []=>[e]
 |x::l=>if key x=key e then upd x e one::l else if kl (key e) (key x)=true then e::x::l else x::insP e one l
def putP (e:En)(one:Bool)(l:List En):List En:=if num e=0 then l else insP e one l
abbrev cap (one:Bool):Int:=if one=true then 1 else 1099511627776
structure Bd (one:Bool) (l:List En):Prop where
 srt:Srt l
 b: ∀e,e∈l->1<=num e/\num e<=cap one
def Bd.nf {one:Bool}{l:List En}(h:Bd one l):Nf l:=⟨h.srt,λe E=>by have:=(h.b e E).1;omega⟩
def Bd.gv {one:Bool}{l:List En}(h:Bd one l)(k:Ky):0<=gv l k/\gv l k<=cap one:=by
 by_cases h0:Ent.gv l k=0;rw[h0];cases one<;>decide;obtain⟨e,h1,_,h2⟩:=gv_at h0;have:=h.b e h1;rw[h2]at this;exact⟨by omega,this.2⟩
def Qec {e:En}{one:Bool}: ∀{l:List En} {x:En},x∈insP e one l->x=e\/x∈l\/∃y,y∈l/\key y=key e/\x=upd y e one
 | [],x,h=>by simp only[insP,Qq]at h;exact .inl h
 |y::l,x,h=>by
  unfold insP at h;split at h;rename_i hk;rcases Qn.1 h with rfl|h
  exact .inr (.inr ⟨y,Qh ..,hk,rfl⟩);exact .inr (.inl (Qf _ h));split at h;rcases Qn.1 h with rfl|h
  exact .inl rfl;exact .inr (.inl h);rcases Qn.1 h with rfl|h
  exact .inr (.inl (Qh ..));rcases Qec h with h1|h1|⟨z,h1,h2⟩
  exact .inl h1;exact .inr (.inl (Qf _ h1));exact .inr (.inr ⟨z,Qf _ h1,h2⟩)
def insP_key {e:En}{one:Bool}{l:List En}{x:En}(h:x∈insP e one l):key x=key e\/∃y,y∈l/\key x=key y:=by
 rcases Qec h with rfl|h|⟨y,h1,h2,rfl⟩
 exact .inl rfl;exact .inr ⟨x,h,rfl⟩;exact .inr ⟨y,h1,rfl⟩
def Qgq {e:En}{one:Bool}: ∀{l:List En},Srt l->Srt (insP e one l)
 | [],_=>by simp[insP]
 |x::l,h=>by
  obtain⟨h1,h2⟩:=Wa.1 h;unfold insP;split;rename_i hk;exact Wa.2 ⟨λy H=>h1 y H,h2⟩;rename_i hk;split;rename_i E;exact Wa.2 ⟨λy H=>(Qn.1 H).elim (λe=>e▸E) λH=>kl_tr E (h1 y H),h⟩;rename_i E;refine Wa.2 ⟨λy H=>?_,Qgq h2⟩;rcases insP_key H with I|⟨z,N,I⟩
  rw[I];cases J:kl (key x) (key e)with
  |true=>rfl
  |false=>exact absurd (kl_tri J (by simpa using E)) hk
  rw[I];exact h1 z N
def Qko {e:En}{one:Bool}{k:Ky}: ∀{l:List En},Bd one l->1<=num e->num e<=cap one->gv (insP e one l) k=if k=key e then min (cap one) (gv l k+num e)else gv l k
 | [],_,h1,h2=>by
  unfold insP gv gv;by_cases hk:k=key e;rw[Qc hk.symm,Qc hk];omega;rw[Qb (λh=>hk h.symm),Qb hk]
 |x::l,h,h1,h2=>by
  obtain⟨s1,J⟩:=Wa.1 h.srt;have N:Bd one l:=⟨J,λy H=>h.b y (Qf _ H)⟩;have hx:=h.b x (Qh ..);unfold insP;split;rename_i E;unfold gv;by_cases hk:k=key e;rw[Qc (show key (upd x e one)=k from E.trans hk.symm),Qc hk,Qc (E.trans hk.symm)];unfold num at h1 h2 hx;unfold upd num;cases one with
  |true=>simp only[Xo];simp only[cap,Xo]at h2 hx ⊢;omega
  |false=>simp only[Q3,Wd];simp only[cap,Q3,Wd];omega
  rw[Qb (show key (upd x e one)≠k from λh=>hk (h.symm.trans E)),Qb hk,Qb (λh=>hk (h.symm.trans E))];rename_i E;split;rename_i I;by_cases hk:k=key e;have h0:gv (x::l) k=0:=Qle λy H W=>by
   have:kl (key e) (key y)=true:=(Qn.1 H).elim (λe=>e▸I) λH=>kl_tr I (s1 y H);exact kl_ne this (W.trans hk).symm
  rw[Qc hk,h0];conv=>lhs;unfold gv
  rw[Qc hk.symm];omega;conv=>lhs;unfold gv
  rw[Qb (λh=>hk h.symm),Qb hk];unfold gv;by_cases hk:key x=k;rw[Qc hk,Qc hk,Qb (λh=>E (hk.trans h))];rw[Qb hk,Qb hk];exact Qko N h1 h2
def putP_bd {e:En}{one:Bool}{l:List En}(h:Bd one l)(h1:0<=num e)(h2:num e<=cap one):Bd one (putP e one l):=by
 unfold putP;split;exact h;rename_i h0;refine⟨Qgq h.srt,λx hx=>?_⟩;rcases Qec hx with rfl|hx|⟨y,E,_,rfl⟩
 exact⟨by omega,h2⟩;exact h.b x hx;have:=h.b y E;unfold num at this h1 h2;unfold upd num;cases one with
 |true=>simp[cap]
 |false=>simp only[Q3,Wd];simp only[cap,Q3,Wd];omega
def putP_gv {e:En}{one:Bool}{l:List En}(h:Bd one l)(h1:0<=num e)(h2:num e<=cap one)(k:Ky):gv (putP e one l) k=if key e=k then min (cap one) (gv l k+num e)else gv l k:=by
 have:=h.gv k;unfold putP;split;rename_i h0;rw[h0,Int.add_zero];split;omega;rfl;rw[Qko h (by omega) h2];by_cases hk:k=key e;rw[Qc hk,Qc hk.symm];rw[Qb hk,Qb (λh=>hk h.symm)]
def cs (C:Int)(l:List En)(k:Ky):Int:=l.foldl (λa e=>if key e=k then min C (a+num e)else a) 0
def sm:List En->Ky->Int
 | [],_=>0
 |e::l,k=>(if key e=k then num e else 0)+sm l k
def sm_app (a b:List En)(k:Ky):sm (a++b) k=sm a k+sm b k:=by
 induction a with
 |nil=>simp[sm]
 |cons x a ih=>rw[Yc,sm,sm,ih];omega
def sm_nn {l:List En}(h: ∀e,e∈l->0<=num e)(k:Ky):0<=sm l k:=by
 induction l with
 |nil=>simp[sm]
 |cons x l ih=>
  have h1:=ih λe E=>h e (Qf _ E);have h2:=h x (Qh ..);unfold sm;split<;>omega
def cs_sm {C:Int}(H:0<=C): ∀(l:List En),(∀e,e∈l->0<=num e)->∀k,cs C l k=min C (sm l k):=by
 intro l h k;have main: ∀(l:List En) (a:Int),(∀e,e∈l->0<=num e)->0<=a->a<=C->l.foldl (λa e=>if key e=k then min C (a+num e)else a) a=min C (a+sm l k):=by
  intro l;induction l with
  |nil=>intro a _ h1 h2;simp[sm];omega
  |cons x l ih=>
   intro a h h1 h2;have hx:=h x (Qh ..);have I:=sm_nn (λe E=>h e (Qf _ E)) k;rw[Vb,sm];split;rw[ih _ (λe E=>h e (Qf _ E)) (by omega) (by omega)];omega;rw[ih _ (λe E=>h e (Qf _ E)) h1 h2];omega
 have:=main l 0 h (Int.le_refl _) H;rw[Int.zero_add]at this;exact this
def sm_gv: ∀{l:List En},Srt l->∀k,sm l k=gv l k
 | [],_,_=>rfl
 |x::l,h,k=>by
  obtain⟨h1,h2⟩:=Wa.1 h;unfold sm gv;by_cases hk:key x=k;rw[Qc hk,Qc hk,sm_gv h2,Qle (λe E H=>kl_ne (h1 e E) (hk.trans H.symm))];omega;rw[Qb hk,Qb hk,sm_gv h2];omega
def foldP (one:Bool)(l:List En)(a:List En):List En:=l.foldl (λa e=>putP e one a) a
def o_cp {one:Bool}: ∀(l a:List En),Bd one a->(∀e,e∈l->0<=num e/\num e<=cap one)->Bd one (foldP one l a)/\∀k,gv (foldP one l a) k=l.foldl (λv e=>if key e=k then min (cap one) (v+num e)else v) (gv a k)
 | [],a,h,_=>⟨h,λ_=>rfl⟩
 |e::l,a,h,H=>by
  have E:=H e (Qh ..);obtain⟨I,J⟩:=o_cp l (putP e one a) (putP_bd h E.1 E.2) λx hx=>H x (Qf _ hx);refine⟨I,λk=>?_⟩;have:=J k;rw[putP_gv h E.1 E.2]at this;exact this
def Qbi {one:Bool}(l:List En)(E: ∀e,e∈l->0<=num e/\num e<=cap one):Bd one (foldP one l [])/\∀k,gv (foldP one l []) k=cs (cap one) l k:=
 o_cp l [] ⟨List.Pairwise.nil,by simp⟩ E
end Go.Ent
end
section
namespace Go.Proofs.YtligcbdjiolamaaGreatDoor
open Go.RowKit Go.Graph Go.Utf Go.Ent
def cI (a b:Int):Int:=if a<b then-1 else if b<a then 1 else 0
def Qgp (a b:Int):F.aL a b=some (cI a b):=by
 rw[F.aL];simp only[F.bO,Qa,ne_eq,not_true,decide_false,Q3,Wd];unfold cI;by_cases h1:a<b;rw[Qc h1,Qc h1];rw[Qb h1,Qb h1];by_cases h2:b<a;rw[Qc h2,Qc h2];rw[Qb h2,Qb h2]
def cmpi_eq (a b:Int):F.cL a b=some (cI a b):=Qgp a b
def cS (a b:ByteArray):Int:=if bl a b=true then-1 else if a=b then 0 else 1
def tl_eq {a b:ByteArray}:(a.toList==b.toList)=decide (a=b):=by
 rw[Lib.toList_data,Lib.toList_data];by_cases h:a=b;subst h;simp;rw[Wu h];exact beq_eq_false_iff_ne.2 λe=>h (ba_eq e)
def cmps_eq (a b:ByteArray):F.aZ a b=some (cS a b):=by
 rw[F.aZ];simp only[F.bu,Qa,ne_eq,not_true,decide_false,Q3,Wd,tl_eq];unfold cS bl;by_cases h1:Op.bytesLess a.toList b.toList=true;rw[Qc h1,Qc h1];rw[Qb h1,Qb h1];rw[J9]at h1;by_cases h2:a=b;subst h2;rw[h1];simp;rw[h1,Wu h2];simp[h2]
def cB_eq: ∀a b:List UInt8,Lib.compareBytes a b=if Op.bytesLess a b=true then-1 else if a=b then 0 else 1
 | [],[]=>rfl
 | [],_::_=>rfl
 |_::_,[]=>by simp[Lib.compareBytes,Op.bytesLess]
 |x::a,y::b=>by
  unfold Lib.compareBytes Op.bytesLess;by_cases h1:x<y;simp[h1];by_cases h2:y<x;have E:x≠y:=λe=>by subst e;exact h1 h2
  simp[h1,h2,E];have e:x=y:=UInt8.le_antisymm (UInt8.not_lt.1 h2) (UInt8.not_lt.1 h1);subst e;rw[Qb h1,Qb h1,cB_eq a b];simp[h1]
def scmp_eq (a b:ByteArray):F.cK a b=some (cS a b):=by
 rw[F.cK,cB_eq];unfold cS bl;rw[Lib.toList_data,Lib.toList_data];by_cases h:a=b;subst h;simp;have:a.data.toList≠b.data.toList:=λe=>h (ba_eq e);simp[h,this]
def or_eq (l:QP)(E:l.length<=100):F.cr l=some ((l.find? λx=>decide (x≠0)).getD 0):=
 A.lp0 l (λf y=>F.bk l f y) (λ_ r=>some ((r.find? λx=>decide (x≠0)).getD 0))
  (λf=>by rw[F.bk,Qb (by omega)];rfl)
  (λf k x hx hk ih=>by
   rw[F.bk,Qc (by omega),A.ixn hx,Qa,List.find?_cons];by_cases h:x=0;rw[Qb (λh2=>h2 h),A.gd1 ⟨by omega,by omega⟩,ih,Wu (λh2=>h2 h)];rw[Qc h,Q4 h];rfl)
  (by have:=Qac;omega)
def or2 (a b:Int):F.cr [a,b]=some (if a≠0 then a else b):=by
 rw[or_eq _ (by simp)];by_cases h:a=0;subst h;by_cases h2:b=0;subst h2;rfl;simp[h2];simp[h]
def or3 (a b c:Int):F.cr [a,b,c]=some (if a≠0 then a else if b≠0 then b else c):=by
 rw[or_eq _ (by simp)];by_cases h:a=0;subst h;by_cases h2:b=0;subst h2;by_cases E:c=0;subst E;rfl;simp[E];simp[h2];simp[h]
abbrev rec (e:En):Int×ByteArray:=(e.2.1,e.2.2.1)
def cS_cases (a b:ByteArray):(bl a b=true/\cS a b= -1)\/(a=b/\bl a b=false/\cS a b=0)\/(a≠b/\bl a b=false/\bl b a=true/\cS a b=1):=by
 unfold cS;cases h:bl a b with
 |true=>exact .inl ⟨rfl,by simp⟩
 |false=>
  by_cases h2:a=b;exact .inr (.inl ⟨h2,rfl,by simp[h2]⟩);refine .inr (.inr ⟨h2,rfl,?_,by simp[h2]⟩);cases E:bl b a with
  |true=>rfl
  |false=>exact absurd (bl_tri h E) h2
def Qhp (a b:Int):(a<b/\cI a b= -1)\/(a=b/\cI a b=0)\/(b<a/\cI a b=1):=by
 unfold cI;by_cases h:a<b;exact .inl ⟨h,Qc h⟩;by_cases h2:b<a;exact .inr (.inr ⟨h2,by rw[Qb h,Qc h2]⟩);exact .inr (.inl ⟨by omega,by rw[Qb h,Qb h2]⟩)
def cR (a b:Int×ByteArray):Int:=if cI a.1 b.1≠0 then cI a.1 b.1 else cS a.2 b.2
def cR_lt (a b:Int×ByteArray):decide (cR a b<0)=rl a b:=by
 unfold cR rl;rcases Qhp a.1 b.1 with⟨h,e⟩|⟨h,e⟩|⟨h,e⟩
 rw[e];simp[h];rw[e,h];simp only[ne_eq,not_true,Wd,Int.lt_irrefl,decide_false,Yi,decide_true,Xj];rcases cS_cases a.2 b.2 with⟨h2,E⟩|⟨h2,H,E⟩|⟨h2,H,I,E⟩
 rw[E,h2];rfl;rw[E,H];rfl;rw[E,H];rfl;rw[e];have h1: ¬a.1<b.1:=by omega
 have h2: ¬a.1=b.1:=by omega
 simp[h1,h2]
def ahead_eq (a b:En):F.c3 a b=some (rl (rec a) (rec b)):=by
 rw[F.c3,Qgp,Qa,scmp_eq,Qa,or2,Qa];exact Wq some (cR_lt (rec a) (rec b))
def Qfu (a b:Int×ByteArray):F.cB a b=some (cR a b):=by
 rw[F.cB];unfold cR;rcases Qhp a.1 b.1 with⟨h,e⟩|⟨h,e⟩|⟨h,e⟩
 rw[Qc h,e];rfl;rw[Qb (by omega),Qb (by omega),e];simp only[tl_eq];unfold cS bl;by_cases h1:Op.bytesLess a.2.toList b.2.toList=true;rw[Qc h1,Qc h1];rfl;rw[Qb h1,Qb h1];rw[J9]at h1;rw[h1];by_cases h2:a.2=b.2;simp[h2];simp[h2];rw[Qb (by omega),Qc h,e];rfl
def Qik (a b:En):F.dx a b=some (rl (rec a) (rec b)):=by
 rw[F.dx];show(F.cB (rec a) (rec b)).bind _=_;rw[Qfu,Qa,cR_lt]
def Qji (a b:En):F.du a b=some (kl (key a) (key b)):=by
 rw[F.du];unfold kl rl;by_cases h:a.1=b.1;rw[Qb (λh2=>h2 h)];by_cases h2:a.2.1<b.2.1;rw[Qc h2];simp[h,h2];rw[Qb h2];show some (bif decide (a.2.1=b.2.1)then bl a.2.2.1 b.2.2.1 else false)=_;by_cases E:a.2.1=b.2.1;simp[h,E];simp[h,h2,E];rw[Qc h];simp[h]
def entOk (n:Nd)(x:En):Bool:=
 if x.1≠n.1 then false else if n.2.1=11 then decide (x.2.2.1=QE)&&decide (0<=x.2.2.2)&&decide (x.2.2.2<=1099511627776)else if n.2.1=16 then decide (x.2.2.2=1)&&okT x.2.2.1 else false
def stF (n:Nd):Option En->List En->Bool
 |_,[]=>true
 |none,e::l=>entOk n e&&stF n (some e) l
 |some p,e::l=>entOk n e&&rl (rec p) (rec e)&&stF n (some e) l
def stP (n:Nd)(l:List En):Bool:=stF n none l
def entry_eq (n:Nd)(x:En):F.c2 n x=some (entOk n x):=by
 rw[F.c2];unfold entOk;by_cases h0:x.1=n.1;have h0': ¬(x.1≠n.1):=λh=>h h0;rw[Qb h0',Qb h0'];by_cases h1:n.2.1=11;rw[Qc h1,Qc h1];congr 1;by_cases a1:x.2.2.1=QE<;>by_cases a2:(0:Int)<=x.2.2.2<;>by_cases a3:x.2.2.2<=1099511627776<;>simp[a1,a2,a3];rw[Qb h1,Qb h1];by_cases h2:n.2.1=16;rw[Qc h2,Qc h2];by_cases E:x.2.2.2=1;rw[Qc E];show(F.dt (rec x)).bind _=_;rw[Qke,Qa,F.bL,Q4 E,Xj];show some (decide ((if okT x.2.2.1=true then(0:Int)else 50)=0))=_;cases okT x.2.2.1<;>rfl;rw[Qb E,F.bL,Wu E];rfl;rw[Qb h2,Qb h2];rw[Qc h0,Qc h0]
abbrev prv (l:List En) (k:Nat):Option En:=if k=0 then none else l[k-1]?
def prv_s (l:List En)(k:Nat){x:En}(h:l[k]?=some x):prv l (k+1)=some x:=by unfold prv;rw[Qb (by omega)];exact h
def Qgx (n:Nd)(l:List En)(J:l.length<=9223372036854775807):F.bS n l=some (if stP n l=true then 0 else 171):=
 A.lp0 l (λf y=>F.i n l f y) (λk r=>some (if stF n (prv l k) r=true then 0 else 171))
  (λf=>by
   rw[F.i,Qb (by omega)];cases prv l l.length<;>rfl)
  (λf k x hx hk ih=>by
   rw[F.i,Qc (by omega),A.ixn hx,Qa];show(F.c2 n x).bind _=_;rw[prv_s l k hx]at ih;have nx: ∀b:Bool,F.ak (F.i n l f) (k:Int) b=some (if(!b&&stF n (some x) (l.drop (k+1)))=true then 0 else 171):=λb=>by
    rw[F.ak];cases b with
    |true=>rw[Qc rfl];rfl
    |false=>rw[Qb (by simp),A.gd1 ⟨by omega,by omega⟩,ih];rfl
   rw[entry_eq,Qa];by_cases E:k=0;subst E;show _=some (if(entOk n x&&stF n (some x) (l.drop (0+1)))=true then 0 else 171);cases I:entOk n x with
   |false=>rw[Y4,Qc rfl,nx];rfl
   |true=>rw[X6,Qb (by simp),Qb (by omega),nx];rfl
   have hp:prv l k=l[k-1]?:=by unfold prv;rw[Qb E]
   obtain⟨p,H⟩: ∃p,l[k-1]?=some p:=⟨_,Qj (by omega)⟩;rw[hp,H];show _=some (if(entOk n x&&rl (rec p) (rec x)&&stF n (some x) (l.drop (k+1)))=true then 0 else 171);cases I:entOk n x with
   |false=>rw[Y4,Qc rfl,nx];rfl
   |true=>
    rw[X6,Qb (by simp),Qc (by omega),A.gd1 ⟨by omega,by omega⟩,show(k:Int)-1=((k-1:Nat):Int) by omega,A.ixn H,Qa];show(F.c3 p x).bind _=_;rw[ahead_eq,Qa,nx,Bool.not_not,Xj])
  (by have:=Qac;omega)
def Qdc (n:Nd)(l:List En)(hl:l.length<=9223372036854775807):F.ck n l=some (if stP n l=true then 0 else 171):=
 A.lp0 l (λf y=>F.f n l f y) (λk r=>some (if stF n (prv l k) r=true then 0 else 171))
  (λf=>by
   rw[F.f,Qb (by omega)];cases prv l l.length<;>rfl)
  (λf k x hx hk ih=>by
   rw[F.f,Qc (by omega),A.ixn hx,Qa,F.ek,Qa];rw[prv_s l k hx]at ih;have nx: ∀b:Bool,F.ar (F.f n l f) (k:Int) b=some (if(b&&stF n (some x) (l.drop (k+1)))=true then 0 else 171):=λb=>by
    rw[F.ar];cases b with
    |false=>rw[Qc (show(!false)=true from rfl)];rfl
    |true=>rw[Qb (show ¬((!true)=true) by simp),A.gd1 ⟨by omega,by omega⟩,ih];rfl
   have j2: ∀a:Bool,(n.2.1=11\/n.2.1=16)->x.1=n.1->F.t (F.f n l f) n (k:Int) x a=some (if(entOk n x&&a&&stF n (some x) (l.drop (k+1)))=true then 0 else 171):=λa N W=>by
    rw[F.t];unfold entOk;have hx1': ¬(x.1≠n.1):=λh=>h W;rw[Qb hx1'];by_cases E:n.2.1=11;rw[Qc E,Qc E,nx];by_cases a1:x.2.2.1=QE<;>by_cases a2:(0:Int)<=x.2.2.2<;>by_cases a3:x.2.2.2<=1099511627776<;>cases a<;>simp[a1,a2,a3];have Y:n.2.1=16:=N.resolve_left E;rw[Qb E,Qb E,Qc Y];cases a with
    |false=>rw[cond_false,Qb (by simp),nx];simp
    |true=>
     rw[cond_true];by_cases h1:x.2.2.2=1;rw[Qc (Q4 h1)];show(F.co (rec x)).bind _=_;rw[Qdm,Qa,nx,Q4 h1];show some (if(decide ((if okT x.2.2.1=true then(0:Int)else 50)=0)&&_)=true then _ else _)=_;cases okT x.2.2.1<;>rfl;rw[Qb (by simpa using h1),nx,Wu h1];rfl
   simp only[A.bo,A.ba];have main: ∀a:Bool,(if decide ((n.2.1=11\/n.2.1=16)/\x.1=n.1)=true then F.t (F.f n l f) n (k:Int) x a else F.t (F.f n l f) n (k:Int) x false)=some (if(entOk n x&&a&&stF n (some x) (l.drop (k+1)))=true then 0 else 171):=λa=>by
    by_cases H:(n.2.1=11\/n.2.1=16)/\x.1=n.1;rw[Qc (Q4 H),j2 a H.1 H.2];rw[Qb (by simpa using H)];have he:entOk n x=false:=by
     unfold entOk;by_cases h0:x.1=n.1;rw[Qb (λh=>h h0),Qb (λh=>H ⟨.inl h,h0⟩),Qb (λh=>H ⟨.inr h,h0⟩)];rw[Qc h0]
    rw[he,F.t];by_cases E:n.2.1=11;rw[Qc E,nx];rfl;rw[Qb E,Qb (by simp),nx];rfl
   by_cases I:k=0;subst I;have:=main true;rw[Yx]at this;refine Eq.trans ?_ this;rfl;have hp:prv l k=l[k-1]?:=by unfold prv;rw[Qb I]
   obtain⟨p,J⟩: ∃p,l[k-1]?=some p:=⟨_,Qj (by omega)⟩;rw[hp,J,Qb (show ¬((k:Int)=0) by omega),A.gd1 ⟨by omega,by omega⟩,show(k:Int)-1=((k-1:Nat):Int) by omega,A.ixn J,Qa];show(if _ then(F.dx p x).bind _ else _)=_;rw[Qik,Qa];exact main _)
  (by have:=Qac;omega)
def Qkl {n:Nd}: ∀{p:Option En} {l:List En},stF n p l=true->∀e,e∈l->entOk n e=true
 |_,[],_,e,h=>by cases h
 |none,x::l,h,e,E=>by
  unfold stF at h;rw[Qd]at h;exact(Qn.1 E).elim (λe=>e▸h.1) (Qkl h.2 e)
 |some p,x::l,h,e,E=>by
  unfold stF at h;rw[Qd,Qd]at h;exact(Qn.1 E).elim (λe=>e▸h.1.1) (Qkl h.2 e)
def stF_pw {n:Nd}: ∀{p:En} {l:List En},stF n (some p) l=true->(p::l).Pairwise λa b=>rl (rec a) (rec b)=true
 |p,[],_=>by simp
 |p,x::l,h=>by
  unfold stF at h;rw[Qd,Qd]at h;have ih:=stF_pw h.2;exact Wa.2 ⟨λy E=>(Qn.1 E).elim (λe=>e▸h.1.2) λE=>rl_tr h.1.2 ((Wa.1 ih).1 y E),ih⟩
def Qfd {n:Nd}{l:List En}:stP n l=true↔(∀e,e∈l->entOk n e=true)/\l.Pairwise λa b=>rl (rec a) (rec b)=true:=by
 constructor;intro h;refine⟨Qkl h,?_⟩;cases l with
 |nil=>exact List.Pairwise.nil
 |cons x l=>
  unfold stP stF at h;rw[Qd]at h;exact stF_pw h.2
 rintro⟨h1,h2⟩;have main: ∀(l:List En) (p:En),(∀e,e∈l->entOk n e=true)->(p::l).Pairwise (λa b=>rl (rec a) (rec b)=true)->stF n (some p) l=true:=by
  intro l;induction l with
  |nil=>intro p _ _;rfl
  |cons x l ih=>
   intro p h1 h2;unfold stF;rw[h1 x (Qh ..),(Wa.1 h2).1 x (Qh ..),ih x (λe E=>h1 e (Qf _ E)) (Wa.1 h2).2];rfl
 cases l with
 |nil=>rfl
 |cons x l=>
  unfold stP stF;rw[h1 x (Qh ..),main l x (λe E=>h1 e (Qf _ E)) h2];rfl
def Same_eq (a b:List En)(H:a.length<=9223372036854775806):F.dl a b=some (decide (a=b)):=by
 rw[F.dl];by_cases h:a.length=b.length;rw[Qb (by omega)];have:=A.lp0 a (λf y=>F.bW a b f y) (λk r=>some (decide (r=b.drop k)))
  (λf=>by
   rw[F.bW,Qb (by omega),h,Y3];rfl)
  (λf k x hx hk ih=>by
   obtain⟨y,E⟩: ∃y,b[k]?=some y:=⟨_,Qj (by omega)⟩;rw[F.bW,Qc (by omega),A.ixn hx,Qa,A.ixn E,Qa,A.dropx E];show(if x≠y then _ else _)=_;by_cases e:x=y;rw[Qb (λh=>h e),A.gd1 ⟨by omega,by omega⟩,ih];subst e;simp;rw[Qc e,Wu (λh=>e (List.cons.inj h).1)])
  (by have:=Qac;omega)
 rw[this];simp;rw[Qc (by omega),Wu (λe=>h (by rw[e]))]
def put_eq (l:List En)(e:En)(one:Bool)(hl:l.length<=100000)(hb:Bd one l)(h1:0<=num e)(h2:num e<=cap one):F.d4 l e one=some (putP e one l):=by
 rw[F.d4];unfold putP;by_cases h0:num e=0;rw[Qc h0,Qc h0];rw[Qb h0,Qb h0];have hc:cap one<=1099511627776:=by cases one<;>decide
 have kk: ∀x:En,(bif bif decide (x.1=e.1)then decide (x.2.1=e.2.1)else false then decide (x.2.2.1=e.2.2.1)else false)=decide (key x=key e):=λx=>by
  simp only[A.ba];congr 1;simp[key,and_assoc]
 have:=A.lp l (λf (s:List En×Bool) y=>F.v l e one f s.1 s.2 y) (λk r s=>if s.2=true then some (s.1++r)else some (s.1++insP e one r)) (λk s=>s.1.length<=k+1/\(s.2=false->s.1.length<=k)/\(s.2=true->∀x,x∈l.drop k->key x≠key e))
  (λf s hp=>by
   show F.v l e one (f+1) s.1 s.2 _=_;rw[F.v,Qb (by omega)];cases J:s.2 with
   |true=>rw[X6,Qb (by simp),F.c7,Qc rfl,Xy]
   |false=>rw[Y4,Qc rfl,A.gd1 (by simp only[Q2,Wx];omega),F.c7,Qb (by simp)];rfl)
  (λf s k x hx hk hp ih=>by
   show F.v l e one (f+1) s.1 s.2 _=_;have N:=hb.b x (Qu hx);have W:Srt (x::l.drop (k+1)):=by rw[<-A.dropx hx];exact hb.srt.sublist (List.drop_sublist _ _)
   have hd:=(Wa.1 W).1;have I: ∀(xs:List En) (d:Bool) (v:Int),xs.length<=k+1->(d=false->xs.length<=k)->(d=true->∀y,y∈l.drop (k+1)->key y≠key e)->F.c4 (F.v l e one f) (k:Int) x v xs d=if d=true then some (xs++(x.1,x.2.1,x.2.2.1,v)::l.drop (k+1))else some (xs++(x.1,x.2.1,x.2.2.1,v)::insP e one (l.drop (k+1))):=λxs d v hxs hxs2 Y=>by
    rw[F.c4,A.gd1 (by simp only[Q2,Wx];omega),A.gd1 ⟨by omega,by omega⟩];have:=ih (xs++[(x.1,x.2.1,x.2.2.1,v)],d) ⟨by simp only[Qz,Q2,Wx];omega,λh=>by have:=hxs2 h;simp only[Qz,Q2,Wx];omega,Y⟩;refine Eq.trans this ?_;cases d<;>simp
   rw[F.v,Qc (by omega),A.ixn hx,Qa,kk];by_cases E:key x=key e;have hs2:s.2=false:=by
    cases h:s.2 with
    |false=>rfl
    |true=>exact absurd E (hp.2.2 h x (by rw[A.dropx hx];exact Qh ..))
   have hnk: ∀y,y∈l.drop (k+1)->key y≠key e:=λy H he=>kl_ne (hd y H) (E.trans he.symm);have j4: ∀v:Int,F.c6 (F.v l e one f) e s.1 (k:Int) x v=some (s.1++(x.1,x.2.1,x.2.2.1,v)::l.drop (k+1)):=λv=>by
    rw[F.c6,F.c5,X6,Qb (show ¬(false=true) by simp),F.bT,Qb (show ¬(false=true) by simp),I _ _ _ hp.1 (λh=>by cases h) (λ_=>hnk),Qc rfl]
   have r64:Z.R64 (x.2.2.2+e.2.2.2):=by
    have a1:1<=x.2.2.2/\x.2.2.2<=cap one:=N;have a2:0<=e.2.2.2:=h1;have a3:e.2.2.2<=cap one:=h2;exact⟨by omega,by omega⟩
   have hs3: ¬(s.2=true):=by rw[hs2];simp
   rw[Qc (Q4 E),A.gd1 r64,Qb hs3];unfold insP;rw[Qc E];unfold upd;cases one with
   |true=>rw[Qc rfl,j4];rfl
   |false=>rw[Qb (show ¬(false=true) by simp),j4];rfl
   have hk1': ¬(decide (key x=key e)=true):=by simpa using E
   rw[Qb hk1',F.c5];cases J:s.2 with
   |true=>
    rw[X6,Qb (show ¬(false=true) by simp),F.bT,Qb (show ¬(false=true) by simp),I _ _ _ hp.1 (λh=>by cases h) (λ_ y H=>hp.2.2 J y (by rw[A.dropx hx];exact Qf _ H)),Qc rfl,Qc rfl]
   |false=>
    rw[Y4,Qc rfl];show(F.du e x).bind _=_;rw[Qji,Qa,Qb (show ¬(false=true) by simp)];show F.bT _ _ _ _ _ _ _ (kl (key e) (key x))=_;unfold insP;rw[Qb E,F.bT];have hl2:=hp.2.1 J;cases hlt:kl (key e) (key x)with
    |true=>
     rw[Qc rfl,Qc rfl,A.gd1 (by simp only[Q2,Wx];omega),I _ _ _ (by simp only[Qz,Q2,Wx];omega) (λh=>by cases h) (λ_ y H he=>kl_ne (kl_tr hlt (hd y H)) he.symm),Qc rfl];simp
    |false=>
     rw[Qb (show ¬(false=true) by simp),Qb (show ¬(false=true) by simp),I _ _ _ hp.1 (λ_=>hl2) (λh=>by cases h),Qb (show ¬(false=true) by simp)])
  (by have:=Qac;omega) ([],false) ⟨by simp,λ_=>by simp,λh=>by cases h⟩
 exact this
end Go.Proofs.YtligcbdjiolamaaGreatDoor
end
section
namespace Go.A
def dem_of {α β:Type}[DecidableEq β]{m:List α}{sn:QM}{e:Option β}{g:Nat->α->Option β}{r:β}(h1:(∀i,i<m.length->i∈sn)->e=some r)(h2: ∀i p,m[i]?=some p->i∉sn->g i p=some r):dem m sn e g=some r:=by
 have hmem: ∀i,i∈(List.range m.length).filter (λi=> !(sn.contains i))↔i<m.length/\i∉sn:=λi=>by
  rw[Vd,Yj];simp
 unfold dem;split;rename_i I;rw[I]at hmem;refine h1 λi E=>?_;cases N:decide (i∈sn)with
 |true=>exact Q7 N
 |false=>exact absurd ((hmem i).2 ⟨E,of_decide_eq_false N⟩) (by simp)
 rename_i i js I;rw[I]at hmem;obtain⟨E,W⟩:=(hmem i).1 (Qh ..);rw[Qj E,Qa,Qc];exact h2 i _ (Qj E) W;rw[Q5];intro j Y;obtain⟨H,J⟩:=(hmem j).1 (Qf _ Y);rw[Qj H,Qa,h2 j _ (Qj H) J,h2 i _ (Qj E) W];exact Q4 rfl
end Go.A
namespace Go.Proofs.YtligcbdjiolamaaGreatDoor
open Go.RowKit Go.Graph Go.Utf Go.Ent
def entOf (p:Ky×Int):Option En:=if p.2≠0 then some (p.1.1,p.1.2.1,p.1.2.2,p.2)else none
def Qas {p:Ky×Int}{e:En}(h:entOf p=some e):key e=p.1/\num e=p.2/\p.2≠0:=by
 unfold entOf at h;split at h;rename_i h0;injection h with h;subst h;exact⟨rfl,rfl,h0⟩
 cases h
abbrev hasK (k:Ky):Prop:=A.h6 k.1/\A.h6 k.2.1/\k.2.2.size<=maxLen
end Go.Proofs.YtligcbdjiolamaaGreatDoor
end
section
namespace Go.Proofs.YtligcbdjiolamaaGreatDoor
open Go.RowKit Go.Graph Go.Utf Go.Ent
def list1_eq (a b:En): ∃c,F.aB a b=some c/\decide (c<0)=kl (key a) (key b):=by
 rw[F.aB,cmpi_eq,Qa,Qgp,Qa,cmps_eq,Qa,or3,Qa];refine⟨_,rfl,?_⟩;unfold kl;have:=cR_lt (rec a) (rec b);unfold cR at this;rcases Qhp a.1 b.1 with⟨h,e⟩|⟨h,e⟩|⟨h,e⟩
 rw[e];simp[h];rw[e,Qb (by omega),this];simp[h];rw[e];have h1: ¬a.1<b.1:=by omega
 have h2: ¬a.1=b.1:=by omega
 simp[h1,h2]
def cl0_eq:A.cl0 (λx y=>F.aB x y)=λx y=>kl (key x) (key y):=by
 funext x y;obtain⟨c,h1,h2⟩:=list1_eq x y;show(match F.aB x y with|some c=>decide (c<0)|none=>false)=_;rw[h1];exact h2
def list_eq (m:List (Ky×Int))(hn:(m.map Prod.fst).Nodup)(hk: ∀p,p∈m->hasK p.1)(hlen:m.length*40<=140737488355328): ∃L,F.aa m A.FU [] []=some L/\Nf L/\∀k,gv L k=Z.mget 0 m k:=by
 have hinj: ∀{i j:Nat} {p q:Ky×Int},m[i]?=some p->m[j]?=some q->p.1=q.1->i=j:=λ{i j p q} I N e=>by
  have h1:(m.map Prod.fst)[i]?=some p.1:=by rw[Q0,I];rfl
  have h2:(m.map Prod.fst)[j]?=some p.1:=by rw[Q0,N,e];rfl
  exact(List.getElem?_inj (by rw[W6];exact(Qe.1 I).1) hn).1 (h1.trans h2.symm)
 have strict: ∀l:List En,(l.map key).Nodup->Srt (A.srtL (λx y=>kl (key x) (key y)) l):=λl H=>by
  have O:A.OrdOn (λx y:En=>kl (key x) (key y)) l:=⟨λx _ y _ h=>kl_asy h,λx hx y hy h1 h2=>by
   have he:=kl_tri h1 h2;obtain⟨i,I⟩:=Xw hx;obtain⟨j,N⟩:=Xw hy;have W:(l.map key)[i]?=some (key x):=by rw[Q0,I];rfl
   have Y:(l.map key)[j]?=some (key x):=by rw[Q0,N];exact Wq some he.symm
   have:=(List.getElem?_inj (by rw[W6];exact(Qe.1 I).1) H).1 (W.trans Y.symm);subst this;rw[I]at N;exact Xg N,λx _ y _ z _ h1 h2=>kl_tr h1 h2⟩
  have h1:=A.srtL_pw O l λa h=>h;have h2:((A.srtL (λx y:En=>kl (key x) (key y)) l).map key).Nodup:=((A.srtL_perm _ l).map key).nodup_iff.2 H;have W:(A.srtL (λx y:En=>kl (key x) (key y)) l).Pairwise λa b=>key a≠key b:=List.pairwise_map.1 h2;exact(h1.and W).imp λ{a b} ⟨Y,h5⟩=>by
   cases h6:kl (key a) (key b)with
   |true=>rfl
   |false=>exact absurd (kl_tri h6 Y) h5
 have ordB: ∀l:List En,(l.map key).Nodup->A.ordB (λx y=>F.aB x y) l=true:=λl H=>by
  unfold A.ordB;rw[Q5];intro x hx;rw[Q5];intro y hy;rw[cl0_eq,Qd,Qd];obtain⟨c,hc,_⟩:=list1_eq x y;refine⟨⟨by show(F.aB x y).isSome=true;rw[hc];rfl,?_⟩,?_⟩;show(bif kl (key x) (key y)then !kl (key y) (key x)else kl (key y) (key x)||decide (x=y))=true;cases h1:kl (key x) (key y)with
  |true=>rw[kl_asy h1];rfl
  |false=>
   cases h2:kl (key y) (key x)with
   |true=>rfl
   |false=>
    have he:=kl_tri h1 h2;obtain⟨i,I⟩:=Xw hx;obtain⟨j,N⟩:=Xw hy;have W:(l.map key)[i]?=some (key x):=by rw[Q0,I];rfl
    have Y:(l.map key)[j]?=some (key x):=by rw[Q0,N];exact Wq some he.symm
    have:=(List.getElem?_inj (by rw[W6];exact(Qe.1 I).1) H).1 (W.trans Y.symm);subst this;rw[I]at N;rw[Q4 (Xg N)];rfl
  rw[Q5];intro z hz;show(!(kl (key x) (key y)&&kl (key y) (key z))||kl (key x) (key z))=true;cases h1:kl (key x) (key y)with
  |false=>rfl
  |true=>
   cases h2:kl (key y) (key z)with
   |false=>rfl
   |true=>rw[kl_tr h1 h2];rfl
 obtain⟨es,hes⟩: ∃es,es=m.filterMap entOf:=⟨_,rfl⟩;have hes_mem: ∀e,e∈es↔∃(i:Nat) (p:Ky×Int),m[i]?=some p/\entOf p=some e:=λe=>by
  rw[hes,List.mem_filterMap];exact⟨λ⟨p,h1,h2⟩=>by obtain⟨i,I⟩:=Xw h1;exact⟨i,p,I,h2⟩,λ⟨i,p,h1,h2⟩=>⟨p,Qu h1,h2⟩⟩
 have hes_nd:(es.map key).Nodup:=by
  rw[hes];have: ∀(l:List (Ky×Int)),(l.map Prod.fst).Nodup->((l.filterMap entOf).map key).Nodup:=by
   intro l;induction l with
   |nil=>intro _;simp
   |cons p l ih=>
    intro H;rw[Wc,Xb]at H;rw[List.filterMap_cons];cases hp:entOf p with
    |none=>exact ih H.2
    |some e=>
     simp only[Wc];refine Xb.2 ⟨λhm=>?_,ih H.2⟩;obtain⟨e2,h1,h2⟩:=W5.1 hm;obtain⟨q,W,Y⟩:=List.mem_filterMap.1 h1;refine H.1 (W5.2 ⟨q,W,?_⟩);rw[<-(Qas Y).1,h2,(Qas hp).1]
  exact this m hn
 obtain⟨L,hL⟩: ∃L,L=A.srtL (λx y:En=>kl (key x) (key y)) es:=⟨_,rfl⟩;have hLs:Srt L:=hL▸strict es hes_nd;have hLm: ∀e,e∈L↔e∈es:=λe=>by rw[hL];exact(A.srtL_perm _ es).mem_iff
 have main: ∀(f:Nat) (sn:QM) (xs:List En),sn.Nodup->(∀i,i∈sn->i<m.length)->m.length<f+sn.length->xs.length<=sn.length->(∀e,e∈xs↔∃(i:Nat) (p:Ky×Int),i∈sn/\m[i]?=some p/\entOf p=some e)->(xs.map key).Nodup->F.aa m f sn xs=some L:=by
  intro f;induction f with
  |zero=>intro sn xs h1 h2 W;have:=A.seen_lt h1 h2;omega
  |succ f ih=>
   intro sn xs h1 h2 W Y h5 h6;have hsl:=A.seen_lt h1 h2;rw[F.aa];refine A.dem_of (λhall=>?_) λi p hp I=>?_;have hm: ∀e,e∈xs↔e∈es:=λe=>by
    rw[h5,hes_mem];exact⟨λ⟨i,p,_,h⟩=>⟨i,p,h⟩,λ⟨i,p,J,E⟩=>⟨i,p,hall i (Qe.1 J).1,J,E⟩⟩
   rw[F.s,A.gd1 (by omega),A.srtF,Qc (ordB xs h6),Qa,cl0_eq];congr 1;refine srt_ext (strict xs h6) hLs λe=>?_;rw[hLm,<-hm];exact(A.srtL_perm _ xs).mem_iff;have hk1:=hk p (Qu hp);have hlt:=(Qe.1 hp).1;have hsn:(i::sn).Nodup:=Xb.2 ⟨I,h1⟩;have hsb: ∀j,j∈i::sn->j<m.length:=λj N=>(Qn.1 N).elim (λe=>e▸hlt) (h2 j);have hsl2:=A.seen_lt hsn hsb;rw[Q2]at hsl2;rw[A.gd1 ⟨Q4 hk1.1,Q4 hk1.2.1,hk1.2.2⟩];by_cases h0:p.2=0;rw[Qb (λh=>h h0)];refine ih _ _ hsn hsb (by rw[Q2];omega) (by rw[Q2];omega) (λe=>?_) h6;rw[h5];refine⟨λ⟨j,q,J,E⟩=>⟨j,q,Qf _ J,E⟩,λ⟨j,q,J,E,hc⟩=>⟨j,q,?_,E,hc⟩⟩;rcases Qn.1 J with rfl|J
   rw[hp]at E;injection E with E;subst E
   exact absurd h0 (Qas hc).2.2;exact J;have hent:entOf p=some (p.1.1,p.1.2.1,p.1.2.2,p.2):=by unfold entOf;rw[Qc h0]
   rw[Qc h0,A.gd1 (by simp only[Q2,Wx];omega)];refine ih _ _ hsn hsb (by rw[Q2];omega) (by simp only[Qz,Q2,Wx];omega) (λe=>?_) ?_;rw[Q8,h5,Qq];constructor;rintro(⟨j,q,J,E⟩|rfl);exact⟨j,q,Qf _ J,E⟩;exact⟨i,p,Qh ..,hp,hent⟩;rintro⟨j,q,J,E,hc⟩;rcases Qn.1 J with rfl|J
   rw[hp]at E;injection E with E;subst E
   rw[hent]at hc;exact .inr (Xg hc).symm;exact .inl ⟨j,q,J,E,hc⟩;rw[Xc,Wc,Ji];refine Xl.2 ⟨h6,by simp,λa J b E=>?_⟩;rw[Qq]at E;subst E;intro e;subst e;obtain⟨e2,h7,h8⟩:=W5.1 J;obtain⟨j,q,h9,h10,h11⟩:=(h5 e2).1 h7;have:j=i:=hinj h10 hp (by rw[<-(Qas h11).1,h8]);subst this;exact I h9
 refine⟨L,?_,⟨hLs,λe he=>?_⟩,λk=>?_⟩;exact main A.FU [] [] Je (by simp) (by have:=Qac;simp;omega) (by simp) (by simp) (by simp);obtain⟨i,p,h1,h2⟩:=(hes_mem e).1 ((hLm e).1 he);rw[(Qas h2).2.1];exact(Qas h2).2.2;by_cases hm:Z.mget 0 m k=0;rw[hm];by_cases hg:gv L k=0;exact hg;obtain⟨e,h1,h2,W⟩:=gv_at hg;obtain⟨i,p,Y,h5⟩:=(hes_mem e).1 ((hLm e).1 h1);have h6:=(Z.mget_get (z:=0) hn Y).1;obtain⟨a1,a2,a3⟩:=Qas h5;rw[<-a1,h2,hm]at h6;exact absurd h6.symm a3;have hh:Z.mhas m k=true:=by
  cases h:Z.mhas m k with
  |true=>rfl
  |false=>exact absurd (Z.mget_none h) hm
 have hmem:=Z.mget_mem (z:=0) hh;have h1:entOf (k,Z.mget 0 m k)=some (k.1,k.2.1,k.2.2,Z.mget 0 m k):=by unfold entOf;rw[Qc hm]
 obtain⟨i,I⟩:=Xw hmem;have h2:=gv_mem hLs ((hLm _).2 ((hes_mem _).2 ⟨i,_,I,h1⟩));exact h2
end Go.Proofs.YtligcbdjiolamaaGreatDoor
end
section
namespace Go.Proofs.YtligcbdjiolamaaGreatDoor
open Go.RowKit Go.Graph
def Ins_eq (k:Int):F.dq k=F.c9 k:=rfl
def Qgc (k:Int):F.c9 k=some (insK k):=by
 unfold F.c9 insK;simp only[Bool.cond_decide];by_cases h1:k<1<;>by_cases h2:16<k<;>simp[h1,h2];by_cases E:k=1;simp[E];by_cases H:k=5<;>by_cases I:k=9<;>simp[E,H,I]
def Qiw (c:UInt8):F.c8 c=some (Qba c):=by
 unfold F.c8 Qba;by_cases h1:(97:Int)<=(c.toNat:Int)<;>by_cases h2:(c.toNat:Int)<=122<;>simp[h1,h2]
def digit_eq (c:UInt8):F.dY c=some (Qgs c):=by
 unfold F.dY Qgs;by_cases h1:(48:Int)<=(c.toNat:Int)<;>by_cases h2:(c.toNat:Int)<=57<;>simp[h1,h2]
def name_eq (s:ByteArray)(J:s.size<=5000):F.d8 s=some (named s):=by
 have loop:F.aD s A.FU 0=some (Qdg s.data.toList):=A.lp0 s.data.toList (λf y=>F.aD s f y) (λ_ l=>some (Qdg l))
  (λf=>by rw[F.aD,Qb (by rw[Qad];omega)];rfl)
  (λf k x hx hk ih=>by
   have hk':k<s.size:=hk;rw[F.aD,Qc (by omega),A.ixn hx,Qa,Qiw,Qa];cases E:Qba x with
   |true=>
    simp only[X6,Q3,Wd,F.cy];rw[A.gd1 (A.r64n (by omega)),ih];simp[Qdg,E]
   |false=>
    simp only[Y4,Xo,A.ixn hx,Qa,digit_eq,F.cy];cases H:Qgs x with
    |true=>simp only[X6,Q3,Wd];rw[A.gd1 (A.r64n (by omega)),ih];simp[Qdg,E,H]
    |false=>simp[Qdg,E,H])
  (by rw[Qad];have:=Qac;omega)
 unfold F.d8 named;by_cases h1:s=QE;simp[h1,F.bY];by_cases h2:(16:Int)<(s.size:Int);have h2': ¬(s.size:Int)<=16:=by omega
 simp[h1,h2,h2',F.bY];have h2':(s.size:Int)<=16:=by omega
 have h0:=Qhc h1;have I:A.ix s.data.toList 0=some (Z.bat s 0):=ixb h0;simp only[h1,h2,h2',decide_false,cond_false,Q3,Wd,I,Qa,Qiw,F.bY,loop,decide_true,ne_eq,not_false_eq_true,Yx,Xj];cases Qba (Z.bat s 0)<;>simp
def named_eq (s:ByteArray)(hs:s.size<=9223372036854775807):F.bp s=some (named s):=by
 have loop: ∀(n p f:Nat),s.size-p<=n->n<f->F.ae s f p=some ((if p=0/\0<s.size then Qba (Z.bat s 0)else true)&&Qdg (s.data.toList.drop p)&&(decide (s≠QE)&&decide ((s.size:Int)<=16))):=by
  intro n;induction n with
  |zero=>
   intro p f hp W;obtain⟨f,rfl⟩: ∃f',f=f'+1:=⟨f-1,by omega⟩;rw[F.ae,Qb (by omega),Qgu (by omega),Qb (by omega)];by_cases h1:s=QE<;>simp[h1,Qdg]
  |succ n ih=>
   intro p f hp W;obtain⟨f,rfl⟩: ∃f',f=f'+1:=⟨f-1,by omega⟩;by_cases E:p<s.size;rw[F.ae,Qc E,Qij E];rcases Yh (Z.bat s p).toNat 128 with N|N
   rw[dec_lt N];have J:=ih (p+1) f (by omega) (by omega);rw[Qb (λh=>by omega)]at J;simp only[J];have Y:(bif decide ((97:Int)<=((Z.bat s p).toNat:Int))then decide (((Z.bat s p).toNat:Int)<=122)else false)=decide ((97:Int)<=((Z.bat s p).toNat:Int)/\((Z.bat s p).toNat:Int)<=122):=by by_cases h:(97:Int)<=((Z.bat s p).toNat:Int)<;>simp[h]
   have e2:(bif decide ((65:Int)<=((Z.bat s p).toNat:Int))then decide (((Z.bat s p).toNat:Int)<=90)else false)=decide ((65:Int)<=((Z.bat s p).toNat:Int)/\((Z.bat s p).toNat:Int)<=90):=by by_cases h:(65:Int)<=((Z.bat s p).toNat:Int)<;>simp[h]
   rw[Y,e2];by_cases H:Qba (Z.bat s p)=true;have hL':=H;simp only[Qba,Qy]at hL';have e3:(if p=0/\0<s.size then Qba (Z.bat s 0)else true)=true:=by split;rename_i h;rw[<-h.1];exact H;rfl
   rw[e3];simp only[Qdg,X7,H,Bool.true_or,Xj];by_cases h1:(97:Int)<=((Z.bat s p).toNat:Int)/\((Z.bat s p).toNat:Int)<=122;simp[h1];have h2:=hL'.resolve_left h1;simp[h1,h2];have hL':=H;simp only[Qba,Qy,not_or]at hL';rw[J9]at H;simp only[hL'.1,hL'.2,decide_false,Q3,Wd,Y4,Xo];simp only[Qdg,X7,H,Yi];by_cases h0:p=0;subst h0;simp[E,H];have h0': ¬(p:Int)=0:=by omega
   simp only[h0,h0',decide_false,cond_false,false_and,Wd,Xj];by_cases I:Qgs (Z.bat s p)=true;have hd':=I;simp only[Qgs,Qy]at hd';have a1: ¬((Z.bat s p).toNat:Int)<48:=by omega
   have a2: ¬(57:Int)<((Z.bat s p).toNat:Int):=by omega
   simp[a1,a2,I];have hd':=I;simp only[Qgs,Qy]at hd';rw[J9]at I;by_cases a1:((Z.bat s p).toNat:Int)<48;simp[a1,I];have a2:(57:Int)<((Z.bat s p).toNat:Int):=by omega
   simp[a1,a2,I];have I:=dec_ge N;have H:Qba (Z.bat s p)=false:=by unfold Qba;rw[decide_eq_false_iff_not];omega
   have hD:Qgs (Z.bat s p)=false:=by unfold Qgs;rw[decide_eq_false_iff_not];omega
   have b1: ¬((Utf8.decode s p).1:Int)<=122:=by omega
   have b2: ¬((Utf8.decode s p).1:Int)<=90:=by omega
   have b3:(57:Int)<((Utf8.decode s p).1:Int):=by omega
   have b4: ¬((Utf8.decode s p).1:Int)<48:=by omega
   simp[b1,b2,b3,b4,Qdg,H,hD];rw[F.ae,Qb E,Qgu E,Qb (by omega)];by_cases h1:s=QE<;>simp[h1,Qdg]
 unfold F.bp;rw[loop s.size 0 A.FU (by omega) (by have:=Qac;omega)];unfold named;by_cases h1:s=QE;simp[h1];have h0:=Qhc h1;simp only[h0,and_self,Xo,X5,ne_eq,h1,not_false_eq_true,decide_true,Xj];congr 1;cases Qba (Z.bat s 0)<;>cases Qdg s.data.toList<;>simp
end Go.Proofs.YtligcbdjiolamaaGreatDoor
end
section
end
section
end
section
namespace Go.Proofs.YtligcbdjiolamaaGreatDoor
open Go.RowKit Go.Graph
def mapOf (g:List Nd):List (Int×Nd):=g.map λn=>(n.1,n)
def Inc (g:List Nd):Prop:=g.Pairwise λa b=>a.1<b.1
def Qgl (z:Nd)(id:Int): ∀(k:Nat) (l:List Nd),(idxF id k l= -1/\(∀n∈l,n.1≠id)/\Z.mget z (mapOf l) id=z/\Z.mhas (mapOf l) id=false)\/(∃j n,idxF id k l=((k+j:Nat):Int)/\l[j]?=some n/\n.1=id/\Z.mget z (mapOf l) id=n/\Z.mhas (mapOf l) id=true)
 |k,[]=>.inl ⟨rfl,by simp,rfl,rfl⟩
 |k,x::r=>by
  unfold idxF mapOf;simp only[Wc,Z.mget,Z.mhas];by_cases h:x.1=id;rw[Qc h,Qc h.symm,Qc h.symm];exact .inr ⟨0,x,rfl,rfl,h,rfl,rfl⟩;rw[Qb h,Qb (λe=>h e.symm),Qb (λe=>h e.symm)];rcases Qgl z id (k+1) r with⟨h1,h2,E,H⟩|⟨j,n,h1,h2,E,H,J⟩
  refine .inl ⟨h1,λn I=>?_,E,H⟩;rcases Qn.1 I with rfl|I
  exact h;exact h2 n I;exact .inr ⟨j+1,n,by rw[h1];congr 1;omega,h2,E,H,J⟩
def Qbg (z:Nd)(g:List Nd)(id:Int):(idx g id= -1/\(∀n∈g,n.1≠id)/\Z.mget z (mapOf g) id=z/\Z.mhas (mapOf g) id=false)\/(∃(j:Nat) (n:Nd),idx g id=(j:Int)/\g[j]?=some n/\n.1=id/\Z.mget z (mapOf g) id=n/\Z.mhas (mapOf g) id=true):=by
 have:=Qgl z id 0 g;simp only[Wl]at this;exact this
def Inc.lt {g:List Nd}(h:Inc g){i j:Nat}{a b:Nd}(H:g[i]?=some a)(I:g[j]?=some b)(E:i<j):a.1<b.1:=by
 obtain⟨h1,rfl⟩:=Qe.1 H;obtain⟨h2,rfl⟩:=Qe.1 I;exact Jm.1 h i j h1 h2 E
def Inc.inj {g:List Nd}(h:Inc g){i j:Nat}{a b:Nd}(E:g[i]?=some a)(H:g[j]?=some b)(e:a.1=b.1):i=j:=by
 rcases Nat.lt_trichotomy i j with h1|h1|h1
 have:=h.lt E H h1;omega;exact h1;have:=h.lt H E h1;omega
def Inc.idx {g:List Nd}(h:Inc g){j:Nat}{n:Nd}(E:g[j]?=some n):Graph.idx g n.1=(j:Int):=by
 rcases Qbg z0 g n.1 with⟨_,h2,_⟩|⟨i,m,h1,h2,H,_⟩
 exact absurd rfl (h2 n (Qu E));rw[h1,h.inj h2 E H]
def Inc.mget {g:List Nd}(h:Inc g){j:Nat}{n z:Nd}(E:g[j]?=some n):Z.mget z (mapOf g) n.1=n:=by
 rcases Qbg z g n.1 with⟨_,h2,_⟩|⟨i,m,h1,h2,H,I,_⟩
 exact absurd rfl (h2 n (Qu E));have:=h.inj h2 E H;subst this;rw[h2]at E;injection E with E;rw[I,E]
def Qed (g:List Nd)(id:Int)(E:g.length<=100):F.bU g id=some (idx g id):=
 A.lp0 g (λf y=>F.bx g id f y) (λk l=>some (idxF id k l))
  (λf=>by rw[F.bx,Qb (by omega)];rfl)
  (λf k x hx hk ih=>by
   rw[F.bx,Qc (by omega),A.ixn hx,Qa,idxF];by_cases h:x.1=id;rw[Qc h,Qc h];rw[Qb h,Qb h,A.gd1 (A.r64n (by omega)),ih])
  (by have:=Qac;omega)
def ownQ (n:Nd):Bool:=if n.1<1\/255<n.1\/insK n.2.1<0\/(n.2.2.1.length:Int)≠insK n.2.1 then false else if ownC n then false else if n.2.1=1\/n.2.1=15 then named n.2.2.2.2.1 else decide (n.2.2.2.2.1=QE)
def Qgb (k:Int):F.ay k=some (decide (k=1\/k=15)):=by
 unfold F.ay;rw[A.bo]
def gIns_eq (k:Int):F.dq k=some (insK k):=(Ins_eq k).trans (Qgc k)
def own_eq (n:Nd)(N:n.2.2.2.2.1.size<=9223372036854775807):F.dr n=some (ownQ n):=by
 have W: ∀y,F.b6 n y=some (if y=true then false else if ownC n then false else if n.2.1=1\/n.2.1=15 then named n.2.2.2.2.1 else decide (n.2.2.2.2.1=QE)):=by
  intro y;unfold F.b6 F.b5 ownC;cases y with
  |true=>simp
  |false=>
   simp only[Q3,Wd,A.bo,Qy,Qgb,Qa,named_eq _ N,A.bn];by_cases H:n.2.1=14;simp only[H,Xo,true_and,not_true_eq_false,ne_eq,false_and,or_false,Wd];by_cases E:n.2.2.2.2.2.1<1\/8<n.2.2.2.2.2.1\/n.2.2.2.2.2.2<1\/4<n.2.2.2.2.2.2;have hc':((n.2.2.2.2.2.1<1\/8<n.2.2.2.2.2.1)\/n.2.2.2.2.2.2<1)\/4<n.2.2.2.2.2.2:=by omega
   rw[Qc hc',Qc E];have hc': ¬(((n.2.2.2.2.2.1<1\/8<n.2.2.2.2.2.1)\/n.2.2.2.2.2.2<1)\/4<n.2.2.2.2.2.2):=by omega
   rw[Qb hc',Qb E];simp;simp only[H,Wd,false_and,not_false_eq_true,ne_eq,true_and,false_or,Xo];by_cases E: ¬n.2.2.2.2.2.1=0\/¬n.2.2.2.2.2.2=0;rw[Qc E,Qc E];rw[Qb E,Qb E];by_cases I:n.2.1=1\/n.2.1=15;rw[Qc I,Qc I];rw[Qb I,Qb I]
 unfold F.dr ownQ;simp only[gIns_eq,Qa,W,A.bo,Qy,F.b5];by_cases h1:n.1<1\/255<n.1;rw[Qc h1,Qc (by omega)];rw[Qb h1];by_cases h2:insK n.2.1<0;rw[Qc h2,Qc trivial,Qc (by omega)];rw[Qb h2];by_cases J:(n.2.2.1.length:Int)≠insK n.2.1;rw[Qc J,Qc (by omega)];have Y: ¬(n.1<1\/255<n.1\/insK n.2.1<0\/(n.2.2.1.length:Int)≠insK n.2.1):=by omega
 rw[Qb J,Qb Y]
def twiceF (l:List Nd)(n:Nd):Bool:=l.any λx=>decide (x.2.1=n.2.1)&&decide (x.2.2.2.2.1=n.2.2.2.2.1)
def twice_eq (l:List Nd)(n:Nd)(H:l.length<=100):F.e l n=some (twiceF l n):=by
 have loop:F.b l n A.FU 0=some (if twiceF l n=true then(0:Int)else-1)\/∃i:Nat,F.b l n A.FU 0=some (i:Int)/\twiceF l n=true:=by
  have key: ∀(m k f:Nat),k+m=l.length->m<f->(twiceF (l.drop k) n=true/\∃i:Nat,F.b l n f (k:Int)=some (i:Int))\/(twiceF (l.drop k) n=false/\F.b l n f (k:Int)=some (-1)):=by
   intro m;induction m with
   |zero=>
    intro k f hk E;obtain⟨f,rfl⟩: ∃f',f=f'+1:=⟨f-1,by omega⟩;rw[F.b,Qb (by omega),Xi (by omega)];exact .inr ⟨rfl,rfl⟩
   |succ m ih=>
    intro k f hk E;obtain⟨f,rfl⟩: ∃f',f=f'+1:=⟨f-1,by omega⟩;have hx:l[k]?=some l[k]:=Qj (by omega);generalize l[k]=x at hx;rw[F.b,Qc (by omega),A.ixn hx,Qa,F.dg,Qa,A.ba,A.dropx hx];by_cases h:x.2.1=n.2.1/\x.2.2.2.2.1=n.2.2.2.2.1;left;exact⟨by simp[twiceF,h.1,h.2],k,by rw[Qc (by simpa using h)]⟩;rw[Qb (by simpa using h),A.gd1 (A.r64n (by omega))];have e:twiceF (x::l.drop (k+1)) n=twiceF (l.drop (k+1)) n:=by
     simp only[twiceF,Jo];rw[<-Bool.decide_and,Wu h,Yi]
    rw[e];exact ih (k+1) f (by omega) (by omega)
  rcases key l.length 0 A.FU (by omega) (by have:=Qac;omega)with⟨h1,i,h2⟩|⟨h1,h2⟩
  rw[X5]at h1;exact .inr ⟨i,h2,h1⟩;rw[X5]at h1;left;rw[h1];exact h2
 unfold F.e F.g;rcases loop with h|⟨i,h,h2⟩
 rw[show F.b l n A.FU 0=_ from h,Qa];cases twiceF l n<;>simp;rw[show F.b l n A.FU 0=_ from h,Qa,h2];simp
def mins_new {κ α:Type}[DecidableEq κ]: ∀{m:List (κ×α)} {k:κ} {x:α},Z.mhas m k=false->Z.mins m k x=m++[(k,x)]
 | [],_,_,_=>rfl
 |(a,y)::r,k,x,h=>by
  simp only[Z.mhas]at h;by_cases hk:k=a;rw[Qc hk]at h;cases h;rw[Qb hk]at h;unfold Z.mins;rw[Qb hk,mins_new h];rfl
def mhas_mapOf {l:List Nd}{k:Int}(h: ∀n∈l,n.1≠k):Z.mhas (mapOf l) k=false:=by
 rcases Qbg z0 l k with⟨_,_,_,h2⟩|⟨j,n,_,h1,h2,_⟩
 exact h2;exact absurd h2 (h n (Qu h1))
def take_s {α:Type}{l:List α}{k:Nat}{x:α}(h:l[k]?=some x):l.take (k+1)=l.take k++[x]:=by rw[X2,h];rfl
def okL (g:List Nd):Nat->Int->List Nd->Bool
 |_,_,[]=>true
 |k,last,n::r=>if n.1<=last\/ownQ n=false\/((n.2.1=1\/n.2.1=15)/\twiceF (g.take k) n=true)then false else okL g (k+1) n.1 r
def whole_l6 (g:List Nd)(hg:g.length<=100)(Y: ∀x,x∈g->x.2.2.2.2.1.size<=9223372036854775807):F.l g A.FU [] 0 0=if okL g 0 0 g=true then F.z g (mapOf g) A.FU 0 else some (none,80):=
 A.lp g (λf (s:List (Int×Nd)×Int) y=>F.l g f s.1 s.2 y) (λk l s=>if okL g k s.2 l=true then F.z g (mapOf g) A.FU 0 else some (none,80)) (λk s=>s.1=mapOf (g.take k)/\∀n∈g.take k,n.1<=s.2)
  (λf s hp=>by
   rw[F.l,Qb (by omega),okL,Qc rfl,hp.1,Xd (Qr _)])
  (λf s k x hx hk hp ih=>by
   obtain⟨hm,I⟩:=hp;have hown:=own_eq x (Y x (Qu hx));have W: ∀y,F.bs (F.l g f) s.1 s.2 (k:Int) x y=if x.1<=s.2\/ownQ x=false\/y=true then some (none,80)else F.l g f (Z.mins s.1 x.1 x) x.1 ((k:Int)+1):=by
    intro y;rw[F.bs];simp only[F.b9,Xo];by_cases h1:x.1<=s.2;rw[Qc h1,Qc (.inl h1)];rw[Qb h1,show F.dr x=_ from hown,Qa,A.gd1 (A.r64n (by omega))];cases ownQ x<;>cases y<;>simp[h1]
   have hnew: ¬x.1<=s.2->F.l g f (Z.mins s.1 x.1 x) x.1 ((k:Int)+1)=if okL g (k+1) x.1 (g.drop (k+1))=true then F.z g (mapOf g) A.FU 0 else some (none,80):=λh1=>by
    rw[hm,mins_new (mhas_mapOf λn J e=>by have:=I n J;omega)];refine ih (mapOf (g.take k)++[(x.1,x)],x.1) ⟨?_,λn J=>?_⟩;rw[take_s hx];simp[mapOf];rw[take_s hx]at J;rcases Q8.1 J with h2|h2
    have:=I n h2;simp only[];omega;rw[Qq]at h2;subst h2;exact Int.le_refl _
   rw[F.l,Qc (by omega),A.ixn hx,Qa,Qgb,Qa,okL];by_cases N:x.2.1=1\/x.2.1=15;rw[Qc (by simpa using N),A.gd1 ⟨by omega,by omega⟩,show((k:Int)).toNat=k from We k,
    show F.e (List.take k g) x=_ from twice_eq (g.take k) x (by rw[Qx];omega),Qa,W]
   by_cases E:x.1<=s.2\/ownQ x=false\/twiceF (g.take k) x=true;have H:x.1<=s.2\/ownQ x=false\/((x.2.1=1\/x.2.1=15)/\twiceF (g.take k) x=true):=by rcases E with h|h|h;exact .inl h;exact .inr (.inl h);exact .inr (.inr ⟨N,h⟩)
   rw[Qc E,Qc H,Qb Ys];have H: ¬(x.1<=s.2\/ownQ x=false\/((x.2.1=1\/x.2.1=15)/\twiceF (g.take k) x=true)):=λh=>E (by rcases h with h|h|h;exact .inl h;exact .inr (.inl h);exact .inr (.inr h.2));rw[Qb E,Qb H];exact hnew λh=>E (.inl h);rw[Qb (by simpa using N),W];by_cases E:x.1<=s.2\/ownQ x=false;have H:x.1<=s.2\/ownQ x=false\/((x.2.1=1\/x.2.1=15)/\twiceF (g.take k) x=true):=by rcases E with h|h;exact .inl h;exact .inr (.inl h)
   rw[Qc (by rcases E with h|h;exact .inl h;exact .inr (.inl h)),Qc H,Qb Ys];have H: ¬(x.1<=s.2\/ownQ x=false\/((x.2.1=1\/x.2.1=15)/\twiceF (g.take k) x=true)):=λh=>E (by rcases h with h|h|h;exact .inl h;exact .inr h;exact absurd h.1 N);rw[Qb (λh=>E (by rcases h with h|h|h;exact .inl h;exact .inr h;cases h)),Qb H];exact hnew λh=>E (.inl h))
  (by have:=Qac;omega) ([],0) ⟨rfl,by simp⟩
def whole_l5 (g:List Nd)(m:List (Int×Nd))(H:g.length<=100)(E: ∀x,x∈g->x.2.2.2.1.2.2.size<=9223372036854775807):F.z g m A.FU 0=if g.all (λn=>decide (chk n.2.1 n.2.2.2.1=0))=true then F.n g m A.FU 0 else some (none,60):=
 A.lp0 g (λf y=>F.z g m f y) (λ_ l=>if l.all (λn=>decide (chk n.2.1 n.2.2.2.1=0))=true then F.n g m A.FU 0 else some (none,60))
  (λf=>by rw[F.z,Qb (by omega)];rfl)
  (λf k x hx hk ih=>by
   have h6:chk x.2.1 x.2.2.2.1≠0->chk x.2.1 x.2.2.2.1=60:=by
    intro h;unfold chk anyF at h ⊢;repeat' split
    all_goals first|rfl|(exfalso;simp_all;done)
   rw[F.z,Qc (by omega),A.ixn hx,Qa,show F.dP x.2.1 x.2.2.2.1=_ from Qla x.2.1 x.2.2.2.1 (E x (Qu hx)),Qa,X7];by_cases h:chk x.2.1 x.2.2.2.1=0;rw[Qb (λh2=>h2 h),A.gd1 (A.r64n (by omega)),ih,Q4 h,Xj];rw[Qc h,Wu h,Jf,Qb (by simp),h6 h])
  (by have:=Qac;omega)
def inOk (g:List Nd)(k:Int):Bool:=if idx g k<0 then false else decide ((at_ g (idx g k)).2.1≠15)
def sortP (g:List Nd)(m:List (Int×Nd)):Option ((Option ((List (Int×Nd))×(QP)×(List (Int×Int))))×Int):=
 (F.cN (m,[],[]) g).bind λr73=>(if(!r73.1)=true then(some (none,81))else((F.b3 r73.2).bind λr79=>(if(!r79.1)=true then(some (none,80))else((F.ct r79.2 g).bind λr85=>(if r85=true then(some (none,81))else(some (some r79.2,0)))))))
def whole_l4 (g:List Nd)(hg:g.length<=100)(W: ∀x,x∈g->x.2.2.1.length<=5000):F.n g (mapOf g) A.FU 0=if g.all (λn=>n.2.2.1.all (inOk g))=true then sortP g (mapOf g)else some (none,80):=
 A.lp0 g (λf y=>F.n g (mapOf g) f y) (λ_ l=>if l.all (λn=>n.2.2.1.all (inOk g))=true then sortP g (mapOf g)else some (none,80))
  (λf=>by rw[F.n,Qb (by omega)];rfl)
  (λf k x hx hk ih=>by
   rw[F.n,Qc (by omega),A.ixn hx,Qa];have hlen:=W x (Qu hx);have loop:=A.lp0 x.2.2.1 (λE y=>F.aU (F.n g (mapOf g) f) (mapOf g) (k:Int) x E y) (λ_ l=>if l.all (inOk g)=true then F.n g (mapOf g) f ((k:Int)+1)else some (none,80))
    (λE=>by rw[F.aU,Qb (by omega),A.gd1 (A.r64n (by omega))];rfl)
    (λE j y Y hj2 H=>by
     rw[F.aU,Qc (by omega),A.ixn Y,Qa,A.lt,X7];rcases Qbg ((0,0,[],(0,0,(QE)),(QE),0,0):Nd) g y with⟨h1,_,N,I⟩|⟨i,n,h1,h2,N,I,h5⟩
     rw[N,I];have:inOk g y=false:=by unfold inOk;rw[Qc (by omega)]
     rw[this];simp;rw[I,h5];have e:inOk g y=decide (n.2.1≠15):=by unfold inOk;rw[Qb (by omega),Qie h1 h2]
     rw[e,A.gd1 (A.r64n (by omega)),H];by_cases J:n.2.1=15<;>simp[J])
    (by have:=Qac;omega)
   rw[loop,ih,X7];cases x.2.2.1.all (inOk g)with
   |true=>rw[Qc rfl,Xj]
   |false=>rw[Qb Ys,Jf,Qb Ys])
  (by have:=Qac;omega)
def whole_P (g:List Nd)(E:Few g):F.dc g=if(32:Int)<(g.length:Int)then some (none,80)else if okL g 0 0 g=true then(if g.all (λn=>decide (chk n.2.1 n.2.2.2.1=0))=true then(if g.all (λn=>n.2.2.1.all (inOk g))=true then sortP g (mapOf g)else some (none,80))else some (none,60))else some (none,80):=by
 have H:=E.1;unfold F.dc;rw[whole_l6 g (by omega) (λx hx=>Wb (E.2 x hx).2.1 (by decide)),whole_l5 g _ (by omega) (λx hx=>Wb (E.2 x hx).2.2 (by decide)),whole_l4 g (by omega) (λx hx=>(E.2 x hx).1)]
def Named_eq (g:List Nd)(kd:Int)(s:ByteArray)(E:g.length<=100):F.ec g kd s=some (Qcz kd s g):=
 A.lp0 g (λf y=>F.aG g kd s f y) (λ_ l=>some (Qcz kd s l))
  (λf=>by rw[F.aG,Qb (by omega)];rfl)
  (λf k x hx hk ih=>by
   rw[F.aG,Qc (by omega),A.ixn hx,Qa,Qcz];simp only[F.cR,A.ixn hx,Qa,A.gd1 (A.r64n (n:=k) (by omega)),ih,Qy,kind,name];by_cases h1:x.2.1=kd;by_cases h2:x.2.2.2.2.1=s<;>simp[h1,h2];simp[h1])
  (by have:=Qac;omega)
def R_own_eq (g:List Nd)(i:Nat)(n:Nd)(W:g[i]?=some n)(Y:g.length<=100)(hs:n.2.2.2.2.1.size<=5000):F.ep g (i:Int)=some (own g (i:Int) n):=by
 have hi:=(Qe.1 W).1;have J:F.da g n=some (ownT g n):=by
  unfold F.da ownT;simp only[A.ba,Qy,Named_eq g _ _ Y,name_eq _ hs,Qa];by_cases h:n.2.1≠1/\n.2.1≠15;rw[Qc h,Qc h];rw[Qb h,Qb h];cases named n.2.2.2.2.1<;>rfl
 have N: ∀y,F.az g n y=some (if y=true then false else if ownC n then false else ownT g n):=by
  intro y;unfold F.az ownC;cases y with
  |true=>simp
  |false=>
   simp only[Q3,Wd,A.bo,Qy,J];by_cases I:n.2.1=14;simp only[I,Xo,true_and,not_true_eq_false,ne_eq,false_and,or_false];by_cases E:n.2.2.2.2.2.1<1\/8<n.2.2.2.2.2.1\/n.2.2.2.2.2.2<1\/4<n.2.2.2.2.2.2;rw[Qc (by omega),Qc E];rw[Qb (by omega),Qb E];simp only[I,Wd,false_and,not_false_eq_true,ne_eq,true_and,false_or];by_cases E: ¬n.2.2.2.2.2.1=0\/¬n.2.2.2.2.2.2=0;rw[Qc E,Qc E];rw[Qb E,Qb E]
 have tail:(if insK n.2.1<0 then F.az g n true else F.az g n (decide ((n.2.2.1.length:Int)≠insK n.2.1)))=some (if insK n.2.1<0\/(n.2.2.1.length:Int)≠insK n.2.1 then false else if ownC n then false else ownT g n):=by
  simp only[N,Qy];by_cases h1:insK n.2.1<0;rw[Qc h1,Qc trivial,Qc (.inl h1)];by_cases h2:(n.2.2.1.length:Int)≠insK n.2.1;rw[Qb h1,Qc h2,Qc (.inr h2)];have H: ¬(insK n.2.1<0\/(n.2.2.1.length:Int)≠insK n.2.1):=λh=>h.elim h1 h2;rw[Qb h1,Qb h2,Qb H]
 unfold F.ep own;rw[A.ixn W,Qa];simp only[Qgc,Qa,A.bo,Qy];by_cases h1:n.1<1\/255<n.1;rw[Qc h1,N,Qc rfl,Qc (by omega)];rw[Qb h1];by_cases h0:(0:Int)<(i:Int);rw[Qc h0,A.gd1 ⟨by omega,by omega⟩];have hp:g[i-1]?=some g[i-1]:=Qj (by omega);generalize g[i-1]=q at hp;have e:(i:Int)-1=((i-1:Nat):Int):=by omega
 rw[e,A.ixn hp,Qa,Qie rfl hp];by_cases h2:n.1<=q.1;rw[Qc h2,N,Qc rfl,Qc (by omega)];rw[Qb h2,tail];by_cases H:insK n.2.1<0\/(n.2.2.1.length:Int)≠insK n.2.1;rw[Qc H,Qc (by omega)];have E: ¬(n.1<1\/255<n.1\/(0:Int)<(i:Int)/\n.1<=q.1\/insK n.2.1<0\/(n.2.2.1.length:Int)≠insK n.2.1):=by omega
 rw[Qb H,Qb E];rw[Qb h0,tail];by_cases H:insK n.2.1<0\/(n.2.2.1.length:Int)≠insK n.2.1;rw[Qc H,Qc (by omega)];have E: ¬(n.1<1\/255<n.1\/(0:Int)<(i:Int)/\n.1<=(at_ g ((i:Int)-1)).1\/insK n.2.1<0\/(n.2.2.1.length:Int)≠insK n.2.1):=by omega
 rw[Qb H,Qb E]
def okR (g:List Nd):Nat->List Nd->Bool
 |_,[]=>true
 |k,n::r=>own g (k:Int) n&&okR g (k+1) r
def parts_l5 (g:List Nd)(E:g.length<=100)(H: ∀x,x∈g->x.2.2.2.2.1.size<=5000):F.a3 g A.FU 0=if okR g 0 g=true then F.aw g A.FU 0 else some 80:=
 A.lp0 g (λf y=>F.a3 g f y) (λk l=>if okR g k l=true then F.aw g A.FU 0 else some 80)
  (λf=>by rw[F.a3,Qb (by omega)];rfl)
  (λf k x hx hk ih=>by
   rw[F.a3,Qc (by omega),R_own_eq g k x hx E (H x (Qu hx)),Qa,A.gd1 (A.r64n (by omega)),ih,okR];cases own g (k:Int) x<;>simp)
  (by have:=Qac;omega)
def parts_l4 (g:List Nd)(H:g.length<=100)(E: ∀x,x∈g->x.2.2.2.1.2.2.size<=5000):F.aw g A.FU 0=if g.all (λn=>decide (chk n.2.1 n.2.2.2.1=0))=true then F.w g A.FU 0 else some 60:=
 A.lp0 g (λf y=>F.aw g f y) (λ_ l=>if l.all (λn=>decide (chk n.2.1 n.2.2.2.1=0))=true then F.w g A.FU 0 else some 60)
  (λf=>by rw[F.aw,Qb (by omega)];rfl)
  (λf k x hx hk ih=>by
   rw[F.aw,Qc (by omega),A.ixn hx,Qa,Qa,show F.bq x.2.1 x.2.2.2.1=_ from Qcc x.2.1 x.2.2.2.1 (E x (Qu hx)),Qa,X7];by_cases h:chk x.2.1 x.2.2.2.1=0;rw[Qb (λh2=>h2 h),A.gd1 (A.r64n (by omega)),ih,Q4 h,Xj];rw[Qc h,Wu h,Jf,Qb (by simp)])
  (by have:=Qac;omega)
def idx_get {g:List Nd}{id:Int}(h:0<=idx g id): ∃n,g[(idx g id).toNat]?=some n/\at_ g (idx g id)=n/\n.1=id:=by
 rcases Qbg z0 g id with⟨h1,_⟩|⟨i,n,h1,h2,E,_⟩
 omega;exact⟨n,by rw[h1];exact h2,Qie h1 h2,E⟩
def parts_l3 (g:List Nd)(J:g.length<=100)(N: ∀x,x∈g->x.2.2.1.length<=5000):F.w g A.FU 0=if g.all (λn=>n.2.2.1.all (inOk g))=true then some 0 else some 80:=
 A.lp0 g (λf y=>F.w g f y) (λ_ l=>if l.all (λn=>n.2.2.1.all (inOk g))=true then some 0 else some 80)
  (λf=>by rw[F.w,Qb (by omega)];rfl)
  (λf k x hx hk ih=>by
   rw[F.w,Qc (by omega)];have hlen:=N x (Qu hx);have loop:=A.lp0 x.2.2.1 (λE y=>F.aH (F.w g f) g (k:Int) E y) (λ_ l=>if l.all (inOk g)=true then F.w g f ((k:Int)+1)else some 80)
    (λE=>by rw[F.aH,A.ixn hx,Qa,Qb (by omega),A.gd1 (A.r64n (by omega))];rfl)
    (λE j y W Y H=>by
     rw[F.aH,A.ixn hx,Qa,Qc (by omega),Qa,A.ixn W,Qa,Qed g y J,Qa,X7];simp only[F.cS,Xo,Qy,A.gd1 (A.r64n (n:=j) (by omega)),H];by_cases h0:idx g y<0;have:inOk g y=false:=by unfold inOk;rw[Qc h0]
     rw[Qc h0,this];simp;obtain⟨n,h1,h2,_⟩:=idx_get (g:=g) (id:=y) (by omega);have e:inOk g y=decide (n.2.1≠15):=by unfold inOk;rw[Qb h0,h2]
     rw[Qb h0,A.ixg (by omega) h1,Qa,e];by_cases I:n.2.1=15<;>simp[I])
    (by have:=Qac;omega)
   rw[loop,ih,X7];cases x.2.2.1.all (inOk g)with
   |true=>rw[Qc rfl,Xj]
   |false=>rw[Qb Ys,Jf,Qb Ys])
  (by have:=Qac;omega)
def lastOf (g:List Nd)(k:Nat):Int:=if k=0 then 0 else(at_ g ((k:Int)-1)).1
def BadP (g:List Nd)(k:Nat)(n:Nd):Prop:=n.1<=lastOf g k\/ownQ n=false\/((n.2.1=1\/n.2.1=15)/\twiceF (g.take k) n=true)
def Qhg {g:List Nd}{k:Nat}{n:Nd}(h:g[k]?=some n):lastOf g (k+1)=n.1:=by
 unfold lastOf;rw[Qb (by omega),Qie (k:=k) (by omega) h]
def okL_iff (g:List Nd): ∀(m k:Nat),k+m=g.length->(okL g k (lastOf g k) (g.drop k)=true↔∀i n,k<=i->g[i]?=some n->¬BadP g i n)
 |0,k,h=>by
  rw[Xi (by omega),okL];exact⟨λ_ i n I E=>by have:=(Qe.1 E).1;omega,λ_=>rfl⟩
 |m+1,k,h=>by
  have hx:g[k]?=some g[k]:=Qj (by omega);generalize g[k]=x at hx;have ih:=okL_iff g m (k+1) (by omega);rw[Qhg hx]at ih;rw[A.dropx hx,okL];by_cases H:BadP g k x;have hb':x.1<=lastOf g k\/ownQ x=false\/((x.2.1=1\/x.2.1=15)/\twiceF (g.take k) x=true):=H;rw[Qc hb'];exact⟨λh=>(by cases h),λh=>absurd H (h k x (Qr _) hx)⟩;have hb': ¬(x.1<=lastOf g k\/ownQ x=false\/((x.2.1=1\/x.2.1=15)/\twiceF (g.take k) x=true)):=H;rw[Qb hb',ih];refine⟨λh i n I E=>?_,λh i n I E=>h i n (by omega) E⟩;rcases Nat.eq_or_lt_of_le I with rfl|h2
  rw[hx]at E;injection E with E;subst E;exact H
  exact h i n h2 E
def Qlc (g:List Nd): ∀(m k:Nat),k+m=g.length->(okR g k (g.drop k)=true↔∀i n,k<=i->g[i]?=some n->own g (i:Int) n=true)
 |0,k,h=>by
  rw[Xi (by omega),okR];exact⟨λ_ i n H E=>by have:=(Qe.1 E).1;omega,λ_=>rfl⟩
 |m+1,k,h=>by
  have hx:g[k]?=some g[k]:=Qj (by omega);generalize g[k]=x at hx;have ih:=Qlc g m (k+1) (by omega);rw[A.dropx hx,okR,Qd,ih];refine⟨λh i n H E=>?_,λh=>⟨h k x (Qr _) hx,λi n H E=>h i n (by omega) E⟩⟩;rcases Nat.eq_or_lt_of_le H with rfl|h2
  rw[hx]at E;injection E with E;subst E;exact h.1
  exact h.2 i n h2 E
def inc_of {g:List Nd}(h: ∀i n,g[i]?=some n->lastOf g i<n.1):Inc g:=by
 unfold Inc;have key: ∀(d i:Nat) (a b:Nd),g[i]?=some a->g[i+d+1]?=some b->a.1<b.1:=by
  intro d;induction d with
  |zero=>intro i a b H E;have:=h _ b E;rw[Qhg H]at this;exact this
  |succ d ih=>
   intro i a b H E;have Y:=(Qe.1 E).1;have I:g[i+d+1]?=some g[i+d+1]:=Qj (by omega);have h1:=ih i a _ H I;have h2:=h _ b E;rw[show i+(d+1)+1=(i+d+1)+1 by omega,Qhg I]at h2;omega
 refine Jm.2 λi j J N W=>?_;refine key (j-i-1) i _ _ (Qj J) ?_;rw[show i+(j-i-1)+1=j by omega];exact Qj N
def Qdt (kd:Int)(s:ByteArray): ∀(l:List Nd),(∃(j:Nat) (n:Nd),l[j]?=some n/\n.2.1=kd/\n.2.2.2.2.1=s/\(Qcz kd s l)=(n.1,true)/\∀(i:Nat) (m:Nd),i<j->l[i]?=some m->¬(m.2.1=kd/\m.2.2.2.2.1=s))\/(Qcz kd s l=(0,false)/\∀m∈l,¬(m.2.1=kd/\m.2.2.2.2.1=s))
 | []=>.inr ⟨rfl,by simp⟩
 |x::r=>by
  unfold Qcz;by_cases h:x.2.1=kd/\x.2.2.2.2.1=s;rw[Qc h];exact .inl ⟨0,x,rfl,h.1,h.2,rfl,λi m H=>by omega⟩;have h': ¬(kind x=kd/\name x=s):=h;rw[Qb h'];rcases Qdt kd s r with⟨j,n,h1,h2,I,J,N⟩|⟨h1,h2⟩
  refine .inl ⟨j+1,n,h1,h2,I,J,λi m H E=>?_⟩;cases i with
  |zero=>injection E with E;subst E;exact h
  |succ i=>exact N i m (by omega) E
  refine .inr ⟨h1,λm E=>?_⟩;rcases Qn.1 E with rfl|E
  exact h;exact h2 m E
def Qjg {l:List Nd}{n:Nd}:twiceF l n=true↔∃m∈l,m.2.1=n.2.1/\m.2.2.2.2.1=n.2.2.2.2.1:=by
 simp only[twiceF,Jh,Qd,Qy]
def own_iff {g:List Nd}(hi:Inc g){k:Nat}{n:Nd}(J:g[k]?=some n)(W:lastOf g k<n.1):own g (k:Int) n=true↔¬BadP g k n:=by
 have hname:(n.2.1=1\/n.2.1=15)->((Qcz n.2.1 n.2.2.2.2.1 g).1=n.1↔¬twiceF (g.take k) n=true):=λ_=>by
  rcases Qdt n.2.1 n.2.2.2.2.1 g with⟨j,m,h1,h2,H,h4,Y⟩|⟨_,h2⟩
  rw[h4];have hjk:j<=k:=by
   rcases Yh k j with h|h
   exact absurd ⟨rfl,rfl⟩ (Y k n h J);exact h
  constructor;intro he I;have:j=k:=hi.inj h1 J he;subst this;obtain⟨q,hq,h6⟩:=Qjg.1 I;obtain⟨i,E⟩:=Xm.1 hq;rw[W8]at E;split at E;rename_i N;exact Y i q N E h6;cases E;intro I;rcases Yh j k with h|h
  exact absurd (Qjg.2 ⟨m,Xm.2 ⟨j,by rw[W8,Qc h];exact h1⟩,h2,H⟩) I;obtain rfl:j=k:=by omega
  rw[J]at h1;injection h1 with h1;rw[h1]
  exact absurd ⟨rfl,rfl⟩ (h2 n (Qu J))
 have hprev: ¬((0:Int)<(k:Int)/\n.1<=(at_ g ((k:Int)-1)).1):=λh=>by
  unfold lastOf at W;rw[Qb (by omega)]at W;omega
 unfold own BadP ownQ;by_cases h1:n.1<1\/255<n.1\/insK n.2.1<0\/(n.2.2.1.length:Int)≠insK n.2.1;rw[Qc (by omega),Qc h1];exact⟨λh=>(by cases h),λh=>absurd (.inr (.inl rfl)) h⟩;have hc: ¬(n.1<1\/255<n.1\/(0:Int)<(k:Int)/\n.1<=(at_ g ((k:Int)-1)).1\/insK n.2.1<0\/(n.2.2.1.length:Int)≠insK n.2.1):=by omega
 rw[Qb hc,Qb h1];by_cases h2:ownC n;rw[Qc h2,Qc h2];exact⟨λh=>(by cases h),λh=>absurd (.inr (.inl rfl)) h⟩;rw[Qb h2,Qb h2];unfold ownT;by_cases H:n.2.1=1\/n.2.1=15;rw[Qb (by omega),Qc H,Qd,Qy,hname H];constructor;rintro⟨a,b⟩ (h|h|h);omega;rw[a]at h;cases h;exact b h.2;intro h;refine⟨?_,λI=>h (.inr (.inr ⟨H,I⟩))⟩;cases hq:named n.2.2.2.2.1 with
 |true=>rfl
 |false=>exact absurd (.inr (.inl hq)) h
 rw[Qc (by omega),Qb H];constructor;rintro a (h|h|h);omega;rw[a]at h;cases h;exact H h.1;intro h;cases hq:decide (n.2.2.2.2.1=QE)with
 |true=>rfl
 |false=>exact absurd (.inr (.inl hq)) h
def own_last {g:List Nd}{k:Nat}{n:Nd}(h:own g (k:Int) n=true):lastOf g k<n.1:=by
 unfold own at h;by_cases E:n.1<1\/255<n.1\/(0:Int)<(k:Int)/\n.1<=(at_ g ((k:Int)-1)).1\/insK n.2.1<0\/(n.2.2.1.length:Int)≠insK n.2.1;rw[Qc E]at h;cases h;unfold lastOf;split<;>omega
def ok_eq (g:List Nd):okL g 0 0 g=okR g 0 g:=by
 have I:=okL_iff g g.length 0 (by omega);have J:=Qlc g g.length 0 (by omega);rw[X5]at I J;rw[show lastOf g 0=0 from rfl]at I;rw[Va,I,J];constructor;intro h i n _ E;have H: ∀i n,g[i]?=some n->lastOf g i<n.1:=λi n E=>by
  have:=h i n (by omega) E;exact Int.lt_of_not_ge λh2=>this (.inl h2)
 exact(own_iff (inc_of H) E (H i n E)).2 (h i n (by omega) E);intro h i n _ E;have H: ∀i n,g[i]?=some n->lastOf g i<n.1:=λi n E=>own_last (h i n (by omega) E);exact(own_iff (inc_of H) E (H i n E)).1 (h i n (by omega) E)
def ok_inc {g:List Nd}(h:okR g 0 g=true):Inc g:=by
 have E:=Qlc g g.length 0 (by omega);rw[X5]at E;exact inc_of λi n H=>own_last (E.1 h i n (by omega) H)
def parts_eq (g:List Nd)(E:Few g):F.dZ g=if(32:Int)<(g.length:Int)then some 80 else if okR g 0 g=true then(if g.all (λn=>decide (chk n.2.1 n.2.2.2.1=0))=true then(if g.all (λn=>n.2.2.1.all (inOk g))=true then some 0 else some 80)else some 60)else some 80:=by
 have H:=E.1;unfold F.dZ;rw[parts_l5 g (by omega) (λx hx=>(E.2 x hx).2.1),parts_l4 g (by omega) (λx hx=>(E.2 x hx).2.2),parts_l3 g (by omega) (λx hx=>(E.2 x hx).1)]
def bget_get {l:List Bool}{i:Nat}(h:i<l.length):l[i]?=some (bget l (i:Int)):=by
 unfold bget;rw[We,Qj h];rfl
def bix {l:List Bool}{i:Int}(h0:0<=i)(h:i<l.length):A.ix l i=some (bget l i):=by
 have e:i=((i.toNat:Nat):Int):=by omega
 rw[e];exact A.ixn (bget_get (by omega))
def ready_eq (g:List Nd)(n:Nd)(done:List Bool)(H:g.length<=100)(J:done.length=g.length)(N:n.2.2.1.length<=5000)(I: ∀k∈n.2.2.1,0<=idx g k):F.ed g n done=some (ready g done n):=
 A.lp0 n.2.2.1 (λf y=>F.aI g n done f y) (λk l=>some (readyF g done n.2.1 l))
  (λf=>by rw[F.aI,Qb (by omega)];rfl)
  (λf k x hx hk ih=>by
   have h1:=I x (Qu hx);have h2:=(idx_le g x).2;rw[F.aI,Qc (by omega),readyF];simp only[F.cT,A.gd1 (A.r64n (n:=k) (by omega)),ih];by_cases E:n.2.1=14;simp[E]
   ·rw[Qc E,A.ixn hx,Qa,Qed g x H,Qa,bix h1 (by omega),Qa]
    cases bget done (idx g x)<;>simp[E])
  (by have:=Qac;omega)
def idAt (g:List Nd)(i:Int):Int:=(at_ g i).1
end Go.Proofs.YtligcbdjiolamaaGreatDoor
end
section
namespace Go.A
end Go.A
namespace Go.Proofs.YtligcbdjiolamaaGreatDoor
open Go.RowKit Go.Graph
def Own (g:List Nd):Prop:=∀n,n∈g->ownQ n=true
def Plc (g:List Nd)(l:QP):Prop:=∀(i:Nat) (p:Int),l[i]?=some p->∃(k:Nat) (n:Nd),p=(k:Int)/\g[k]?=some n
end Go.Proofs.YtligcbdjiolamaaGreatDoor
end
section
namespace Go.Proofs.YtligcbdjiolamaaGreatDoor
open Go.RowKit Go.Graph
def RelD (g:List Nd)(d:QP)(dm:List (Int×Int)):Prop:=∀(i:Nat) (n:Nd),g[i]?=some n->Z.mget 0 dm n.1=iget d (i:Int)
def KeyD (g:List Nd)(l:QP)(dm:List (Int×Int)):Prop:=∀id,Z.mhas dm id=l.any λp=>decide (idAt g p=id)
abbrev Ed:=Pl×Pl×Sm
def useN (id nd:Int):Nat->QP->List Pl
 |_,[]=>[]
 |k,z::r=>if z=id then(nd,(k:Int))::useN id nd (k+1) r else useN id nd (k+1) r
def usesF (id:Int):List Nd->List Pl
 | []=>[]
 |n::r=>useN id n.1 0 n.2.2.1++usesF id r
def inE (g:List Nd)(d:QP)(n:Nd):Nat->QP->List Ed
 |_,[]=>[]
 |k,z::r=>((n.1,(k:Int)),(n.1,2),withinP n (iget d (idx g z)))::inE g d n (k+1) r
def outE (g:List Nd)(n:Nd)(v:Int):List Ed:=(usesF n.1 g).map λu=>((n.1,2),u,(idP v).1)
def edgesF (g:List Nd)(d:QP):Nat->List Nd->List Ed
 |_,[]=>[]
 |i,n::r=>if n.2.1=15 then edgesF g d (i+1) r else inE g d n 0 n.2.2.1++(outE g n (iget d (i:Int))++edgesF g d (i+1) r)
def edges (g:List Nd)(d:QP):List Ed:=edgesF g d 0 g
def Find_eq (g:List Nd)(H:Few g){j:Nat}{n:Nd}(I:Inc g)(E:g[j]?=some n):F.cW g n.1=some (n,true):=by
 have:=H.1;have J:=H.in E;unfold F.cW;rw[Qed g _ (by omega),Qa,I.idx E,Qb (by omega),A.ixn E,Qa,A.gd1 (by simp only[Wx];omega)];rfl
inductive Rch {α:Type} (R:α->α->Prop) (a:α):α->Prop
 |one {b:α} (h:R a b):Rch R a b
 |step {b c:α} (h:Rch R a b) (h2:R b c):Rch R a c
def openB (g:List Nd)(S:List Sp)(dd:Int)(e:Ed):Bool:=decide (dd<=atS e.2.1 S)&&(decide ((find g e.1.1).1.2.1≠14)||decide ((find g e.1.1).1.2.2.2.2.2.2≠dd)||decide (e.1.2=2))
def okE (g:List Nd)(S:List Sp)(E:List Ed)(dd:Int)(p q:Pl):Prop:=∃e∈E,e.1=p/\e.2.1=q/\openB g S dd e=true
abbrev Seen:=List (Pl×Bool)
def seen (m:Seen)(v:Pl):Prop:=Z.mget false m v=true
def un (T:List Pl)(m:Seen):Nat:=(T.filter λt=> !(Z.mget false m t)).length
def blk (g:List Nd)(dd:Int)(p:Pl):Prop:=(Z.mget ((0,0,[],(0,0,(QE)),(QE),0,0):Nd) (mapOf g) p.1).2.1=14/\(Z.mget ((0,0,[],(0,0,(QE)),(QE),0,0):Nd) (mapOf g) p.1).2.2.2.2.2.2=dd
def mget_mem {p:Pl}: ∀{l:List Sp} {v:Int},(l.map (·.1)).Nodup->(p,v)∈l->Z.mget 0 l p=v
 | [],_,_,h=>by cases h
 |(a,w)::r,v,E,h=>by
  rw[Wc,Xb]at E;unfold Z.mget;rcases Qn.1 h with h|h
  injection h with h1 h2;rw[Qc h1,h2]
  rw[Qb (λe=>E.1 (by rw[<-e];exact List.mem_map_of_mem (f:=(·.1)) h))];exact mget_mem E.2 h
structure Whole (g:List Nd) (l d:QP) (dm:List (Int×Int)):Prop where
 inc:Inc g
 fed:Fed g
 own:Own g
 rel:RelD g d dm
 inb:InB d
 dlen:d.length=g.length
 key:KeyD g l dm
 plc:Plc g l
 llen:l.length=g.length
 ord:orderF g g.length (List.replicate g.length false) []=some l
 dep:depthsF g l (List.replicate g.length 0)=some d
 lps:loopsF g d g=true
 nort: ∀sp∈spots g d,¬Rch (okE g (spots g d) (edges g d) sp.2) sp.1 sp.1
 kin:g.all (λn=>n.2.2.1.all (inOk g))=true
 okr:okR g 0 g=true
 chk:g.all (λn=>decide (chk n.2.1 n.2.2.2.1=0))=true
 l32:g.length<=32
def clone_int (l:QP)(h:l.length<=5000):F.aF l=some l:=by
 unfold F.aF;rw[A.gd1 (by simp only[Wx];omega)];rfl
def set_same {α:Type}{l:List α}{k:Nat}{x:α}(h:l[k]?=some x):l.set k x=l:=by
 apply Xf;intro i;rw[Jb];split;rename_i e;subst e;split;rw[h];rename_i h2;rw[Wh (by omega)];rfl
def Clone_eq (g:List Nd)(H:g.length<=100)(h: ∀n∈g,n.2.2.1.length<=5000):F.dd g=some g:=by
 unfold F.dd F.af;rw[A.gd1 (by simp only[Wx];omega),Qa];exact A.lp g (λf (s:List Nd) y=>F.aV g f s y) (λ_ _ s=>some s) (λ_ s=>s=g)
  (λf s E=>by rw[F.aV,Qb (by omega)])
  (λf s k x hx hk E ih=>by
   subst E;rw[F.aV,Qc (by omega),A.ixn hx,Qa,clone_int _ (h x (Qu hx)),Qa,Qa,A.gd1 (A.r64n (by omega))];rw[show(List.set s (k:Int).toNat x)=s from by rw[We];exact set_same hx];exact ih s rfl)
  (by have:=Qac;omega) g rfl
def IndexF_eq (g:List Nd)(id:Int)(E:g.length<=100):F.h g id=some (idx g id):=
 A.lp0 g (λf y=>F.c g id f y) (λk l=>some (idxF id k l))
  (λf=>by rw[F.c,Qb (by omega)];rfl)
  (λf k x hx hk ih=>by
   rw[F.c,Qc (by omega),A.ixn hx,Qa,F.dC,Qa,idxF];by_cases h:x.1=id;rw[Qc (Q4 h),Qc h];rw[Qb (by rw[Xp];exact h),Qb h,A.gd1 (A.r64n (by omega)),ih])
  (by have:=Qac;omega)
def z39:Nd:=(0,0,[],(0,0,QE),QE,0,0)
def Qju (g:List Nd)(id:Int)(I:Few g): ∃n b,F.c1 g id=some (n,b)/\F.cW g id=some (n,b)/\n.2.2.1.length<=5000:=by
 have hlen:=I.1;unfold F.c1 F.cW;rw[IndexF_eq g id (by omega),Qed g id (by omega),Qa,Qa];rcases Qbg z39 g id with⟨e,_⟩|⟨j,n,e,H,_⟩
 rw[e];exact⟨z39,false,rfl,rfl,by decide⟩;have N:j<g.length:=(Qe.1 H).1;have E:=I.in H;have hcut:List.drop (j:Int).toNat (List.take ((j:Int)+1).toNat g)=[n]:=by
  rw[We,show((j:Int)+1).toNat=j+1 by omega,X2,H,List.drop_append];simp only[Qx,Option.toList];rw[Xx (by omega),Nat.sub_self,List.drop_of_length_le (by rw[Qx];omega)];rfl
 rw[e,Qb (by omega),Qb (by omega),A.gd1 (A.r64n (by omega)),A.gd1 (by omega),hcut,Clone_eq [n] (by simp) (by intro m J;rw[Qq]at J;rw[J];exact E),Qa,A.ixn H,Qa,A.gd1 (by simp only[Wx];omega)];exact⟨n,true,rfl,rfl,E⟩
end Go.Proofs.YtligcbdjiolamaaGreatDoor
end
section
namespace Go.Proofs.YtligcbdjiolamaaGreatDoor
open Go.RowKit Go.Graph Go.Utf Go.Ent
def insP_one {e:En}{k:Ky}(h1:num e=1): ∀{l:List En},Srt l->gv (insP e true l) k=if k=key e then 1 else gv l k
 | [],_=>by
  unfold insP gv gv;by_cases hk:k=key e;rw[Qc hk.symm,Qc hk];exact h1;rw[Qb (λh=>hk h.symm),Qb hk]
 |x::l,h=>by
  obtain⟨s1,H⟩:=Wa.1 h;unfold insP;split;rename_i E;unfold gv;by_cases hk:k=key e;rw[Qc (show key (upd x e true)=k from E.trans hk.symm),Qc hk];rfl;rw[Qb (show key (upd x e true)≠k from λh=>hk (h.symm.trans E)),Qb hk,Qb (λh=>hk (h.symm.trans E))];rename_i E;split;rename_i I;by_cases hk:k=key e;conv=>lhs;unfold gv
  rw[Qc hk.symm,Qc hk];exact h1;conv=>lhs;unfold gv
  rw[Qb (λh=>hk h.symm),Qb hk];unfold gv;by_cases hk:key x=k;rw[Qc hk,Qc hk,Qb (λh=>E (hk.trans h))];rw[Qb hk,Qb hk];exact insP_one h1 H
def insP_bd2 {e:En}{one:Bool}{l:List En}(h:Bd false l)(h1:1<=num e)(h2:num e<=1099511627776):Bd false (insP e one l):=by
 refine⟨Qgq h.srt,λx hx=>?_⟩;rcases Qec hx with rfl|hx|⟨y,E,_,rfl⟩
 exact⟨h1,h2⟩;exact h.b x hx;have:=h.b y E;show 1<=(if one=true then 1 else min (num y+num e) 1099511627776)/\(if one=true then 1 else min (num y+num e) 1099511627776)<=1099511627776;have H:1<=num y/\num y<=1099511627776:=this;cases one with
 |true=>simp
 |false=>simp only[Q3,Wd];omega
def tk (g:List Nd)(x:En):Option Bool:=match F.c1 g x.1 with
 |some (n,true)=>if entOk n x=true then some (decide (n.2.1=16))else none
 |_=>none
def Qew {n:Nd}{x:En}(h:entOk n x=true):(n.2.1=11\/n.2.1=16)/\0<=num x/\num x<=1099511627776/\(n.2.1=16->num x=1):=by
 unfold entOk at h;split at h;cases h;split at h;rename_i h1;simp only[Qd,Qy]at h;exact⟨.inl h1,h.1.2,h.2,λh2=>by omega⟩;split at h;rename_i h1;simp only[Qd,Qy]at h;have h2:num x=1:=h.1;exact⟨.inr h1,by omega,by omega,λ_=>h2⟩;cases h
def tk_num {g:List Nd}{x:En}{one:Bool}(h:tk g x=some one):0<=num x/\num x<=1099511627776/\(one=true->num x=1):=by
 unfold tk at h;split at h;split at h;rename_i n _ h1;injection h with h
 obtain⟨_,h2,E,H⟩:=Qew h1;exact⟨h2,E,λI=>H (Q7 (h.trans I))⟩;cases h;cases h
def stL (g:List Nd)(out:List En)(x:En):List En:=match tk g x with
 |none=>out
 |some one=>putP x one out
def stM (g:List Nd)(m:List (Ky×Int))(x:En):List (Ky×Int):=match tk g x with
 |none=>m
 |some one=>Z.mins m (key x) (if one=true then num x else min 1099511627776 (num x+Z.mget 0 m (key x)))
def stP_one (n:Nd)(x:En):stP n [x]=entOk n x:=by
 cases h:entOk n x with
 |true=>exact Qfd.2 ⟨λe E=>by rw[Qq.1 E];exact h,List.pairwise_singleton ..⟩
 |false=>
  cases h2:stP n [x]with
  |false=>rfl
  |true=>rw[(Qfd.1 h2).1 x (Qq.2 rfl)]at h;cases h
structure TI (out:List En) (m:List (Ky×Int)):Prop where
 bd:Bd false out
 eq: ∀k,gv out k=Z.mget 0 m k
 nd:(m.map Prod.fst).Nodup
def TI.b {out:List En}{m:List (Ky×Int)}(h:TI out m)(k:Ky):0<=Z.mget 0 m k/\Z.mget 0 m k<=1099511627776:=by
 rw[<-h.eq];exact h.bd.gv k
def TI.nil:TI [] []:=⟨⟨List.Pairwise.nil,λe E=>by cases E⟩,λk=>rfl,Je⟩
def TI.step {g:List Nd}{out:List En}{m:List (Ky×Int)}(h:TI out m)(x:En):TI (stL g out x) (stM g m x):=by
 unfold stL stM;cases H:tk g x with
 |none=>exact h
 |some one=>
  obtain⟨h1,h2,E⟩:=tk_num H;dsimp only;have I:=h.b (key x);refine⟨?_,λk=>?_,Z.mins_nodup h.nd _ _⟩;unfold putP;split;exact h.bd;exact insP_bd2 h.bd (by omega) h2;rw[Z.mget_ins];unfold putP;by_cases h0:num x=0;rw[Qc h0,h.eq];by_cases hk:k=key x;rw[Qc hk,hk];cases one with
  |true=>have:=E rfl;omega
  |false=>simp only[Q3,Wd];omega
  rw[Qb hk];rw[Qb h0];cases one with
  |true=>rw[insP_one (E rfl) h.bd.srt,Qc rfl,E rfl,h.eq]
  |false=>
   rw[Qko h.bd (by omega) h2,h.eq];by_cases hk:k=key x;rw[Qc hk,Qc hk,hk];simp only[Ent.cap,Q3,Wd];omega;rw[Qb hk,Qb hk]
def TI.all {g:List Nd}: ∀(l:List En) {out:List En} {m:List (Ky×Int)},TI out m->TI (l.foldl (stL g) out) (l.foldl (stM g) m)
 | [],_,_,h=>h
 |x::l,_,_,h=>TI.all l (h.step x)
def Keeps_eq (k:Int):F.dD k=some (decide (k=11\/k=16)):=by rw[F.dD];simp only[A.bo]
def Qfv (g:List Nd)(l:List En)(hg:Few g)(hl:l.length<=100):F.m g l A.FU [] 0=F.aa (l.foldl (stM g) []) A.FU [] []:=by
 have hFU:=Qac;refine A.lp l (λf (m:List (Ky×Int)) y=>F.m g l f m y) (λk r m=>F.aa (r.foldl (stM g) m) A.FU [] []) (λk m=>∃out,TI out m) (λf m _=>?_) (λf m k x hx hk hp ih=>?_) (by omega) [] ⟨[],TI.nil⟩;rw[F.m,Qb (by omega)];rfl;obtain⟨out,Y⟩:=hp;have ih':=ih (stM g m x) ⟨_,Y.step (g:=g) x⟩;obtain⟨n,b,I,_⟩:=Qju g x.1 hg;have skip: ∀r,tk g x=none->F.a1 (F.m g l f) m (k:Int) x r true=F.aa ((l.drop (k+1)).foldl (stM g) (stM g m x)) A.FU [] []:=λr N=>by
  rw[F.a1,Qc rfl,F.cb,A.gd1 (A.r64n (by omega))];rw[show stM g m x=m by unfold stM;rw[N]]at ih' ⊢;exact ih'
 rw[F.m,Qc (by omega),A.ixn hx,Qa,I,Qa];show(if(!b)=true then _ else _)=F.aa ((l.drop (k+1)).foldl (stM g) (stM g m x)) A.FU [] [];cases b with
 |false=>rw[Qc (by rfl)];exact skip _ (by unfold tk;rw[I])
 |true=>
  rw[Qb (by simp),Keeps_eq,Qa];by_cases E:n.2.1=11\/n.2.1=16;rw[Q4 E,Qb (by simp)];rw[show F.bS n [x]=some (if stP n [x]=true then 0 else 171)from Qgx n [x] (by simp),Qa,stP_one];cases J:entOk n x with
  |false=>
   rw[Qb (by simp)];exact skip _ (by unfold tk;rw[I];dsimp only;rw[J,Qb (by simp)])
  |true=>
   obtain⟨_,h1,h2,h3⟩:=Qew J;have N:tk g x=some (decide (n.2.1=16)):=by unfold tk;rw[I];dsimp only;rw[J,Qc rfl]
   have hb:=Y.b (key x);rw[Qc rfl,F.a1,Qb (by simp)];have nx: ∀v,v=(if decide (n.2.1=16)=true then num x else min 1099511627776 (num x+Z.mget 0 m (key x)))->F.bw (F.m g l f) m (k:Int) x v=F.aa ((l.drop (k+1)).foldl (stM g) (stM g m x)) A.FU [] []:=λv hv=>by
    rw[F.bw,F.cb,A.gd1 (A.r64n (by omega))];rw[show stM g m x=Z.mins m (key x) v by unfold stM;rw[N,hv]]at ih' ⊢;exact ih'
   by_cases H:n.2.1=11;rw[Qc H];show A.gd (Z.R64 (num x+Z.mget 0 m (key x))) (F.bw (F.m g l f) m (k:Int) x (min 1099511627776 (num x+Z.mget 0 m (key x))))=_;rw[A.gd1 ⟨by omega,by omega⟩];exact nx _ (by rw[Wu (by omega),Qb (by simp)]);rw[Qb H];have W:n.2.1=16:=E.resolve_left H;exact nx _ (by rw[Q4 W,Qc rfl])
  rw[Wu E,Qc (by simp)];refine skip _ ?_;unfold tk;rw[I];dsimp only;rw[Qb];intro J;exact E (Qew J).1
def Qjo (g:List Nd)(l:List En)(W:Few g)(Y:l.length<=100)(hk: ∀x,x∈l->hasK (key x)):F.cn g l=(F.bX g).bind λe=>some (if e≠0 then []else l.foldl (stL g) []):=by
 unfold F.cn;congr 1;funext e;by_cases H:e=0;rw[Qb (λh=>h H),Qb (λh=>h H),Qfv g l W Y];have J:=TI.all (g:=g) l TI.nil;have keys: ∀(r:List En) (m:List (Ky×Int)) (c:Nat),(∀p,p∈m->hasK p.1)->m.length<=c->(∀x,x∈r->hasK (key x))->(∀p,p∈r.foldl (stM g) m->hasK p.1)/\(r.foldl (stM g) m).length<=c+r.length:=λr=>by
  induction r with
  |nil=>intro m c h1 h2 _;exact⟨h1,h2⟩
  |cons x r ih=>
   intro m c h1 h2 I;have N:(∀p,p∈stM g m x->hasK p.1)/\(stM g m x).length<=c+1:=by
    unfold stM;split;exact⟨h1,by omega⟩;rename_i one ho;refine⟨λp hp=>?_,?_⟩;have E:p.1∈(Z.mins m (key x) _).map Prod.fst:=W5.2 ⟨p,hp,rfl⟩;rw[Z.mins_keys]at E;have h0:p.1∈m.map Prod.fst\/p.1=key x:=by
     split at E;exact .inl E;rcases Q8.1 E with E|E
     exact .inl E;exact .inr (Qq.1 E)
    rcases h0 with h0|h0
    obtain⟨q,hq,e1⟩:=W5.1 h0;rw[<-e1];exact h1 q hq;rw[h0];exact I x (Qh ..);have E:=Wq List.length (Z.mins_keys m (key x) (if one=true then num x else min 1099511627776 (num x+Z.mget 0 m (key x))));rw[W6]at E;rw[E];split;rw[W6];omega;rw[Qz,W6,Y8];omega
   obtain⟨h5,h6⟩:=ih (stM g m x) (c+1) N.1 N.2 λy hy=>I y (Qf _ hy);exact⟨h5,by rw[Q2];show(r.foldl (stM g) (stM g m x)).length<=_;omega⟩
 obtain⟨k1,k2⟩:=keys l [] 0 (λp hp=>by cases hp) (Qr _) hk;obtain⟨L,h1,h2,I⟩:=list_eq _ J.nd k1 (by omega);rw[h1];congr 1;exact nf_ext h2 J.bd.nf λk=>(I k).trans (J.eq k).symm;rw[Qc H,Qc H]
end Go.Proofs.YtligcbdjiolamaaGreatDoor
end
section
namespace Go.A
end Go.A
namespace Go.Proofs.YtligcbdjiolamaaGreatDoor
open Go.RowKit Go.Graph Go.Utf Go.Ent
def fewF (s:Int):List Nd->Int
 | []=>s
 |x::r=>fewF (min (s+min (x.2.2.1.length:Int) 1048576+min (x.2.2.2.2.1.size:Int) 1048576+min (x.2.2.2.1.2.2.size:Int) 1048576) 1048576) r
def Qjw: ∀(l:List Nd) (s:Int),0<=s->s<=1048576->s<=fewF s l
 | [],s,_,_=>Int.le_refl s
 |x::r,s,h,h2=>by
  unfold fewF;have:=Qjw r (min (s+min (x.2.2.1.length:Int) 1048576+min (x.2.2.2.2.1.size:Int) 1048576+min (x.2.2.2.1.2.2.size:Int) 1048576) 1048576) (by omega) (by omega);omega
def fewF_le: ∀(l:List Nd) (s:Int),0<=s->s<=1048576->fewF s l<=5000->∀x∈l,x.2.2.1.length<=5000/\x.2.2.2.2.1.size<=5000/\x.2.2.2.1.2.2.size<=5000
 | [],_,_,_,_,x,hx=>by cases hx
 |y::r,s,h,h2,E,x,hx=>by
  unfold fewF at E;have H:=Qjw r (min (s+min (y.2.2.1.length:Int) 1048576+min (y.2.2.2.2.1.size:Int) 1048576+min (y.2.2.2.1.2.2.size:Int) 1048576) 1048576) (by omega) (by omega);rcases Qn.1 hx with rfl|hx
  omega;exact fewF_le r _ (by omega) (by omega) E x hx
def few25_eq (g:List Nd): ∃b,F.d3 g=some b/\(b=true->Few g/\g.length<=18):=by
 unfold F.d3;rw[A.gd1 (by omega)];have hlen:(List.take (min (g.length:Int) 99).toNat g).length<=99:=by rw[Qx];omega
 have:=A.lp (List.take (min (g.length:Int) 99).toNat g) (λf s y=>F.cp g f s y) (λ_ l s=>some (bif decide ((g.length:Int)<=18)then decide (fewF s l<=2000)else false)) (λ_ s=>0<=s/\s<=1048576)
  (λf s _=>by rw[F.cp,Qb (by omega)];rfl)
  (λf s k x hx hk hp ih=>by
   rw[F.cp,Qc (by omega),A.ixn hx,Qa,A.gd1 ⟨⟨by omega,by omega⟩,⟨by omega,by omega⟩,⟨by omega,by omega⟩⟩,A.gd1 (A.r64n (by omega)),ih _ (by omega)];rfl)
  (by have:=Qac;omega) 0 (by omega)
 rw[this];refine⟨_,rfl,λE=>?_⟩;by_cases h1:(g.length:Int)<=18;simp only[h1,decide_true,cond_true,Qy]at E;have e:List.take (min (g.length:Int) 99).toNat g=g:=Xd (by omega);rw[e]at E;exact⟨⟨by omega,fewF_le g 0 (by omega) (by omega) (by omega)⟩,by omega⟩;simp[h1]at E
def ofI (k ws:Int):Int:=Int.tmod (M.hashI k) ws
def ofI_b (k:Int){ws:Int}(h1:1<=ws)(h2:ws<=16):0<=ofI k ws/\ofI k ws<ws:=by
 have h:=(M.u64_b (M.hashI k)).1;have h0:0<=M.hashI k:=by
  have:=M.hashI_has k;have E:IntKind.u64.min=0:=by decide
  have:=this.1;omega
 exact⟨Vc _ h0,Yr _ (by omega)⟩
def Of_P (k ws:Int)(h1:1<=ws)(h2:ws<=16):F.em k ws=some (ofI k ws):=by
 have E:=ofI_b k h1 h2;have e:IntKind.u64.wrap ws=ws:=M.u64_id (by omega) (by omega);rw[F.em,A.bo,Qb (by rw[Xp];omega),F.eu,Qa,e,A.gd1 (by omega)];show some (IntKind.i64.wrap (ofI k ws))=_;rw[IntWalk.i64_in _ ⟨by omega,by omega⟩]
def ownL (w ws:Int)(l:List En):List En:=if 1<=ws/\ws<=16 then l.filter λx=>decide (ofI x.2.1 ws=w)else []
def ownL_len (w ws:Int)(l:List En):(ownL w ws l).length<=l.length:=by
 unfold ownL;split;exact J4 ..;simp
def Own_P (w ws:Int)(l:List En)(H:l.length<=100):F.x w ws l=some (ownL w ws l):=by
 unfold F.x ownL;rw[A.bo];by_cases E:1<=ws/\ws<=16;rw[Qb (by rw[Xp];omega),Qc E];have it:=A.lp0 l (λf y=>F.d l f y) (λ_ r=>some r) (λf=>by rw[F.d,Qb (by omega)])
  (λf k x hx hk ih=>by rw[F.d,Qc (by omega),A.ixn hx,Qa,A.gd1 (A.r64n (by omega)),ih];rfl) (by have:=Qac;omega)
 have go: ∀(r xs:List En),xs.length+r.length<=1000->F.aW w ws r xs=some (xs++r.filter λx=>decide (ofI x.2.1 ws=w)):=λr=>by
  induction r with
  |nil=>intro xs _;rw[F.aW];simp
  |cons y r ih=>
   intro xs hx;rw[Q2]at hx;rw[F.aW,Of_P _ _ E.1 E.2,Qa,List.filter_cons];by_cases h:ofI y.2.1 ws=w;rw[Qc h,A.gd1 (by simp;omega),ih _ (by simp;omega),Qc (Q4 h)];simp;rw[Qb h,ih _ (by omega),Qb (by rw[Xp];exact h)]
 rw[F.ac,Qa,F.p,show F.d l A.FU 0=some l from it,Qa,go l [] (by simp;omega)];simp;rw[Qc (by rw[Xp];omega),Qb E]
abbrev Prt:=Int×List En
def prtA (i:Int)(o:List En)(t:List Prt):List Prt:=if 0<o.length then(i,o)::t else t
def Qcf (f:Int->List En):Int->Nat->List Prt
 |_,0=>[]
 |i,n+1=>prtA i (f i) (Qcf f (i+1) n)
def it_step (i:Int)(o:List En)(E:o.length<=1000)(X:Option (List Prt)):(if(0:Int)<((o).length:Int)then((F.a o).bind λr=>(A.cns (i,r) X))else X)=X.map (prtA i o):=by
 by_cases h:0<o.length;rw[Qc (by omega),F.a,A.gd1 (by simp;omega),Qa,X8];unfold A.cns prtA;simp only[Qc h];rw[Qb (by omega)];have:prtA i o=λt=>t:=by funext t;unfold prtA;rw[Qb h]
 rw[this];cases X<;>rfl
def Parts_P (ws:Int)(l:List En)(E:l.length<=100):F.cq ws l=some (ownL 0 ws l,ownL 1 ws l,ownL 2 ws l,ownL 3 ws l,ownL 4 ws l,ownL 5 ws l,ownL 6 ws l,ownL 7 ws l,ownL 8 ws l,ownL 9 ws l,ownL 10 ws l,ownL 11 ws l,ownL 12 ws l,ownL 13 ws l,ownL 14 ws l,ownL 15 ws l):=by
 rw[F.cq];simp only[Own_P _ _ _ E,Qa];rfl
def Parts_it (ws:Int)(l:List En)(H:l.length<=100):F.bj (ownL 0 ws l,ownL 1 ws l,ownL 2 ws l,ownL 3 ws l,ownL 4 ws l,ownL 5 ws l,ownL 6 ws l,ownL 7 ws l,ownL 8 ws l,ownL 9 ws l,ownL 10 ws l,ownL 11 ws l,ownL 12 ws l,ownL 13 ws l,ownL 14 ws l,ownL 15 ws l)=some (Qcf (λi=>ownL i ws l) 0 16):=by
 have E: ∀i:Int,(ownL i ws l).length<=1000:=λi=>by have:=ownL_len i ws l;omega
 simp only[F.bj,F.a7,F.a8,F.a9,F.ba,F.bb,F.bc,F.bd,F.be,F.bf,F.aM,F.aN,F.aO,F.aP,F.aQ,F.aR,F.aS];simp only[it_step _ _ (E _)];rfl
def Qdi (f:Int->List En): ∀(n:Nat) (i:Int),(Qcf f i n).length<=n
 |0,_=>Qr _
 |n+1,i=>by
  have:=Qdi f n (i+1);unfold Qcf prtA;split;simp only[Q2];omega;omega
def told_P (ws:Int)(l:List En)(m:Int)(E:l.length<=100)(H:0<=m):((F.cq ws l).bind λr=>F.ag r m)=some ((Qcf (λi=>ownL i ws l) 0 16).take m.toNat):=by
 rw[Parts_P ws l E,Qa,F.ag];rw[show F.bj _=_ from Parts_it ws l E,Qa];have hlen:=Qdi (λi=>ownL i ws l) 16 0;have go: ∀(r xs:List Prt),xs.length+r.length<=100->F.k m r xs=some (xs++r.take (m.toNat-xs.length)):=λr=>by
  induction r with
  |nil=>intro xs _;rw[F.k];simp
  |cons y r ih=>
   intro xs hx;rw[Q2]at hx;rw[F.k];by_cases h:m<=(xs.length:Int);rw[Qc h,show m.toNat-xs.length=0 by omega];simp;rw[Qb h,A.gd1 (by simp;omega),ih _ (by simp;omega)];obtain⟨k,hk⟩: ∃k,m.toNat-xs.length=k+1:=⟨m.toNat-xs.length-1,by omega⟩;rw[hk,List.take_succ_cons,show m.toNat-(xs++[y]).length=k by simp;omega];simp
 rw[go _ [] (by simp;omega)];simp
def Qdf (f:Int->List En): ∀(n:Nat) (i:Int) (p:Prt),p∈Qcf f i n->∃k,p.2=f k
 |0,_,_,h=>by cases h
 |n+1,i,p,h=>by
  unfold Qcf prtA at h;split at h;rcases Qn.1 h with rfl|h
  exact⟨i,rfl⟩;exact Qdf f n (i+1) p h;exact Qdf f n (i+1) p h
def small25 (l:List En): ∃b,F.dV [] l=some b/\(b=true->l.length<=60):=by
 have hFU:=Qac;obtain⟨n,H,E,I⟩: ∃n:Nat,n<=99/\min ((l.length:Int)) 99=n/\n<=l.length:=⟨min l.length 99,by omega,by omega,by omega⟩;have main:=A.lp (l.take (min (l.length:Int) 99).toNat) (λf (y:Int) i=>F.aE [] l f y i) (λ_ r y=>some (bif bif decide (((List.length (α:=Int×Int×Int×ByteArray) []):Int)<=24)then decide (((l).length:Int)<=60)else false then decide (r.foldl (λy x=>min (y+min (x.2.2.1.size:Int) 1048576) 1048576) y<=4000)else false)) (λ_ y=>0<=y/\y<=1048576)
  (λf y _=>by rw[F.aE,Qb (by omega)];rfl)
  (λf y k x hx hk hp ih=>by
   rw[E,Qx,We]at hk;rw[F.aE,Qc (by rw[E,Qx,We];omega),A.ixn hx,Qa,A.gd1 ⟨by omega,by omega⟩,A.gd1 (A.r64n (by omega)),ih _ (by omega)];rfl) (by rw[Qx,E];omega) 0 (by omega)
 obtain⟨f,J⟩: ∃f,A.FU=f+1:=⟨A.FU-1,by omega⟩;unfold F.dV;rw[A.gd1 (by decide)];rw[show F.b4 [] l A.FU 0 0=F.aE [] l A.FU 0 0 by
  conv=>lhs;rw[J,F.b4]
  rw[Qb (by simp),A.gd1 (by omega)]]
 rw[show F.aE [] l A.FU 0 0=_ from main];refine⟨_,rfl,λh=>?_⟩;by_cases h1:(l.length:Int)<=60;omega;simp[h1]at h
def L25_bg:F.eb=some true:=rfl
def hasK_l {l:List En}(h:(Z.Ty.slice (Z.Ty.pair A.ti (Z.Ty.pair A.ti (Z.Ty.pair Z.Ty.str A.ti)))).ok l): ∀x,x∈l->hasK (key x):=λx hx=>by
 obtain⟨h1,h2,E,_⟩:=h.2 x hx;exact⟨h1,h2,E⟩
end Go.Proofs.YtligcbdjiolamaaGreatDoor
end
section
namespace Go.Proofs.YtligcbdjiolamaaGreatDoor
open Go.RowKit Go.Graph Go.Utf Go.Ent
def catP (f:Int->List En):Int->Nat->List En
 |_,0=>[]
 |i,n+1=>f i++catP f (i+1) n
abbrev ofK (k:Ky) (l:List En):List En:=l.filter λx=>decide (key x=k)
def own_key {ws:Int}(E:1<=ws/\ws<=16)(l:List En)(k:Ky)(i:Int):ofK k (ownL i ws l)=if ofI k.2.1 ws=i then ofK k l else []:=by
 unfold ownL ofK;rw[Qc E,List.filter_filter];by_cases h:ofI k.2.1 ws=i;rw[Qc h];refine List.filter_congr λx _=>?_;by_cases hk:key x=k;rw[Q4 hk,Xj,Q4];rw[<-h,<-hk];rw[Wu hk,Jf];rw[Qb h];refine J2.2 λx _=>?_;rw[Qd,Xp,Xp];rintro⟨h1,h2⟩;exact h (by rw[<-h2,<-h1])
def cat_key {ws:Int}(E:1<=ws/\ws<=16)(l:List En)(k:Ky): ∀(n:Nat) (i:Int),ofK k (catP (λi=>ownL i ws l) i n)=if i<=ofI k.2.1 ws/\ofI k.2.1 ws<i+n then ofK k l else []
 |0,i=>by rw[Qb (by omega)];rfl
 |n+1,i=>by
  unfold catP;have e:ofK k (ownL i ws l++catP (λi=>ownL i ws l) (i+1) n)=ofK k (ownL i ws l)++ofK k (catP (λi=>ownL i ws l) (i+1) n):=List.filter_append ..;rw[e,own_key E,cat_key E l k n (i+1)];by_cases h:ofI k.2.1 ws=i;rw[Qc h,Qb (by omega),Qc (by push_cast;omega),Xy];rw[Qb h,X8];by_cases h2:i+1<=ofI k.2.1 ws/\ofI k.2.1 ws<i+1+n;rw[Qc h2,Qc (by push_cast;omega)];rw[Qb h2,Qb (by push_cast;omega)]
def all_key {ws:Int}(E:1<=ws/\ws<=16)(l:List En)(k:Ky):ofK k (catP (λi=>ownL i ws l) 0 16)=ofK k l:=by
 rw[cat_key E,Qc];have:=ofI_b k.2.1 E.1 E.2;push_cast;omega
def all_perm {a l:List En}(h: ∀k,ofK k a=ofK k l):a.Perm l:=by
 letI:BEq En:=instBEqOfDecidableEq;refine List.perm_iff_count.2 λx=>?_;have e: ∀m:List En,m.count x=(ofK (key x) m).count x:=λm=>(List.count_filter (p:=λy=>decide (key y=key x)) (Q4 rfl)).symm;rw[e a,e l,h]
end Go.Proofs.YtligcbdjiolamaaGreatDoor
end
section
namespace Go.Proofs.YtligcbdjiolamaaGreatDoor
open Go.RowKit Go.Graph
abbrev Mv:=Int×Int×Int×Int×Fun
end Go.Proofs.YtligcbdjiolamaaGreatDoor
end
section
namespace Go.Proofs.YtligcbdjiolamaaGreatDoor
open Go.RowKit Go.Graph Go.Utf Go.Ent
abbrev MX:Int:=1099511627776
def Qgr {n a:Int}(h1:0<=n)(h2:n<=MX)(H:0<=a)(Y:a<=1048576):F.dO n a=some (min MX (n*a)):=by
 have hm0:0<=n*a:=Int.mul_nonneg h1 H;have I:n*a<=MX*1048576:=Int.mul_le_mul h2 Y H (by decide);have W:Z.R64 (n*a):=⟨by omega,by simp only[MX]at I;omega⟩;rw[F.dO];by_cases J:a=0;subst J;rw[A.gd1 ⟨λh=>absurd (Q7 h) (by simp),λh=>absurd (Q7 h) (by simp)⟩,A.ba,Qb (by simp),A.gd1 W,Int.mul_zero];rfl;have N:0<a:=by omega
 have e:Int.tdiv 1099511627776 a=1099511627776 / a:=Int.tdiv_eq_ediv_of_nonneg (by decide);have b1:0<=1099511627776 / a:=Int.ediv_nonneg (by decide) H;have b2:1099511627776 / a<=1099511627776:=Int.ediv_le_self _ (by decide);have E:(1099511627776 / a<n)↔(1099511627776<n*a):=Int.ediv_lt_iff_lt_mul N;rw[A.gd1 ⟨λ_=>J,λ_=>by rw[e];exact⟨by omega,by omega⟩⟩,A.ba,e];by_cases h:1099511627776<n*a;rw[Qc (Q4 ⟨J,E.2 h⟩),Int.min_eq_left (by simp only[MX];omega)];rw[Qb (by simp only[Qy];exact λh2=>h (E.1 h2.2)),A.gd1 W,Int.min_eq_right (by simp only[MX];omega)]
def z0F:Fun:=(0,0,QE)
def Qld (m:Mv):Bool:=if m.2.2.1=1 then decide (m.2.2.2.1=0/\m.2.2.2.2=z0F)else if m.2.2.1=2 then decide ((0<=m.2.2.2.1/\m.2.2.2.1<=1048576)/\m.2.2.2.2=z0F)else if m.2.2.1=3 then decide (m.2.2.2.1=0/\chk 2 m.2.2.2.2=0)else false
def Qkk (m:Mv)(I:m.2.2.2.2.2.2.size<=5000):F.dS m=some (Qld m):=by
 rw[F.dS];unfold Qld;by_cases h1:m.2.2.1=1;rw[Qc h1,Qc h1];by_cases h2:m.2.2.2.1=0;rw[Qc h2,F.cC];simp only[h2,true_and];rfl;rw[Qb h2,F.cC];simp[h2];rw[Qb h1,Qb h1];by_cases h2:m.2.2.1=2;rw[Qc h2,Qc h2,A.ba];by_cases E:0<=m.2.2.2.1/\m.2.2.2.1<=1048576;rw[Qc (Q4 E),F.cD];simp only[E,true_and];rfl;rw[Qb (by simpa using E),F.cD];simp only[E,false_and];rfl;rw[Qb h2,Qb h2];by_cases E:m.2.2.1=3;rw[Qc E,Qc E];by_cases H:m.2.2.2.1=0;rw[Qc H];show(F.bq 2 m.2.2.2.2).bind _=_;rw[Qcc _ _ I,Qa,F.cE];simp only[H,true_and];rw[Qb H,F.cE];simp[H];rw[Qb E,Qb E]
def fresh:ByteArray:=ByteArray.mk #[102,114,101,115,104]
def tagP (n:Nd):ByteArray×Bool:=if n.2.1=16 then(fresh,true)else if n.2.1=11/\n.2.2.2.1.1=41 then(ByteArray.mk #[116,111,116,97,108,47,111,110,101],true)else if n.2.1=11/\n.2.2.2.1.1=42 then(ByteArray.mk #[116,111,116,97,108,47,115,105,122,101],true)else(QE,false)
def Qgm (n:Nd):F.dy n=some (tagP n):=by
 rw[F.dy];unfold tagP;simp only[A.ba,Qy];by_cases h1:n.2.1=16;rw[Qb (show ¬(n.2.1=11/\n.2.2.2.1.1=41) by omega),Qb (show ¬(n.2.1=11/\n.2.2.2.1.1=42) by omega),Qc h1,Qc h1];rfl;by_cases h2:n.2.1=11/\n.2.2.2.1.1=41;rw[Qc h2,Qb h1,Qc h2];rw[Qb h2,Qb h1,Qb h2];by_cases E:n.2.1=11/\n.2.2.2.1.1=42;rw[Qc E,Qb h1,Qc E];rw[Qb E,Qb h1,Qb E]
def Qii (a b:Nd)(m:Mv):Int:=if m.1≠a.1\/m.2.1≠b.1\/Qld m=false then 180 else if(tagP a).2=false\/(tagP b).2=false\/(tagP a).1≠(tagP b).1\/(m.2.2.1=2/\(tagP a).1=fresh)then 181 else 0
def Qkq (a b:Nd)(m:Mv)(I:m.2.2.2.2.2.2.size<=5000):F.dT a b m=some (Qii a b m):=by
 have E: ∀y:Bool,F.cF a b m y=some (if y=true then 180 else if(tagP a).2=false\/(tagP b).2=false\/(tagP a).1≠(tagP b).1\/(m.2.2.1=2/\(tagP a).1=fresh)then 181 else 0):=λy=>by
  rw[F.cF];cases y with
  |true=>rfl
  |false=>
   rw[Qb (show ¬(false=true) by simp),Qb (show ¬(false=true) by simp)];show(F.dy a).bind _=_;rw[Qgm,Qa];show(F.dy b).bind _=_;rw[Qgm,Qa];cases N:(tagP a).2 with
   |false=>simp
   |true=>
    cases W:(tagP b).2 with
    |false=>simp
    |true=>
     by_cases h:(tagP a).1=(tagP b).1;by_cases h2:m.2.2.1=2;by_cases H:(tagP a).1=fresh;have h3':(tagP b).1=fresh:=h.symm.trans H;have h3'':(tagP b).1=ByteArray.mk #[102,114,101,115,104]:=h3';simp[h,h2,h3',h3''];rfl;have h3': ¬(tagP b).1=fresh:=λe=>H (h.trans e);have h3'': ¬(tagP b).1=ByteArray.mk #[102,114,101,115,104]:=h3';simp[h,h2,h3',h3''];simp[h,h2];simp[h]
 rw[F.dT,A.bo];unfold Qii;by_cases h:m.1≠a.1\/m.2.1≠b.1;rw[Qc (Q4 h),E,Qc rfl,Qc (by rcases h with h|h;exact .inl h;exact .inr (.inl h))];rw[Qb (by simpa using h)];show(F.dS m).bind _=_;rw[Qkk m I,Qa,E];cases J:Qld m with
 |false=>rw[Qc (show(!false)=true from rfl),Qc (.inr (.inr rfl))]
 |true=>rw[Qb (show ¬((!true)=true) by simp),Qb (show ¬(m.1≠a.1\/m.2.1≠b.1\/true=false)from λh2=>h (by rcases h2 with h2|h2|h2;exact .inl h2;exact .inr h2;cases h2))]
def mvE (tn:Nd)(m:Mv)(e:En):En:=
 if m.2.2.1=2 then(tn.1,e.2.1,e.2.2.1,min MX (e.2.2.2*m.2.2.2.1))else if m.2.2.1=3 then(tn.1,(mapK m.2.2.2.2 (rec e)).1,if tn.2.1=16 then(mapK m.2.2.2.2 (rec e)).2 else e.2.2.1,e.2.2.2)else(tn.1,e.2.1,e.2.2.1,e.2.2.2)
structure Mok (tn:Nd) (m:Mv):Prop where
 kind:m.2.2.1=1\/m.2.2.1=2\/m.2.2.1=3
 sc:m.2.2.1=2->(0<=m.2.2.2.1/\m.2.2.2.1<=1048576)/\tn.2.1=11
 ks:m.2.2.1=3->chk 2 m.2.2.2.2=0
 tn:tn.2.1=11\/tn.2.1=16
def Qdz {n:Nd}(h:(tagP n).2=true):n.2.1=16/\(tagP n).1=fresh\/n.2.1=11:=by
 unfold tagP at h ⊢;by_cases h1:n.2.1=16;rw[Qc h1];exact .inl ⟨h1,rfl⟩;rw[Qb h1]at h ⊢;split at h;rename_i h2;exact .inr h2.1;split at h;rename_i h2;exact .inr h2.1;cases h
def Mok.of {a b:Nd}{m:Mv}(hk:a.2.1=b.2.1)(h:Qii a b m=0):Mok b m:=by
 unfold Qii at h;split at h;cases h;rename_i h1;split at h;cases h;rename_i h2;have E:Qld m=true:=by
  cases H:Qld m with
  |true=>rfl
  |false=>exact absurd (.inr (.inr H)) h1
 have ta:(tagP a).2=true:=by
  cases H:(tagP a).2 with
  |true=>rfl
  |false=>exact absurd (.inl H) h2
 have tb:(tagP b).2=true:=by
  cases H:(tagP b).2 with
  |true=>rfl
  |false=>exact absurd (.inr (.inl H)) h2
 unfold Qld at E;by_cases N:m.2.2.1=1;exact⟨.inl N,λh=>by omega,λh=>by omega,(Qdz tb).elim (λh=>.inr h.1) .inl⟩;rw[Qb N]at E;by_cases I:m.2.2.1=2;rw[Qc I]at E;have E:=Q7 E;refine⟨.inr (.inl I),λ_=>⟨E.1,?_⟩,λh=>by omega,(Qdz tb).elim (λh=>.inr h.1) .inl⟩;rcases Qdz ta with⟨W,Y⟩|W
 exact absurd (.inr (.inr (.inr ⟨I,Y⟩))) h2;rw[<-hk];exact W;rw[Qb I]at E;by_cases J:m.2.2.1=3;rw[Qc J]at E;exact⟨.inr (.inr J),λh=>by omega,λ_=>(Q7 E).2,(Qdz tb).elim (λh=>.inr h.1) .inl⟩;rw[Qb J]at E;cases E
structure Eok (tn:Nd) (e:En):Prop where
 t:tn.2.1=11->e.2.2.1=QE/\0<=e.2.2.2/\e.2.2.2<=MX
 f:tn.2.1=16->e.2.2.2=1/\okT e.2.2.1=true
def Eok.of {a b:Nd}(hk:a.2.1=b.2.1){e:En}(h:entOk a e=true):Eok b e:=by
 unfold entOk at h;split at h;cases h;constructor;intro h1;rw[Qc (hk.trans h1)]at h;simp only[Qd,Qy]at h;exact⟨h.1.1,h.1.2,h.2⟩;intro h1;rw[Qb (by omega),Qc (hk.trans h1)]at h;simp only[Qd,Qy]at h;exact h
def okT_nil:okT (QE)=true:=by decide
def Eok.txt {tn:Nd}{e:En}(h:Eok tn e)(E:tn.2.1=11\/tn.2.1=16):okT e.2.2.1=true:=by
 rcases E with E|E
 rw[(h.t E).1];exact okT_nil;exact(h.f E).2
def o_dW {f:Fun}{r:Rec}(h:chk 2 f=0)(E:okT r.2=true):mapP f r=(mapK f r,0):=by
 unfold mapP;rw[Qb (λh2=>h2 h),Qc E]
def Qjy (tn:Nd)(m:Mv)(e:En)(J:Mok tn m)(N:Eok tn e)(W:m.2.2.2.2.2.2.size<=5000):F.dz tn m e=some (mvE tn m e):=by
 rw[F.dz];unfold mvE;by_cases H:m.2.2.1=2;obtain⟨h1,h2⟩:=J.sc H;obtain⟨_,Y,h4⟩:=N.t h2;rw[Qc H,Qc H,Qgr Y h4 h1.1 h1.2];rfl;rw[Qb H,Qb H];by_cases I:m.2.2.1=3;rw[Qc I,Qc I];show(F.d6 m.2.2.2.2 (rec e)).bind _=_;rw[R06_Map_eq _ _ W,Qa,o_dW (J.ks I) (N.txt J.tn)];by_cases E:tn.2.1=16;rw[Qc E,Qc E];rfl;rw[Qb E,Qb E];rfl;rw[Qb I,Qb I];rfl
abbrev oneK (tn:Nd):Bool:=decide (tn.2.1=16)
def mv_num {tn:Nd}{m:Mv}{e:En}(H:Mok tn m)(N:Eok tn e):0<=num (mvE tn m e)/\num (mvE tn m e)<=Ent.cap (oneK tn):=by
 rcases H.tn with E|E
 obtain⟨_,h1,h2⟩:=N.t E;have I:Ent.cap (oneK tn)=MX:=by unfold oneK;rw[E];rfl
 rw[I];unfold mvE;split;rename_i J;have:=(H.sc J).1;have W:0<=e.2.2.2*m.2.2.2.1:=Int.mul_nonneg h1 this.1;show 0<=min MX (e.2.2.2*m.2.2.2.1)/\min MX (e.2.2.2*m.2.2.2.1)<=MX;simp only[MX];omega
 (split)
 exact⟨h1,h2⟩;exact⟨h1,h2⟩;obtain⟨h1,_⟩:=N.f E;have I:Ent.cap (oneK tn)=1:=by unfold oneK;rw[E];rfl
 rw[I];unfold mvE;split;rename_i J;have:=(H.sc J).2;omega
 (split)
 show 0<=e.2.2.2/\e.2.2.2<=1;omega;show 0<=e.2.2.2/\e.2.2.2<=1;omega
def i64h {x:Int}(h1: -9223372036854775808<=x)(h2:x<=9223372036854775807):A.h6 x:=Vk ⟨h1,h2⟩
def mapK_has {f:Fun}{r:Rec}(h:chk 2 f=0)(ho:okT r.2=true)(E:A.h6 r.1):A.h6 (mapK f r).1:=by
 obtain⟨h64,hv⟩:=Qbu.1 ho;obtain⟨hf,hc⟩:=Qde hv;have hcl:=cks_len r.2;unfold mapK;by_cases I:f.1=2;rw[Qc I];exact E;rw[Qb I];by_cases J:f.1=3;rw[Qc J];exact E;rw[Qb J];by_cases N:f.1=4;rw[Qc N];exact E;rw[Qb N];by_cases W:f.1=5;rw[Qc W];exact E;rw[Qb W];by_cases H:f.1=6;rw[Qc H];obtain⟨n1,n2⟩:=num_mod h H;have t1:Int.tmod (Int.tmod r.1 f.2.1+f.2.1) f.2.1<f.2.1:=Yr _ (by omega);have t2: -f.2.1<Int.tmod (Int.tmod r.1 f.2.1+f.2.1) f.2.1:=by
  have:=Yr (-(Int.tmod r.1 f.2.1+f.2.1)) (show 0<f.2.1 by omega);rw[Int.neg_tmod]at this;omega
 exact i64h (by show _<=Int.tmod _ _;omega) (by show Int.tmod _ _<=_;omega);rw[Qb H];by_cases Y:f.1=7;rw[Qc Y];exact i64h (by show _<=((cks r.2.data.toList).length:Int);omega) (by show((cks r.2.data.toList).length:Int)<=_;omega);rw[Qb Y];by_cases e8:f.1=8;rw[Qc e8];cases hx:((cks r.2.data.toList).map (·.2))[0]? with
 |none=>exact i64h (show(-9223372036854775808:Int)<=0 by decide) (show(0:Int)<=9223372036854775807 by decide)
 |some x=>have:=Qiv hc hx;exact i64h (by show _<=x;omega) (by show x<=_;omega)
 rw[Qb e8];exact E
def mv_has {tn:Nd}{m:Mv}{e:En}(H:Mok tn m)(W:Eok tn e)(I:A.h6 tn.1)(h:hasK (key e)):hasK (key (mvE tn m e)):=by
 have E:=W.txt H.tn;have J: ∀s:ByteArray,okT s=true->s.size<=maxLen:=λs h=>by
  have:=(Qbu.1 h).1;simp only[maxLen];omega
 unfold mvE;split;exact⟨I,h.2⟩
 (split)
 rename_i N;refine⟨I,mapK_has (H.ks N) E h.2.1,?_⟩;show(if tn.2.1=16 then(mapK m.2.2.2.2 (rec e)).2 else e.2.2.1).size<=maxLen;split;exact J _ (o_cJ (H.ks N) E);exact h.2.2;exact⟨I,h.2⟩
abbrev frm (tn:Nd) (m:Mv):Nd:=(m.1,tn.2)
def migP (tn:Nd)(m:Mv)(l:List En):List En×Int:=
 if m.2.1≠tn.1 then([],180)else if Qii (frm tn m) tn m≠0 then([],180)else if stP (frm tn m) l=true then(foldP (oneK tn) (l.map (mvE tn m)) [],0)else([],171)
def st_eok {tn:Nd}{m:Mv}{l:List En}(h:stP (frm tn m) l=true): ∀e,e∈l->Eok tn e:=λe E=>Eok.of (a:=frm tn m) (b:=tn) rfl ((Qfd.1 h).1 e E)
def Qfp (one:Bool): ∀(l a:List En),(foldP one l a).length<=a.length+l.length
 | [],a=>Qr _
 |e::l,a=>by
  have h1:=Qfp one l (putP e one a);have h2: ∀(a:List En),(insP e one a).length<=a.length+1:=λa=>by
   induction a with
   |nil=>simp[insP]
   |cons x a ih=>
    unfold insP;split;simp
    (split)
    simp;simp only[Q2];omega
  have E:(putP e one a).length<=a.length+1:=by
   unfold putP;split;omega;exact h2 a
  show(foldP one l (putP e one a)).length<=_;rw[Q2];omega
def foldP_snoc (one:Bool)(l:List En)(e:En)(a:List En):foldP one (l++[e]) a=putP e one (foldP one l a):=by
 unfold foldP;rw[List.foldl_append];rfl
def Qfw (tn:Nd)(m:Mv)(l:List En)(I:m.2.2.2.2.2.2.size<=5000)(hl:l.length<=900):F.b1 tn m l=some (migP tn m l):=by
 rw[F.b1];unfold migP;by_cases h1:m.2.1=tn.1;case neg=>rw[Qc (λh=>h1 h.symm),Qc h1,F.bt,Qc rfl]
 rw[Qb (λh=>h h1.symm),Qb (show ¬(m.2.1≠tn.1)from λh=>h h1)];show(F.dT (frm tn m) tn m).bind _=_;rw[Qkq _ _ _ I,Qa,F.bt];by_cases h2:Qii (frm tn m) tn m=0;case neg=>rw[Qc (Q4 h2),Qc h2]
 rw[Qb (show ¬(decide (Qii (frm tn m) tn m≠0)=true) by simp[h2]),Qb (show ¬(Qii (frm tn m) tn m≠0)from λh=>h h2)];show(F.ck (frm tn m) l).bind _=_;rw[Qdc _ _ (by omega),Qa];have H:Mok tn m:=Mok.of (a:=frm tn m) (b:=tn) rfl h2;by_cases E:stP (frm tn m) l=true;case neg=>rw[Qb E,Qb E];rfl
 rw[Qc E,Qc E,Qb (show ¬((0:Int)≠0)from λh=>h rfl)];have J:=st_eok E;have:=A.lp l (λf (xs:List En) y=>F.aq tn m l f xs y) (λ_ _ _=>some (foldP (oneK tn) (l.map (mvE tn m)) [],0)) (λk xs=>xs=foldP (oneK tn) ((l.take k).map (mvE tn m)) [])
  (λf xs hp=>by
   show F.aq tn m l (f+1) xs _=_;rw[F.aq,Qb (by omega),hp,List.take_length])
  (λf xs k x hx W hp ih=>by
   show F.aq tn m l (f+1) xs _=_;have hxE:=J x (Qu hx);have N:=mv_num H hxE;have hq: ∀e,e∈(l.take k).map (mvE tn m)->0<=num e/\num e<=Ent.cap (oneK tn):=λe Y=>by
    obtain⟨z,hz,rfl⟩:=W5.1 Y;exact mv_num H (J z (Jd hz))
   have hlen:=Qfp (oneK tn) ((l.take k).map (mvE tn m)) [];rw[W6,Qx]at hlen;simp only[Wx]at hlen;rw[F.aq,Qc (by omega),A.ixn hx,Qa];show(F.dz tn m x).bind _=_;rw[Qjy tn m x H hxE I,Qa];show(F.d4 xs (mvE tn m x) (oneK tn)).bind _=_;rw[hp,put_eq _ _ _ (by omega) (Qbi _ hq).1 N.1 N.2,Qa,A.gd1 ⟨by omega,by omega⟩];refine ih _ ?_;rw[X2,hx];simp only[Option.toList_some,Xc,Wc,Ji];rw[foldP_snoc])
  (by have:=Qac;omega) [] rfl
 exact this
end Go.Proofs.YtligcbdjiolamaaGreatDoor
end
section
namespace Go.Proofs.YtligcbdjiolamaaGreatDoor
open Go.RowKit Go.Graph
def prN (n:Nd):List Nd:=[(1,1,[],(0,0,QE),ByteArray.mk #[97],0,0),n]
def twN (id k x:Int)(fn:Int×Int×ByteArray)(nm:ByteArray)(c a:Int):List Nd:=prN (id,k,[x],fn,nm,c,a)
def restR (g:List Nd):Option ((QP)×(QP)×Int):=(F.ee g).bind λr5=>(if(!r5.2)=true then(some ([],[],81))else((F.d2 g r5.1).bind λr9=>(if(!r9.2)=true then(some ([],[],80))else((F.ef g r9.1).bind λr13=>((F.eg g r13).bind λr17=>(F.cY g r5 r9 r13 r17 A.FU 0))))))
def isP:Option ((Option ((List (Int×Nd))×(QP)×(List (Int×Int))))×Int)->Bool
 |some (_,.ofNat 0)=>true
 |_=>false
def isR (e:Nat):Option ((QP)×(QP)×Int)->Bool
 |some (_,_,.ofNat n)=>Nat.beq n e
 |_=>false
def allT (id k:Int)(fn:Int×Int×ByteArray)(nm:ByteArray)(c a:Int):Bool:=isP (sortP (twN id k 1 fn nm c a) (mapOf (twN id k 1 fn nm c a)))&&(isR 0 (restR (twN id k 1 fn nm c a))&&isR 81 (restR (twN id k id fn nm c a)))
def allT_all (fn:Int×Int×ByteArray)(nm:ByteArray)(c a:Int):((List.range 254).all λi=>allT (i+2:Nat) 11 fn nm c a&&allT (i+2:Nat) 16 fn nm c a)=true:=by kernel_rfl
def isP_iff {x:Option ((Option ((List (Int×Nd))×(QP)×(List (Int×Int))))×Int)}(h:isP x=true): ∃p,x=some (p,0):=by
 unfold isP at h;split at h;exact⟨_,rfl⟩;cases h
def isR_iff {e:Nat}{x:Option ((QP)×(QP)×Int)}(h:isR e x=true): ∃p q,x=some (p,q,(e:Int)):=by
 unfold isR at h;split at h;rw[Qk h];exact⟨_,_,rfl⟩;cases h
def check_two (n:Nd)(hb:Few (prN n))(hk:n.2.1=11\/n.2.1=16): ∃e,F.cZ (prN n)=some e/\(e=0->F.bX (prN n)=some 0/\Inc (prN n)):=by
 unfold F.cZ F.bX F.ej;rw[whole_P _ hb,parts_eq _ hb,ok_eq,Qb (show ¬(32:Int)<((prN n).length:Int) by unfold prN;simp),Qb (show ¬(32:Int)<((prN n).length:Int) by unfold prN;simp)];have no: ∀e:Int,e≠0->∃e',(((some e).bind λN=>if N≠0 then some ([],[],N)else restR (prN n)).bind λN=>some N.2.2)=some e'/\(e'=0->False):=λe h=>⟨e,by rw[Qa,Qc h];rfl,λh2=>h h2⟩;by_cases E:okR (prN n) 0 (prN n)=true;case neg=>
  rw[Qb E];obtain⟨e,h1,h2⟩:=no 80 (by decide);exact⟨e,h1,λh=>(h2 h).elim⟩
 rw[Qc E,Qc E];by_cases I:(prN n).all (λn=>decide (chk n.2.1 n.2.2.2.1=0))=true;case neg=>
  rw[Qb I];obtain⟨e,h1,h2⟩:=no 60 (by decide);exact⟨e,h1,λh=>(h2 h).elim⟩
 rw[Qc I,Qc I];by_cases H:(prN n).all (λm=>m.2.2.1.all (inOk (prN n)))=true;case neg=>
  rw[Qb H];obtain⟨e,h1,h2⟩:=no 80 (by decide);exact⟨e,h1,λh=>(h2 h).elim⟩
 rw[Qc H,Qc H,Qa,Qb (by decide)];have hi:=ok_inc E;rw[<-ok_eq]at E;obtain⟨id,k,ins,fn,nm,c,a⟩:=n;unfold prN at E;rw[okL]at E;split at E;cases E;rw[okL]at E;split at E;cases E;rename_i h2;have hq:ownQ (id,k,ins,fn,nm,c,a)=true:=by
  cases h:ownQ (id,k,ins,fn,nm,c,a)with
  |true=>rfl
  |false=>exact absurd (.inr (.inl h)) h2
 have h3:1<id:=Int.not_le.1 λh=>h2 (.inl h);unfold ownQ at hq;split at hq;cases hq;rename_i h4;have h4: ¬(id<1\/255<id\/insK k<0\/(ins.length:Int)≠insK k):=h4;have hk:k=11\/k=16:=hk;have h5:insK k=1:=by rcases hk with rfl|rfl<;>decide
 have h6:ins.length=1:=by omega
 obtain⟨x,rfl⟩:=List.length_eq_one_iff.1 h6;obtain⟨i,h7,rfl⟩: ∃i:Nat,i<254/\id=((i+2:Nat):Int):=⟨(id-2).toNat,by omega,by omega⟩;have J:=Q5.1 (allT_all fn nm c a) i (Yj.2 h7);have J:allT ((i+2:Nat):Int) k fn nm c a=true:=by
  rw[Qd]at J;rcases hk with rfl|rfl
  exact J.1;exact J.2
 unfold allT at J;rw[Qd,Qd]at J;obtain⟨t1,t2,t3⟩:=J;by_cases x1:x=1;subst x1;obtain⟨p,e1⟩:=isP_iff t1;obtain⟨q,r,W⟩:=isR_iff t2;refine⟨0,?_,λ_=>⟨?_,hi⟩⟩;show(restR (twN _ k 1 fn nm c a)).bind _=_;rw[W];rfl;show(sortP (twN _ k 1 fn nm c a) (mapOf (twN _ k 1 fn nm c a))).bind _=_;rw[e1];cases p<;>rfl;by_cases x2:x=((i+2:Nat):Int);subst x2;obtain⟨q,r,W⟩:=isR_iff t3;refine⟨81,?_,λh=>absurd h (by decide)⟩;show(restR (twN _ k _ fn nm c a)).bind _=_;rw[W];rfl;exfalso;have h8:=Q5.1 H _ (Qf _ (Qh ..));have Y:inOk (prN (((i+2:Nat):Int),k,[x],fn,nm,c,a)) x=true:=Q5.1 h8 x (Qh ..);have h10:idx (prN (((i+2:Nat):Int),k,[x],fn,nm,c,a)) x= -1:=by
  show idxF x 0 _= -1;unfold prN;rw[idxF,Qb (λh=>x1 h.symm),idxF,Qb (λh=>x2 h.symm),idxF]
 unfold inOk at Y;rw[h10,Qc (by decide)]at Y;cases Y
end Go.Proofs.YtligcbdjiolamaaGreatDoor
end
section
namespace Go.Proofs.YtligcbdjiolamaaGreatDoor
open Go.RowKit Go.Graph Go.Utf Go.Ent
def sm_perm {a b:List En}(h:a.Perm b)(k:Ky):sm a k=sm b k:=by
 induction h with
 |nil=>rfl
 |cons x _ ih=>unfold sm;rw[ih]
 |swap x y l=>simp only[sm];omega
 |trans _ _ h1 h2=>exact h1.trans h2
def catP_map (f:Int->List En)(mv:En->En): ∀(n:Nat) (i:Int),catP (λj=>(f j).map mv) i n=(catP f i n).map mv
 |0,_=>rfl
 |n+1,i=>by unfold catP;rw[catP_map f mv n (i+1),Xc]
def Qih {f:Int->List En}{e:En}: ∀{n:Nat} {i:Int},e∈catP f i n->∃j,e∈f j
 |0,_,h=>by cases h
 |n+1,i,h=>by
  unfold catP at h;rcases Q8.1 h with h|h
  exact⟨i,h⟩;exact Qih h
def cap0 (one:Bool):0<=Ent.cap one:=by cases one<;>decide
def catP_cap {one:Bool}{f:Int->List En}(E: ∀j e,e∈f j->0<=num e/\num e<=Ent.cap one)(k:Ky): ∀(n:Nat) (i:Int),
  0<=sm (catP f i n) k/\0<=sm (catP (λj=>foldP one (f j) []) i n) k/\min (Ent.cap one) (sm (catP (λj=>foldP one (f j) []) i n) k)=min (Ent.cap one) (sm (catP f i n) k)
 |0,i=>⟨Int.le_refl _,Int.le_refl _,rfl⟩
 |n+1,i=>by
  obtain⟨h1,h2,N⟩:=catP_cap E k n (i+1);obtain⟨b,J⟩:=Qbi (f i) (E i);have I:=J k;rw[cs_sm (cap0 one) _ (λe H=>(E i e H).1)]at I;have W:=sm_nn (λe H=>(E i e H).1) k;have h6:=sm_gv b.srt k;have Y:=cap0 one;unfold catP;rw[sm_app,sm_app,h6,I];generalize Ent.cap one=C at*;omega
def Qei {one:Bool}: ∀(l a:List En) {x:En},x∈foldP one l a->(∃y,y∈l/\key x=key y)\/∃y,y∈a/\key x=key y
 | [],a,x,h=>.inr ⟨x,h,rfl⟩
 |e::l,a,x,h=>by
  rcases Qei l (putP e one a) h with⟨y,h1,h2⟩|⟨y,h1,h2⟩
  exact .inl ⟨y,Qf _ h1,h2⟩;unfold putP at h1;split at h1;exact .inr ⟨y,h1,h2⟩;rcases insP_key h1 with E|⟨z,E,H⟩
  exact .inl ⟨e,Qh ..,h2.trans E⟩;exact .inr ⟨z,E,h2.trans H⟩
def own_sub {w ws:Int}{l:List En}{e:En}(h:e∈ownL w ws l):e∈l:=by
 unfold ownL at h;split at h;exact(Vd.1 h).1;cases h
def apart_all (one:Bool)(mv:En->En)(l:List En)(I: ∀e,e∈l->0<=num (mv e)/\num (mv e)<=Ent.cap one){ws:Int}(Y:1<=ws/\ws<=16):
  foldP one (catP (λi=>foldP one ((ownL i ws l).map mv) []) 0 16) []=foldP one (l.map mv) []:=by
 have J: ∀(j:Int) e,e∈(λj=>(ownL j ws l).map mv) j->0<=num e/\num e<=Ent.cap one:=λj e E=>by
  obtain⟨z,H,rfl⟩:=W5.1 E;exact I z (own_sub H)
 have N: ∀e,e∈catP (λi=>foldP one ((ownL i ws l).map mv) []) 0 16->0<=num e/\num e<=Ent.cap one:=λe E=>by
  obtain⟨j,hj⟩:=Qih E;have:=(Qbi _ (J j)).1.b e hj;exact⟨by omega,this.2⟩
 have W: ∀e,e∈l.map mv->0<=num e/\num e<=Ent.cap one:=λe E=>by
  obtain⟨z,H,rfl⟩:=W5.1 E;exact I z H
 obtain⟨b1,g1⟩:=Qbi _ N;obtain⟨b2,g2⟩:=Qbi _ W;refine nf_ext b1.nf b2.nf λk=>?_;rw[g1,g2,cs_sm (cap0 one) _ λe E=>(N e E).1,cs_sm (cap0 one) _ λe E=>(W e E).1];have:=(catP_cap J k 16 0).2.2;rw[catP_map,sm_perm ((all_perm (all_key Y l)).map mv) k]at this;exact this
def stL_put (g:List Nd)(one:Bool): ∀(l a:List En),(∀x,x∈l->tk g x=some one)->l.foldl (stL g) a=foldP one l a
 | [],_,_=>rfl
 |x::l,a,h=>by
  show l.foldl (stL g) (stL g a x)=foldP one l (putP x one a);rw[show stL g a x=putP x one a by unfold stL;rw[h x (Qh ..)]];exact stL_put g one l _ λy E=>h y (Qf _ E)
def mv_fits {tn:Nd}{m:Mv}{p:List En}(I:Mok tn m)(he: ∀e,e∈p->Eok tn e){x:En}(hx:x∈foldP (oneK tn) (p.map (mvE tn m)) []):entOk tn x=true:=by
 have hq: ∀e,e∈p.map (mvE tn m)->0<=num e/\num e<=Ent.cap (oneK tn):=λe h=>by
  obtain⟨z,N,rfl⟩:=W5.1 h;exact mv_num I (he z N)
 have E:=(Qbi _ hq).1.b x hx;rcases Qei _ _ hx with⟨y,W,hk⟩|⟨y,W,_⟩
 case inr=>cases W
 obtain⟨z,N,rfl⟩:=W5.1 W;have hE:=he z N;have k1:x.1=(mvE tn m z).1:=Wq (·.1) hk;have J:x.2.2.1=(mvE tn m z).2.2.1:=Wq (·.2.2) hk;have e1:(mvE tn m z).1=tn.1:=by
  unfold mvE;split;rfl
  (split)
  rfl;rfl
 unfold entOk;rw[Qb (show ¬(x.1≠tn.1)from λh=>h (k1.trans e1))];rcases I.tn with H|H
 have Y:Ent.cap (oneK tn)=MX:=by unfold oneK;rw[H];rfl
 rw[Y]at E;have e3:(mvE tn m z).2.2.1=QE:=by
  have:=(hE.t H).1;unfold mvE;split;exact this
  (split)
  show(if tn.2.1=16 then _ else _)=_;rw[Qb (by omega)];exact this;exact this
 rw[Qc H,J,e3];have E:1<=x.2.2.2/\x.2.2.2<=1099511627776:=E;simp only[Qd,Qy];exact⟨⟨trivial,by omega⟩,E.2⟩;have Y:Ent.cap (oneK tn)=1:=by unfold oneK;rw[H];rfl
 rw[Y]at E;have E:1<=x.2.2.2/\x.2.2.2<=1:=E;rw[Qb (by omega),Qc H];have ho:=hE.txt I.tn;have e3:okT (mvE tn m z).2.2.1=true:=by
  unfold mvE;split;exact ho
  (split)
  rename_i J;exact o_cJ (I.ks J) ho;exact ho
 simp only[Qd,Qy];exact⟨by omega,by rw[J];exact e3⟩
def tk_to {g:List Nd}(H:Few g)(I:Inc g){j:Nat}{tn:Nd}(J:g[j]?=some tn){x:En}(hx:entOk tn x=true)(h1:x.1=tn.1):tk g x=some (oneK tn):=by
 obtain⟨n,b,N,E,_⟩:=Qju g x.1 H;rw[h1]at E;rw[Find_eq g H I J]at E;have E:=Xg E;have W:tn=n:=Wq Prod.fst E;have Y:true=b:=Wq Prod.snd E;unfold tk;rw[N,<-W,<-Y];dsimp only;rw[Qc hx]
def Qfe {f:Int->List En}{h:List En->List En}(h0:h []=[]): ∀(n:Nat) (i:Int),(Qcf f i n).flatMap (λp=>h p.2)=catP (λj=>h (f j)) i n
 |0,_=>rfl
 |n+1,i=>by
  unfold Qcf prtA catP;by_cases E:0<(f i).length;rw[Qc E,List.flatMap_cons,Qfe h0 n (i+1)];rw[Qb E,Qfe h0 n (i+1),Wz (by omega:(f i).length=0),h0,X8]
def catP_len {f h:Int->List En}(E: ∀j,(h j).length<=(f j).length): ∀(n:Nat) (i:Int),(catP h i n).length<=(catP f i n).length
 |0,_=>Qr _
 |n+1,i=>by
  have h1:=E i;have h2:=catP_len E n (i+1);unfold catP;rw[Qz,Qz];omega
def own_keep (w:Int){ws:Int}(l:List En):(ownL w ws l).Sublist l:=by
 unfold ownL;split;exact List.filter_sublist;exact List.nil_sublist _
def stP_sub {n:Nd}{l p:List En}(h:stP n l=true)(hp:p.Sublist l):stP n p=true:=by
 obtain⟨h1,h2⟩:=Qfd.1 h;exact Qfd.2 ⟨λe E=>h1 e (hp.subset E),h2.sublist hp⟩
def foldApart_plain {P1 P2:Prop}(tn:Nd)(m:Mv)(workers:UInt8)(l:List En)(hn:T48.ok tn)(_:P1)(_:P2)(hok0:(Z.Ty.slice (Z.Ty.pair A.ti (Z.Ty.pair A.ti (Z.Ty.pair Z.Ty.str A.ti)))).ok l):F.cw tn m workers l=some true:=by
 have hok:=hasK_l hok0;have h1:A.h6 tn.1:=hn.1;have hFU:=Qac;have hm:(workers.toNat:Int)<=255:=by have:=workers.toNat_lt;omega
 have yes:F.ap tn m workers l true=some true:=by rw[F.ap,Qc rfl,L25_bg];rfl
 rw[F.cw,L25_bg,Qa,Qb (by simp)];obtain⟨c,hc,hc2⟩:=small25 l;rw[hc,Qa];cases c with
 |false=>rw[Qc (by simp),yes]
 |true=>
  have hl:=hc2 rfl;rw[Qb (by simp)];show(F.d3 [tn]).bind _=_;obtain⟨b,hb,hb2⟩:=few25_eq [tn];rw[hb,Qa];cases b with
  |false=>rw[Y4,cond_true,yes]
  |true=>
   obtain⟨hg1,_⟩:=hb2 rfl;rw[X6,cond_false];by_cases N:(2000:Int)<(m.2.2.2.2.2.2.size:Int);rw[Q4 N,yes];rw[Wu N,F.ap,Qb (by simp)];have hs:m.2.2.2.2.2.2.size<=5000:=by omega
   have mig: ∀p:List En,p.length<=900->F.b1 tn m p=some (migP tn m p):=λp hp=>Qfw tn m p hs hp;rw[mig l (by omega),Qa];by_cases k1:m.2.1≠tn.1;rw[show migP tn m l=([],180) by unfold migP;rw[Qc k1],Qc (by decide),F.ad,Qc rfl];by_cases k2:Qii (frm tn m) tn m≠0;rw[show migP tn m l=([],180) by unfold migP;rw[Qb k1,Qc k2],Qc (by decide),F.ad,Qc rfl];by_cases k3:stP (frm tn m) l=true;case neg=>rw[show migP tn m l=([],171) by unfold migP;rw[Qb k1,Qb k2,Qb k3],Qc (by decide),F.ad,Qc rfl]
   have mg: ∀p:List En,stP (frm tn m) p=true->migP tn m p=(foldP (oneK tn) (p.map (mvE tn m)) [],0):=λp hp=>by unfold migP;rw[Qb k1,Qb k2,Qc hp]
   have hM:Mok tn m:=Mok.of (a:=frm tn m) (b:=tn) rfl (Decidable.not_not.1 k2);have hE:=st_eok k3;rw[mg l k3,Qb (by simp)];obtain⟨g,E⟩: ∃g:List Nd,g=[(1,1,[],(0,0,QE),ByteArray.mk #[97],0,0),tn]:=⟨_,rfl⟩;have hg:Few g:=by
    rw[E];refine⟨by simp,λx hx=>?_⟩;rcases Qn.1 hx with rfl|hx
    decide;exact hg1.2 x hx
   show(F.cZ [(1,1,[],(0,0,QE),ByteArray.mk #[97],0,0),tn]).bind _=_;obtain⟨e,he2,hbo⟩: ∃e,F.cZ g=some e/\(e=0->F.bX g=some 0/\Inc g):=by
    subst E;exact check_two tn hg hM.tn
   rw[<-E,he2,Qa];by_cases J:e=0;case neg=>rw[Q4 J,F.ad,Qc rfl]
   subst J;obtain⟨he1,hinc⟩:=hbo rfl;obtain⟨ws,hws⟩: ∃ws,ws=1+(Int.tmod (workers.toNat:Int) 16):=⟨_,rfl⟩;have h0:0<=Int.tmod (workers.toNat:Int) 16:=Vc _ (by omega);have h16:Int.tmod (workers.toNat:Int) 16<16:=Yr _ (by omega);have hw:1<=ws/\ws<=16:=by omega
   have W:l.length<=100:=by omega
   obtain⟨pp,H⟩: ∃pp,pp=Qcf (λi=>ownL i ws l) 0 16:=⟨_,rfl⟩;have hpl:pp.length<=16:=by rw[H];exact Qdi _ _ _
   have hpm: ∀p,p∈pp->p.2.length<=60/\p.2.Sublist l:=λp hp=>by
    rw[H]at hp;obtain⟨k,e⟩:=Qdf _ _ _ _ hp;rw[e];have:=ownL_len k ws l;exact⟨by omega,own_keep k l⟩
   have told: ∀(m:Int) (K:List Prt->Option Bool),0<=m->((F.cq ws l).bind λr=>(F.ag r m).bind K)=K (pp.take m.toNat):=λm K h0=>by
    have:=told_P ws l m W h0;rw[Parts_P ws l W,Qa]at this ⊢;rw[this,Qa,H]
   rw[Wu (by decide),F.ad,Qb (by simp),<-hws,A.gd1 ⟨⟨by omega,by omega⟩,by decide,⟨by omega,by omega⟩⟩];refine(told 99 _ (by omega)).trans ?_;rw[Xd (by show pp.length<=99;omega)];obtain⟨X,I⟩: ∃X:List En->List En,X=λp=>foldP (oneK tn) (p.map (mvE tn m)) []:=⟨_,rfl⟩;have hXlen: ∀p,(X p).length<=p.length:=λp=>by
    have:=Qfp (oneK tn) (p.map (mvE tn m)) [];rw[W6]at this;rw[I];simpa using this
   obtain⟨al,Y⟩: ∃al,al=pp.flatMap λp=>X p.2:=⟨_,rfl⟩;have hcat:al=catP (λj=>X (ownL j ws l)) 0 16:=by rw[Y,H];exact Qfe (h:=X) (by rw[I];rfl) 16 0
   have hlen:al.length<=100:=by
    have h5:=catP_len (f:=λi=>ownL i ws l) (h:=λj=>X (ownL j ws l)) (λj=>hXlen _) 16 0;have h6:=(all_perm (all_key hw l)).length_eq;rw[hcat];omega
   have hmem: ∀x,x∈al->∃j,x∈X (ownL j ws l):=λx hx=>by rw[hcat]at hx;exact Qih hx
   have hfit: ∀x,x∈al->entOk tn x=true:=λx hx=>by
    obtain⟨j,hj⟩:=hmem x hx;rw[I]at hj;exact mv_fits hM (λe J=>hE e (own_sub J)) hj
   have hid: ∀x,x∈al->x.1=tn.1:=λx hx=>by
    have:=hfit x hx;unfold entOk at this;by_cases h:x.1=tn.1;exact h;rw[Qc h]at this;cases this
   have hky: ∀x,x∈al->hasK (key x):=λx hx=>by
    obtain⟨j,hj⟩:=hmem x hx;rw[I]at hj;rcases Qei _ _ hj with⟨y,hy,hk⟩|⟨y,hy,_⟩
    obtain⟨z,hz,rfl⟩:=W5.1 hy;rw[hk];exact mv_has hM (hE z (own_sub hz)) h1 (hok z (own_sub hz));cases hy
   have htk: ∀x,x∈al->tk g x=some (oneK tn):=λx hx=>tk_to (j:=1) hg hinc (by rw[E];rfl) (hfit x hx) (hid x hx);have hall:al.foldl (stL g) []=foldP (oneK tn) (l.map (mvE tn m)) []:=by
    rw[stL_put g (oneK tn) al [] htk,hcat,I];exact apart_all (oneK tn) (mvE tn m) l (λe J=>mv_num hM (hE e J)) hw
   have hfl:(foldP (oneK tn) (l.map (mvE tn m)) []).length<=100:=by
    have h9:(foldP (oneK tn) (l.map (mvE tn m)) []).length<=l.length:=by
     have:=hXlen l;rw[I]at this;exact this
    omega
   have fin:((F.cn [(1,1,[],(0,0,QE),ByteArray.mk #[97],0,0),tn] al).bind λr77=>((F.dl r77 (foldP (oneK tn) (l.map (mvE tn m)) [],(0:Int)).1).bind λr81=>(some r81)))=some true:=by
    show((F.cn [(1,1,[],(0,0,QE),ByteArray.mk #[97],0,0),tn] al).bind _)=_;rw[<-E,Qjo g al hg hlen hky,he1,Qa,Qa,Qb (by simp),hall,Same_eq _ _ (by omega),Qa];simp
   have main:=A.lp pp (λf (xs:List En) i=>F.ao tn m (foldP (oneK tn) (l.map (mvE tn m)) [],0) pp f xs i) (λk r xs=>(F.cn [(1,1,[],(0,0,QE),ByteArray.mk #[97],0,0),tn] (xs++r.flatMap λp=>X p.2)).bind λr77=>((F.dl r77 (foldP (oneK tn) (l.map (mvE tn m)) [],(0:Int)).1).bind λr81=>(some r81))) (λk xs=>xs.length<=k*1000)
    (λf xs _=>by rw[F.ao,Qb (by omega)];simp)
    (λf xs k x hx hk hp ih=>by
     obtain⟨hx2,hxs⟩:=hpm x (Qu hx);have h7:=hXlen x.2;have h8:(migP tn m x.2)=(X x.2,0):=by rw[mg _ (stP_sub k3 hxs),I]
     rw[F.ao,Qc (by omega),A.ixn hx,Qa,mig _ (by omega),Qa,h8,Qb (by simp),A.gd1 (by show(xs.length+(X x.2).length)*40<=_;omega),A.gd1 (A.r64n (by omega)),ih _ (by rw[Qz];show xs.length+(X x.2).length<=_;omega),List.flatMap_cons,Jz]) (by omega) [] (by simp)
   refine(show F.ao tn m (foldP (oneK tn) (l.map (mvE tn m)) [],0) pp A.FU [] 0=_ from main).trans ?_;rw[X8,<-Y];exact fin
end Go.Proofs.YtligcbdjiolamaaGreatDoor
end
section
namespace Go.Z
open Go.RowKit
def OpenT (P:QR)(T:QQ)(t:Ty):Prop:=
 P.cellsOf T=t.size/\∀(H:Type) (enc:QQ×Value->H) (w:World) (base:Nat) (spare:Nat->Bool) (held:Bool) (fuel:Nat) (cs:QL) (x:DataW H×List MemPlace),
  DataW.trod enc P w base spare held fuel T cs=some x->∃y:t.den,t.rep w (nt []) cs y
section
variable {P:QR}{T e:QQ}
def ot_int {k:IntKind}(I:P.cellsOf T=1)(J:P.underlying T=some (.int k)):OpenT P T (.int k):=⟨I,λH enc w base spare held fuel cs x h=>by
 obtain⟨n,rfl,_,E⟩:=DataW.trod_int J h;refine⟨n,rfl,?_⟩;simp only[Lit.wf,Qd,Qy]at E;exact E⟩
def ot_byte (E:P.cellsOf T=1)(I:P.underlying T=some (.int .u8)):OpenT P T .byte:=⟨E,λH enc w base spare held fuel cs x h=>by
 obtain⟨n,rfl,_,J⟩:=DataW.trod_int I h;simp[Lit.wf,IntKind.min,IntKind.max,IntKind.signed,IntKind.bits]at J;exact⟨UInt8.ofNat n.toNat,Wq (λz=>[Value.int .u8 z]) (u8_of (by omega))⟩⟩
def ot_str (E:P.cellsOf T=1)(I:P.underlying T=some .string):OpenT P T .str:=⟨E,λH enc w base spare held fuel cs x h=>by
 obtain⟨s,rfl,_,J⟩:=DataW.trod_string I h;exact⟨s,rfl,J⟩⟩
def OpenPs (P:QR):List (QQ×Nat)->Nat->Ty->Prop
 | [],_,_=>False
 | [(T,o')],o,t=>o'=o/\OpenT P T t
 |(T,o')::p::ps,o,.pair a b=>o'=o/\OpenT P T a/\OpenPs P (p::ps) (o+a.size) b
 |_::_::_,_,_=>False
def open_ps {H:Type}{enc:QQ×Value->H}{w:World}{base:Nat}{spare:Nat->Bool}{held:Bool}{fuel:Nat}{cs:QL}:
  ∀(ps:List (QQ×Nat)) (o:Nat) (t:Ty),OpenPs P ps o t->(∀p∈ps,∃x,DataW.trod enc P w base spare held fuel p.1 ((cs.drop p.2).take (P.cellsOf p.1))=some x)->∃y:t.den,t.rep w (nt []) ((cs.drop o).take t.size) y
 | [],_,_,h,_=>h.elim
 | [(T,o')],o,t,h,hx=>by
  obtain⟨rfl,⟨E,I⟩⟩:=h;obtain⟨x,hx⟩:=hx (T,o') (Qq.2 rfl);rw[<-E];exact I _ _ _ _ _ _ _ _ _ hx
 |(T,o')::p::ps,o,.pair a b,h,hx=>by
  obtain⟨rfl,⟨E,I⟩,W⟩:=h;obtain⟨x,h1⟩:=hx (T,o') (Qh ..);obtain⟨ya,J⟩:=I _ _ _ _ _ _ _ _ _ h1;obtain⟨yb,N⟩:=open_ps (p::ps) _ b W λq hq=>hx q (Qf _ hq);refine⟨(ya,yb),_,_,?_,J,N⟩;show(cs.drop o').take (a.size+b.size)=_;rw[E,List.take_add,Yq]
 |_::_::_,_,.int _,h,_=>h.elim
 |_::_::_,_,.byte,h,_=>h.elim
 |_::_::_,_,.bool,h,_=>h.elim
 |_::_::_,_,.str,h,_=>h.elim
 |_::_::_,_,.slice _,h,_=>h.elim
def ot_struct {fs:List Field}{t:Ty}(N:P.cellsOf T=t.size)(W:P.underlying T=some (.struct fs.toArray))(h:OpenPs P (fs.map λf=>(f.type,f.offset)) 0 t):OpenT P T t:=⟨N,λH enc w base spare held fuel cs x hx=>by
 obtain⟨xs,n,_,_,hl,Y,hf⟩:=DataW.trod_struct W hx;have E:cs=(cs.drop 0).take t.size:=by rw[X5,Xd (by omega)]
 rw[E];refine open_ps (fuel:=n) (enc:=enc) (base:=base) (spare:=spare) (held:=held) _ 0 t h λp hp=>?_;obtain⟨f,I,rfl⟩:=W5.1 hp;obtain⟨i,J,he⟩:=Yn I;have h1:=hf i f (by rw[Wv,Qj J,he]);rw[h1,Qj (by rw[Y];simpa using J)];exact⟨_,rfl⟩⟩
def rows_of {t:Ty}{w:World}{g:Addr}: ∀(n:Nat),(∀i,i<n->∃(cs:QL) (y:t.den),cs.length=t.size/\(∀j u,cs[j]?=some u->w.cell? (g.add (i*t.size+j))=some u)/\t.rep w (nt []) cs y)->
  ∃(cells:QL) (ys:List t.den),ys.length=n/\cells.length=n*t.size/\(∀j u,cells[j]?=some u->w.cell? (g.add j)=some u)/\∀(i:Nat) (y:t.den),ys[i]?=some y->t.rep w (nt []) ((cells.drop (i*t.size)).take t.size) y
 |0,_=>⟨[],[],rfl,by simp,by simp,by simp⟩
 |n+1,h=>by
  obtain⟨cells,ys,h1,h2,J,N⟩:=rows_of n λi E=>h i (by omega);obtain⟨cs,y,c1,c2,c3⟩:=h n (by omega);refine⟨cells++cs,ys++[y],by simp[h1],by rw[Qz,h2,c1,Vf],λj u H=>?_,?_⟩;by_cases I:j<cells.length;rw[Wn I]at H;exact J j u H;rw[W9 (by omega)]at H;have:=c2 _ u H;rwa[h2,show n*t.size+(j-n*t.size)=j by omega]at this;refine Qgn (xs:=ys) (ys:=[y]) (by rw[h2,h1]) N λi y' E=>?_;have:i=0:=by have:=(Qe.1 E).1;simp at this;omega
  subst this;simp at E;subst E;rw[Jg,X5,Xd (by omega)];exact c3
def ot_slice {t:Ty}(hc:P.cellsOf T=1)(ht:P.underlying T=some (.slice e))(h:OpenT P e t):OpenT P T (.slice t):=⟨hc,λH enc w base spare held fuel cs x hx=>by
 rcases DataW.trod_slice ht hx with⟨rfl,_⟩|⟨ad,len,cap,elems,rest,n,_,rfl,_,hb,hl,W,hlen,hel,_,_⟩
 exact⟨[],Qhl _⟩;have each: ∀i,i<len->∃(cs:QL) (y:t.den),cs.length=t.size/\(∀j u,cs[j]?=some u->w.cell? (ad.add (i*t.size+j))=some u)/\t.rep w (nt []) cs y:=λi hi=>by
  have h1:=hel i hi;rw[Qj (by omega),Jt]at h1;obtain⟨cs',h2,I⟩:=h1;obtain⟨_,J,Y⟩:=World.cells?_some h2;obtain⟨y,hy⟩:=h.2 _ _ _ _ _ _ _ _ _ I;rw[h.1]at J Y;refine⟨cs',y,J,λj u N=>?_,hy⟩;have E:=(Qe.1 N).1;have:=Y j (by omega);rw[add_add]at this;rw[this,N]
 obtain⟨cells,ys,h1,h2,I,J⟩:=rows_of len each;by_cases hz:len=0;subst hz;have:ys=[]:=Wz h1;subst this;exact⟨[],some ad,cap,[],rfl,by simp,W,by simp,.inl rfl,by simp⟩;have hp:=Qax t;have E:0<cells.length:=by rw[h2];exact Nat.mul_pos (by omega) hp
 have h0:=I 0 _ (Qj E);have hspot:=World.cell?_spot h0;obtain⟨b,off,spot⟩:=ad;simp only[Addr.add]at hspot;subst hspot;refine⟨ys,some ⟨b,off,none⟩,cap,cells,by rw[h1],by omega,W,by rw[h1];exact h2,.inr ⟨b,off,rfl,by simp[nt],λj u N=>?_⟩,J⟩;have:=I j u N;rwa[Wf]at this⟩
end
end Go.Z
end
section
namespace Go.Proofs.YtligcbdjiolamaaGreatDoor.foldApartDone
open Go.ChangeShapes Go.WideShapes Go.ChangeAt Go.RowKit
def own:ownKnob Tryz.prog.godebug=none:=by kernel_rfl
def laidOut:laidOutB Tryz.prog=true:=by kernel_rfl
def ot3:Z.OpenT Tryz.prog 3 A.ti:=Z.ot_int (by kernel_rfl) Tryz.underlying3
def ot45:Z.OpenT Tryz.prog 45 A.TI:=Z.ot_slice (by kernel_rfl) Tryz.underlying45 ot3
def ot2:Z.OpenT Tryz.prog 2 A.ti:=Z.ot_int (by kernel_rfl) Tryz.underlying2
def ot9:Z.OpenT Tryz.prog 9 Z.Ty.str:=Z.ot_str (by kernel_rfl) Tryz.underlying9
def ot47:Z.OpenT Tryz.prog 47 T46:=Z.ot_struct (by kernel_rfl) Tryz.underlying47 ⟨rfl,ot3,rfl,ot2,rfl,ot9⟩
def ot49:Z.OpenT Tryz.prog 49 T48:=Z.ot_struct (by kernel_rfl) Tryz.underlying49 ⟨rfl,ot3,rfl,ot3,rfl,ot45,rfl,ot47,rfl,ot9,rfl,ot2,rfl,ot3⟩
def ot51:Z.OpenT Tryz.prog 51 T50:=Z.ot_struct (by kernel_rfl) Tryz.underlying51 ⟨rfl,ot3,rfl,ot3,rfl,ot3,rfl,ot2,rfl,ot47⟩
def ot5:Z.OpenT Tryz.prog 5 Z.Ty.byte:=Z.ot_byte (by kernel_rfl) Tryz.underlying5
def ot59:Z.OpenT Tryz.prog 59 T58:=Z.ot_struct (by kernel_rfl) Tryz.underlying59 ⟨rfl,ot3,rfl,ot2,rfl,ot9,rfl,ot2⟩
def ot25:Z.OpenT Tryz.prog 25 (Z.Ty.slice T58):=Z.ot_slice (by kernel_rfl) Tryz.underlying25 ot59
set_option maxRecDepth 100000 in
def laid_met (os:Os)(args:Array Value):laidMetH Tryz.prog Rows.foldApartRow.laid (({World.holding Tryz.prog os ⟨#[],#[],[]⟩with heap:=((World.holding Tryz.prog os ⟨#[],#[],[]⟩).heap.modify 0 (A.putCells A.tabF)).modify 1 (A.putCells A.tabA)}:World).forCall (λ_ _=>0) ⟨#[],args,[]⟩).memory:=by
 rw[MakeChecks.laidMetH_plain _ _ _ (by kernel_rfl)];exact(LaidIn.of_run (l:=Rows.foldApartRow.laid) [1,0] 8 (by kernel_rfl) (by kernel_rfl) (by kernel_rfl) (by kernel_rfl)).met
def of_laid {W:World}(h:laidMetH Tryz.prog Rows.foldApartRow.laid W):Lib.Utf8Tabs 0 1 W:=by
 rw[MakeChecks.laidMetH_plain _ _ _ (by kernel_rfl)]at h;have h1:=Lib.laidMet.reads h (.tail _ (.head _));rw[show Rows.laid_unicode_utf8_first=Lib.firstData from Pinned.utf8First_eq]at h1;have h2:=Lib.laidMet.reads h (.head _);rw[show(Rows.laid_unicode_utf8_acceptRanges:DataW Unit)=Lib.acceptData by kernel_rfl]at h2;exact utf8Tabs_of_readsT (U8Types.of196 Tryz.laysValid) ⟨by kernel_rfl,by kernel_rfl,by kernel_rfl,by kernel_rfl,by kernel_rfl,by kernel_rfl,by kernel_rfl⟩ h1 h2
set_option maxHeartbeats 1000000 in
set_option maxRecDepth 100000 in
def lifted (os:Os)(started:os.Started)(H:Type)(enc:QQ×Value->H):
  ReturnsInHanded {} Tryz.checked os 5 .any (λw args=>(Rows.foldApartSpec.pre enc Tryz.prog Tryz.f5 [] false w args/\laidMetH Tryz.prog Rows.foldApartRow.laid w)/\sizedMet enc Tryz.prog Tryz.f5 (OpenSpec.ofChange Rows.foldApartSpec) false w args) (Rows.foldApartSpec.post enc Tryz.prog Tryz.f5 false true false false):=by
 refine returnsInHanded_of_change_and (C:=Tryz.checked) (X:=λw _=>laidMetH Tryz.prog Rows.foldApartRow.laid w) (λ_ _ _ hh h=>h.of_heap hh) own started (by kernel_rfl) Tryz.func5
  (ChangeSpec.witness_shaped (enc:=enc) (C:=Tryz.checked) (os:=os) (X:=λw _=>laidMetH Tryz.prog Rows.foldApartRow.laid w) false ({World.holding Tryz.prog os ⟨#[],#[],[]⟩with heap:=((World.holding Tryz.prog os ⟨#[],#[],[]⟩).heap.modify 0 (A.putCells A.tabF)).modify 1 (A.putCells A.tabA)}) #[.agg #[A.i 0,A.i 0,QA,A.i 0,A.i 0,.string (QE),.string (QE),A.i 0,A.i 0],.agg #[A.i 0,A.i 0,A.i 0,A.i 0,A.i 0,A.i 0,.string (QE)],.int .u8 0,QA] 16 rfl (World.shaped_of_RefB (by kernel_rfl) (by kernel_rfl)) (by kernel_rfl) (by kernel_rfl) (by kernel_rfl) (laid_met os _)) ?_
 intro W base args ds gs before hval0 hW hcnd hsz0 hL _;have hval: ∀(j:Nat) t v,Tryz.f5.params[j]?=some t->args[j]?=some v->Value.okWide Tryz.prog W .any base t v:=hval0;have hW':=hW;obtain⟨p,q,hA0,hV,rfl,hfz,hnd⟩:=hW;have hA:DataW.TrodAll enc Tryz.prog W 0 (λ_=>true) true Tryz.f5.params.toList args.toList ds p:=hA0;rw[Tryz.params5]at hA hval;obtain⟨v0,vs0,d0,ds0,p0,q0,hargs,rfl,rfl,h0,r0⟩:=trodAll_cons hA;obtain⟨v1,vs1,d1,ds1,p1,q1,rfl,rfl,rfl,h1,r1⟩:=trodAll_cons r0;obtain⟨v2,vs2,d2,ds2,p2,q2,rfl,rfl,rfl,h2,r2⟩:=trodAll_cons r1;obtain⟨v3,vs3,d3,ds3,p3,q3,rfl,rfl,rfl,h3,r3⟩:=trodAll_cons r2;obtain⟨rfl,rfl,rfl⟩:=trodAll_nil r3;obtain rfl:args=#[v0,v1,v2,v3]:=by cases args;simp_all
 obtain⟨rfl,rfl⟩:=trodVars_none hV;have k0:=h0;have lt0: ∀x∈p0,x.block<W.heap.size:=by obtain⟨m,hm⟩:=k0;exact DataW.trod_lt m _ _ _ hm
 obtain⟨fu0,hf0⟩:=h0;obtain⟨E,N⟩:=ot49.2 _ _ _ _ _ _ _ _ _ hf0;obtain⟨cs0,rfl,_⟩:=okWide_struct Tryz.underlying49 (hval 0 49 v0 rfl rfl);replace N:T48.rep W (Z.nt []) cs0.toList E:=N;have hok0:=Z.rep_ok _ N;obtain⟨ca1,cb2,he3,hr4,hr5⟩:=N;have he6:=hr4.1;obtain⟨ca7,cb8,he9,hr10,hr11⟩:=hr5;have he12:=hr10.1;obtain⟨ca13,cb14,he15,hr16,hr17⟩:=hr11;obtain⟨A18,c19,he20,hn21,hn22⟩:=Z.rep_slice hr16;rw[he20]at hr16;have hle_A18:=Z.rep_le hr16;obtain⟨ca23,cb24,he25,hr26,hr27⟩:=hr17;obtain⟨ca28,cb29,he30,hr31,hr32⟩:=hr26;have he33:=hr31.1;obtain⟨ca34,cb35,he36,hr37,hr38⟩:=hr32;have he39:=hr37.1;have he40:=hr38.1;obtain⟨ca41,cb42,he43,hr44,hr45⟩:=hr27;have he46:=hr44.1;obtain⟨ca47,cb48,he49,hr50,hr51⟩:=hr45;have he52:=hr50.1;have he53:=hr51.1;have he0:cs0.toList=(A.rai E A18 c19):=by simp only[he3,he6,he9,he12,he15,he20,he25,he30,he33,he36,he39,he40,he43,he46,he49,he52,he53,Yc,X8]
 obtain rfl:cs0=#[A.i E.1,A.i E.2.1,.slice A18 E.2.2.1.length c19,A.i E.2.2.2.1.1,A.i E.2.2.2.1.2.1,.string E.2.2.2.1.2.2,.string E.2.2.2.2.1,A.i E.2.2.2.2.2.1,A.i E.2.2.2.2.2.2]:=by rw[<-Q9 (xs:=cs0),he0]
 have k1:=h1;have lt1: ∀x∈p1,x.block<W.heap.size:=by obtain⟨m,hm⟩:=k1;exact DataW.trod_lt m _ _ _ hm
 obtain⟨fu1,hf1⟩:=h1;obtain⟨I,Y⟩:=ot51.2 _ _ _ _ _ _ _ _ _ hf1;obtain⟨cs1,rfl,_⟩:=okWide_struct Tryz.underlying51 (hval 1 51 v1 rfl rfl);replace Y:T50.rep W (Z.nt []) cs1.toList I:=Y;have hok1:=Z.rep_ok _ Y;obtain⟨ca54,cb55,he56,hr57,hr58⟩:=Y;have he59:=hr57.1;obtain⟨ca60,cb61,he62,hr63,hr64⟩:=hr58;have he65:=hr63.1;obtain⟨ca66,cb67,he68,hr69,hr70⟩:=hr64;have he71:=hr69.1;obtain⟨ca72,cb73,he74,hr75,hr76⟩:=hr70;have he77:=hr75.1;obtain⟨ca78,cb79,he80,hr81,hr82⟩:=hr76;have he83:=hr81.1;obtain⟨ca84,cb85,he86,hr87,hr88⟩:=hr82;have he89:=hr87.1;have he90:=hr88.1;have he1:cs1.toList=(A.rah I):=by simp only[he56,he59,he62,he65,he68,he71,he74,he77,he80,he83,he86,he89,he90,Yc,X8]
 obtain rfl:cs1=#[A.i I.1,A.i I.2.1,A.i I.2.2.1,A.i I.2.2.2.1,A.i I.2.2.2.2.1,A.i I.2.2.2.2.2.1,.string I.2.2.2.2.2.2]:=by rw[<-Q9 (xs:=cs1),he1]
 have k2:=h2;have lt2: ∀x∈p2,x.block<W.heap.size:=by obtain⟨m,hm⟩:=k2;exact DataW.trod_lt m _ _ _ hm
 obtain⟨fu2,hf2⟩:=h2;obtain⟨x2,hx2⟩:=ot5.2 _ _ _ _ _ _ _ _ _ hf2;obtain⟨u2,rfl⟩:=okWide_int Tryz.underlying5 (hval 2 5 v2 rfl rfl);have he2:=hx2;replace he2:u2=(x2.toNat:Int):=by simpa[Value.cells,Z.Ty.rep] using he2
 subst he2;have k3:=h3;have lt3: ∀x∈p3,x.block<W.heap.size:=by obtain⟨m,hm⟩:=k3;exact DataW.trod_lt m _ _ _ hm
 obtain⟨fu3,hf3⟩:=h3;obtain⟨x3,J⟩:=ot25.2 _ _ _ _ _ _ _ _ _ hf3;obtain⟨a3,n3,c3,rfl⟩:=okWide_slice Tryz.underlying25 (hval 3 25 v3 rfl rfl);replace J:(Z.Ty.slice T58).rep W (Z.nt []) [.slice a3 n3 c3] x3:=J;have hn3:=(Z.rep_slice_len J).1;subst hn3;clear hA0 hval0;have htab:=of_laid hL;have hF:F.cw E I x2 x3=some true:=foldApart_plain E I x2 x3 hok0 hok1 trivial (Z.rep_ok _ J);have hct:=o_a4 A18 a3 c19 c3 E I x2 x3 hok0.1 hok0.2.1 hok0.2.2.2.1.1 hok0.2.2.2.1.2.1 hok0.2.2.2.1.2.2 hok0.2.2.2.2.1 hok0.2.2.2.2.2.1 hok0.2.2.2.2.2.2 hok1.1 hok1.2.1 hok1.2.2.1 hok1.2.2.2.1 hok1.2.2.2.2.1 hok1.2.2.2.2.2.1 hok1.2.2.2.2.2.2 true hF;refine(hct W (λ_=>True) (A.Hp.start ⟨A.Hall.sh hr16,A.Hall.sh J,A.Hall.tabs htab⟩)).mono ?_;rintro e W' ⟨v,H',rfl,⟨rfl,rfl⟩,hh⟩;have bel:=hh.ch.below;exact⟨_,rfl,_,_,_,[],_,[],hW',trodAll_mk1 (shut_bool Tryz.underlying4 _),(trodAll_cons_mk (Below.trod laidOut (by kernel_rfl) (Q7 (by kernel_rfl)) k0 bel lt0) (trodAll_cons_mk (Below.trod laidOut (by kernel_rfl) (Q7 (by kernel_rfl)) k1 bel lt1) (trodAll_cons_mk (Below.trod laidOut (by kernel_rfl) (Q7 (by kernel_rfl)) k2 bel lt2) (trodAll_cons_mk (Below.trod laidOut (by kernel_rfl) (Q7 (by kernel_rfl)) k3 bel lt3) trodAll_mk0)))),rfl,bel.frame _,λh=>by cases h⟩
def joinedF:joinedFacts Tryz.prog 5 Tryz.f5 Rows.foldApartSpec Rows.foldApartRow=true:=by kernel_rfl
def over:Rows.foldApartRow.holds Tryz.pinned (OpenSpec.ofChange Rows.foldApartSpec):=
 OpenClaim.holds_of_wide 5 Tryz.f5 rfl rfl rfl rfl rfl rfl rfl ⟨rfl,rfl,rfl,rfl,rfl⟩ rfl rfl rfl rfl rfl (by kernel_rfl) Tryz.func5 joinedF
  (Q7 (by kernel_rfl)) (by unfold Func.isWrapper;first|(rw[Qc (by decide+kernel)];kernel_rfl)|(rw[Qb (by decide+kernel)];exact⟨rfl,rfl⟩))
  (λos started H enc _=>lifted os started H enc)
def proved:Rows.FoldApartCardSaid:=
 Claim7.holds_tied_plain_at .later [] [.data,.pinned] true (true,"cb5ed361193c288ed44bf3cdca77378c696ff3895992b008aebb085afb4dbe0f") true
  over (λ_ h=>by cases h) (by kernel_rfl) (λ_ h=>by cases h) foldApart_row_tie rfl ⟨rfl,rfl⟩ (by kernel_rfl) rfl
  (λf fn I E=>by
   obtain rfl:f=5:=Xg ((show Tryz.prog.funcNamed Rows.foldApartRow.func=some 5 by kernel_rfl).symm.trans I) |>.symm;obtain rfl:fn=Tryz.f5:=(Xg (Tryz.func5.symm.trans E)).symm;exact⟨by kernel_rfl,λj t H=>by
    rw[Tryz.params5]at H;have J:t∈[49,51,5,25]:=by simpa using Array.mem_of_getElem? H
    have hall:([49,51,5,25].all λu=> !Tryz.prog.wantsStandIn u)=true:=by kernel_rfl
    exact(show Tryz.prog.wantsStandIn t=false by simpa using Q5.1 hall t J)⟩)
  (by kernel_rfl)
#print axioms proved
end Go.Proofs.YtligcbdjiolamaaGreatDoor.foldApartDone
end
