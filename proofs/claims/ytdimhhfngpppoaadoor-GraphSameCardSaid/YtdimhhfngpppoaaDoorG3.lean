/- The law 'GraphSame' as it is given: whatever the input, the call returns true, and each argument reads behind it as it read before. No condition but that utf8's two tables hold what the library's text lays, which the card ties. -/
import Derived.Test.YtdimhhfngpppoaaDoorG2
import Derived.Test.YtdimhhfngpppoaaDoorG0
import Derived.Test.YtdimhhfngpppoaaDoorG1
import Derived.OpenShut
import Derived.ShutString
import Derived.ChangeOld
import Derived.ChangeArms
import Derived.DataReads
import Derived.Test.YtdimhhfngpppoaaDoorRows
import Derived.Test.YtdimhhfngpppoaaDoorTie
import Derived.Test.YtdimhhfngpppoaaDoorCards
import Derived.WalkKit
import Derived.ProofKit
import Derived.Below
import Derived.LaidMore
import Derived.Stop.Joined
import Derived.SevenTiedAt
import Derived.Lib.LaidIn
import Derived.Lib.LaidU8T
import Derived.PinnedBridge
import Derived.SizedLaws
set_option linter.unusedVariables false
set_option linter.unusedSimpArgs false
set_option linter.unusedSectionVars false
set_option maxRecDepth 20000
set_option maxHeartbeats 8000000
set_option synthInstance.maxSize 1000000
set_option synthInstance.maxHeartbeats 400000
section
namespace Go.A
open Go.RowKit Go.Z
def In1.self (t:Ty):In1 (.slice t) t where
 get x:=x
 set _ ys:=ys
 pos:=0
 hlt:=by show 0<1;omega
 hcl _ _ _ _:=rfl
 hgs _ _:=rfl
 hss _ _ _:=rfl
 hsg _:=rfl
 hrep _ _ _ _ _ _ _ h:=h
theorem Qdh {a b:Ty}(h:lv a=1)(x:(Ty.pair a b).den)(p:Option Addr×Nat):cl (.pair a b) x [p]=cl a x.1 [p]++cl b x.2 []:=by
 simp only[cl,h,List.take_succ_cons,List.take_zero,List.drop_succ_cons,Wy]
theorem Qck {a b:Ty}(h:lv a=0)(x:(Ty.pair a b).den)(ps:Lf):cl (.pair a b) x ps=cl a x.1 []++cl b x.2 ps:=by
 simp only[cl,h,List.take_zero,Wy]
def In1.left {a t:Ty}(b:Ty)(I:In1 a t)(h:lv a=1):In1 (.pair a b) t where
 get x:=I.get x.1
 set x ys:=(I.set x.1 ys,x.2)
 pos:=I.pos
 hlt:=by have:=I.hlt;show I.pos<a.size+b.size;omega
 hcl x ys p q:=by
  rw[Qdh h,Qdh h]
  show cl a (I.set x.1 ys) [q]++cl b x.2 []=_
  rw[I.hcl x.1 ys p q,List.set_append_left _ _ (by rw[Qbc a x.1 [p] (by simp[h])];exact I.hlt)]
 hgs x ys:=I.hgs x.1 ys
 hss x c d:=by show(I.set (I.set x.1 c) d,x.2)=_;rw[I.hss]
 hsg x:=by show(I.set x.1 (I.get x.1),x.2)=x;rw[I.hsg]
 hrep w F x ys p q h1 h2:=by
  obtain⟨ca,cb,h3,h4,h5⟩:=h1
  rw[Qdh h]at h3 ⊢
  have hl:(cl a x.1 [p]).length=ca.length:=by rw[Qbc a x.1 [p] (by simp[h]),Qbs a h4]
  obtain⟨e1,e2⟩:=List.append_inj h3 hl
  rw[←e1]at h4;rw[←e2]at h5
  exact⟨_,_,rfl,I.hrep w F x.1 ys p q h4 h2,h5⟩
def In1.right {b t:Ty}(a:Ty)(I:In1 b t)(h:lv a=0):In1 (.pair a b) t where
 get x:=I.get x.2
 set x ys:=(x.1,I.set x.2 ys)
 pos:=a.size+I.pos
 hlt:=by have:=I.hlt;show a.size+I.pos<a.size+b.size;omega
 hcl x ys p q:=by
  rw[Qck h,Qck h]
  show cl a x.1 []++cl b (I.set x.2 ys) [q]=_
  have hl:(cl a x.1 []).length=a.size:=Qbc a x.1 [] (by simp[h])
  rw[I.hcl x.2 ys p q,List.set_append_right _ _ (by omega),hl,Nat.add_sub_cancel_left]
 hgs x ys:=I.hgs x.2 ys
 hss x c d:=by show(x.1,I.set (I.set x.2 c) d)=_;rw[I.hss]
 hsg x:=by show(x.1,I.set x.2 (I.get x.2))=x;rw[I.hsg]
 hrep w F x ys p q h1 h2:=by
  obtain⟨ca,cb,h3,h4,h5⟩:=h1
  rw[Qck h]at h3 ⊢
  have hl:(cl a x.1 []).length=ca.length:=by rw[Qbc a x.1 [] (by simp[h]),Qbs a h4]
  obtain⟨e1,e2⟩:=List.append_inj h3 hl
  rw[←e1]at h4;rw[←e2]at h5
  exact⟨_,_,rfl,h4,I.hrep w F x.2 ys p q h5 h2⟩
theorem r_adw {P:Program}{l:List (Nat×Value)}{a:Act}{w:World}{d:Option Tmp}{T:TypeId}{pos:String}{af:Array Edge}{gd:Option (Nat×Bool)}{n:Nat}{ds:List Deferred}{tt ty:TypeId}{x y:Operand}{k:IntKind}{i j:Int}(E:Fr a n ds l)(J:ev l x=some (.int k i):=by rfl)(L:ev l y=some (.int k j):=by rfl):
  (execOp a.eval ⟨d,.binOp .add tt x y ty,T,pos,af,gd⟩).run P w=.ok (.value (.int k (k.wrap (i+j)))) w:=r_add (E.eval J) (E.eval L)
def NP {T t:Ty}(I:In1 T t)(e ei:TypeId)(A:Option Addr)(c:Nat)(xs:List T.den)(As:Lf)(m:Int)(w:World)(F:Nat→Prop):Prop:=
 ∃cells:List Value,w.ownsRow 0 e T.size (.slice A xs.length c) xs.length cells∧(∀u∈cells,u.oneCell'=true)∧(As.length:Int)=m∧As.length≤xs.length∧(obl A++rbl As).Nodup∧(∀b,b∈obl A++rbl As→b<w.heap.size)∧
  ∀(i:Nat) (x:T.den),xs[i]?=some x→(∀a,As[i]?=some a→(cells.drop (i*T.size)).take T.size=cl T x [a]∧T.rep w F (cl T (I.set x []) [(none,0)]) (I.set x [])∧Own t ei 0 w F a.1 a.2 (I.get x))∧(As.length≤i→T.rep w F ((cells.drop (i*T.size)).take T.size) x)
section
variable {T t:Ty}{I:In1 T t}{e ei:TypeId}{A:Option Addr}{c:Nat}{xs:List T.den}{As:Lf}{m:Int}
theorem NP.to {w w':World}{F F':Nat→Prop}{S:List Nat}(O:NP I e ei A c xs As m w F)(E:Ch S w w')(L: ∀b,b∈obl A++rbl As→b∉S)(J: ∀b,F b→b<w.heap.size→b∉S∧F' b):NP I e ei A c xs As m w' F':=by
 obtain⟨cells,V,W,Y,h4,h5,h6,h7⟩:=O
 refine⟨cells,owr_to V E fun b hb'=>L b (Ql _ hb'),W,Y,h4,h5,fun b hb'=>Qj (h6 b hb') E.size,fun i x hx=>?_⟩
 obtain⟨h8,h9⟩:=h7 i x hx
 refine⟨fun a N=>?_,fun hi=>rep_to (h9 hi) E J⟩
 obtain⟨g1,g2,g3⟩:=h8 a N
 exact⟨g1,rep_to g2 E J,Own.to g3 E (fun b hb' _ _=>L b (Qo _ (Qab N hb'))) J⟩
def np (I:In1 T t)(e ei:TypeId)(A:Option Addr)(c:Nat)(xs:List T.den)(As:Lf)(m:Int):Res:=.gn (obl A++rbl As) (NP I e ei A c xs As m) NP.to
theorem rep_hole (I:In1 T t){w:World}{F:Nat→Prop}{x:T.den}{p:Option Addr×Nat}(h:T.rep w F (cl T x [p]) x):T.rep w F (cl T (I.set x []) [(none,0)]) (I.set x []):=
 I.hrep w F x [] p (none,0) h (Qcp t)
theorem lf1 {ps:Lf}(h:ps.length=1): ∃p,ps=[p]:=by
 cases ps with
 |nil=>cases h
 |cons p q=>cases q with
  |nil=>exact⟨p,rfl⟩
  |cons _ _=>simp at h
end
section
variable {C:Cx}{l:List (Nat×Value)}{H:List (Nat×Res)}{X:Act→World→Prop}{T t:Ty}{e ei:TypeId}{A:Option Addr}{c:Nat}{xs:List T.den}{As:Lf}
theorem np0 (k:Nat)(js:List Nat)(I:In1 T t)(ei:TypeId){m:Int}(h: ∀a w,Fr a C.n C.ds l→Hp C ((k,np I e ei A c xs [] m)::ded js H) w→X a w)(V:m=0:=by rfl)(E:hk H k=some (.own T e A c xs):=by rfl)(L:hng [k] js H=true:=by kernel_rfl): ∀a w,Fr a C.n C.ds l→Hp C H w→X a w:=fun a w W N=>by
 subst V
 obtain⟨cells,Y,o2,o3⟩:Own T e 0 w (Fh C H) A c xs:=N.hold k _ E
 have O: ∀b,b∈obl A++rbl []→Bk H k b:=fun b J=>⟨_,E,by simpa[rbl,Res.bl] using J⟩
 refine h a w W (Hp.dd (N.upd (S:=[]) (Ch.refl w) (by simp) (fun b J=>.inl (O b J)) (fun j L=>by cases L) fun F B h1 _ _ _ _=>?_) L)
 refine⟨cells,Y,o2,rfl,W9 _,by simpa[rbl] using Qai A,fun b J=>(N.bnd k b (O b J)).2,fun i x hx=>⟨fun a ha=>by simp at ha,fun _=>Qap (o3 i x hx) h1⟩⟩
theorem nrP (k:Nat)(js:List Nat)(I:In1 T t){m y:Int}(h: ∀a w,Fr a C.n C.ds l→Hp C ((k,nr I e ei A c xs As none)::ded js H) w→X a w)(hy: ¬y<xs.length)(V:m=y:=by rfl)(E:hk H k=some (np I e ei A c xs As m):=by rfl)(J:hng [k] js H=true:=by kernel_rfl): ∀a w,Fr a C.n C.ds l→Hp C H w→X a w:=fun a w W N=>by
 subst V
 obtain⟨cells,Y,h2,h3,h4,h5,h6,h7⟩:NP I e ei A c xs As m w (Fh C H):=N.hold k _ E
 refine h a w W (Hp.dd (N.upd (S:=[]) (Ch.refl w) (by simp) (fun b L=>.inl ⟨_,E,L⟩) (fun j J=>by cases J) fun F B O _ _ _ _=>?_) J)
 refine⟨cells,Y,h2,by omega,h5,h6,fun i x a hx ha=>?_⟩
 obtain⟨g2,g3,g4⟩:=(h7 i x hx).1 a ha
 exact⟨g2,Qap g3 O,fun _=>Own.to g4 (S:=[]) (Ch.refl w) (by simp) fun b L hl=>⟨by simp,O b L hl⟩⟩
theorem pkp (k kn:Nat)(I:In1 T t){m i:Int}{v:T.den}(O:ix xs i=some v)(h:T.ok v→tele (lv T) fun ps=>∀g,A=some ⟨g,0,none⟩→∀a w,Fr a C.n C.ds l→Hp C (hcat (kx (kn+1) (rs T v ps)) ((kn,.el (some k) g (i.toNat*T.size) (cl T v ps))::H)) w→X a w)
  (hm:m=i:=by rfl) (J:hk H k=some (np I e ei A c xs As m):=by rfl) (W:nok H kn (1+lv T)=true:=by kernel_rfl): ∀a w,Fr a C.n C.ds l→Hp C H w→X a w:=fun a w hf hh=>by
 subst hm
 obtain⟨j,rfl,hv⟩:=Qag O
 obtain⟨cells,h1,Y,h3,h4,h5,h6,h7⟩:NP I e ei A c xs As (j:Int) w (Fh C H):=hh.hold k _ J
 have E:=(Qa.1 hv).1
 have L:=(h7 j v hv).2 (by omega)
 obtain⟨ps,hl,hcl,hrs⟩:=rep_cl (B:=Bk H) T (Qae T L)
 rcases h1.2 with⟨_,h9⟩|⟨g,cap,cur,hA',_⟩
 ·omega
 injection hA' with hA' _ hc'
 subst hA';subst hc'
 have V:hk H kn=none:=Qan W (Q7 _) (by omega)
 have hel:Hp C ((kn,.el (some k) g (j*T.size) (cl T v ps))::H) w:=by
  refine hh.add V rfl (fun i O r L=>by injection O with O;subst O;rw[J]at L;injection L with L;subst L;rfl) ⟨fun q u hu=>?_,h6 g (Ql _ (by simp[obl])),⟨_,J,Ql _ (by simp[obl])⟩⟩
  rw[Addr.add_lit]
  rw[←hcl]at hu
  have hq:q<T.size:=by
   have:=(Qa.1 hu).1
   rw[Qu]at this;omega
  have:(j+1)*T.size≤xs.length*T.size:=Qp _ E
  rw[Wi,Wj]at this
  rw[h1.cellAt _ (by omega)]
  rw[Qw hq,Wh]at hu
  exact hu
 have hnn: ∀n k',nok H k' n=true→(∀i,k'≤i→i<k'+n→i≠kn)→nok ((kn,.el (some k) g (j*T.size) (cl T v ps))::H) k' n=true:=by
  intro n
  induction n with
  |zero=>intro _ _ _;rfl
  |succ n ih=>
   intro k' Y h3
   simp only[nok,Qk]at Y ⊢
   refine⟨?_,ih (k'+1) Y.2 fun i h4 h5=>h3 i (by omega) (by omega)⟩
   rw[Qaa,if_neg (Ne.symm (h3 k' (Q7 _) (by omega)))];exact Y.1
 have hn2:nok H (kn+1) (rs T v ps).length=true:=by
  rw[Qbi T v ps hl]
  rw[Xd 1]at W
  simp only[nok,Qk]at W;exact W.2
 have:=Qak (h (rep_ok T L)) ps hl g rfl a w hf
 rw[Q4]at this
 refine this (hel.adds (hnn _ _ hn2 fun j h4 _=>by omega) fun r2 h4=>?_)
 obtain⟨h5,h6,h7⟩:=hrs r2 h4
 have N: ∀i b',Bk ((kn,.el (some k) g (j*T.size) (cl T v ps))::H) i b'↔Bk H i b':=fun i b'=>by
  by_cases E:i=kn
  ·subst E
   rw[Bk.cons_eq]
   exact⟨fun h=>by simp[Res.bl]at h,fun⟨_,h8,_⟩=>by rw[V]at h8;cases h8⟩
  ·exact Bk.cons_ne E
 exact⟨h6,h7,Res.to h5 (S:=[]) (Ch.refl w) (fun b' hF _=>⟨by simp,⟨fun j E=>hF.1.1 j ((N j b').1 E),hF.1.2⟩,hF.2⟩) (fun b' hB _=>⟨by simp,fun j E=>hB j ((N j b').1 E)⟩) (fun i b' _ hB=>⟨by simp,(N i b').2 hB⟩) (by simp)⟩
theorem hp_vfn {w:World}(k:Nat)(js:List Nat)(I:In1 T t)(O:Hp C H w)(E:hk H k=some (nr I e ei A c xs As none):=by rfl)(L:hng [k] js H=true:=by kernel_rfl):Hp C ((k,.sh (.slice T) [.slice A xs.length c] xs)::ded js H) w:=by
 refine Hp.dd (O.upd (S:=[]) (Ch.refl w) (by simp) (by simp[Res.bl]) (fun j L=>by cases L) fun F B W V _ _ _=>?_) L
 have Y:NR I e ei A c xs As none w (Fh C H):=O.hold k _ E
 have N:NR I e ei A c xs As none w F:=Y.to (S:=[]) (Ch.refl w) (by simp) fun b J hl=>⟨by simp,W b J hl⟩
 exact(N.rep (fun _ h=>h) fun b J=>V b ⟨_,E,Qo _ J⟩ (by simp[Res.bl])).rep (fun _ h=>h) fun b J=>V b ⟨_,E,Ql _ J⟩ (by simp[Res.bl])
theorem nrb (k kn:Nat)(js:List Nat)(I:In1 T t){i:Int}{v:T.den}{A1:Option Addr}{J:Nat}{zs:List t.den}(hi:ix xs i=some v)(Y:As[i.toNat]?=some (A1,J))(hz:zs.length=(I.get v).length)
  (h: ∀a w,Fr a C.n C.ds l→Hp C ((kn,.dead)::(k,nr I e ei A c (xs.set i.toNat (I.set v zs)) As none)::ded js H) w→X a w)
  (L:hk H k=some (nr I e ei A c xs As (some i.toNat)):=by rfl) (hk2:hk H kn=some (.own t ei A1 J zs):=by rfl) (N:Nat.beq kn k=false:=by rfl) (hj:hng [k,kn] js H=true:=by kernel_rfl): ∀a w,Fr a C.n C.ds l→Hp C H w→X a w:=fun a w hf hh=>by
 have N:kn≠k:=fun e=>by rw[e,Wz]at N;cases N
 obtain⟨j,rfl,hv⟩:=Qag hi
 rw[Q4]at h L Y
 have hj':=(Qa.1 hv).1
 obtain⟨cells,o1,o2,o3,o4,o5,o6⟩:NR I e ei A c xs As (some j) w (Fh C H):=hh.hold k _ L
 have hO:Own t ei 0 w (Fh C H) A1 J zs:=hh.hold kn _ hk2
 have V: ∀b,b∈obl A1→Bk H kn b:=fun b E=>⟨_,hk2,E⟩
 have hlA:j<As.length:=by omega
 have hsub: ∀b,b∈rbl As→b∈rblx (some j) As∨b∈obl A1:=fun b E=>by
  have e1:As=(As.set j (none,0)).set j (A1,J):=by
   rw[List.set_set]
   refine Q2 fun q=>?_
   rw[Wp]
   split
   ·rename_i e;subst e;rw[Y]
   ·rfl
  rw[e1]at E
  exact Qbb (As:=As.set j (none,0)) (i:=j) (a:=(none,0)) (Q3 hlA) b E
 have hset:As.set j (A1,J)=As:=by
  refine Q2 fun q=>?_
  rw[Wp]
  split
  ·rename_i e;subst e;rw[Y]
  ·rfl
 have o4':=o4
 rw[Q0]at o4'
 have hdis: ∀b,Bk H k b→¬Bk H kn b:=fun b h1 h2=>N (hh.dis kn k b h2 h1)
 refine h a w hf (hp_two hh (S:=[]) (Ch.refl w) N (by simp) (fun b E=>.inl ?_) (fun b _ E=>by cases E) rfl rfl (fun F B q1 _=>?_) (fun _ _ _ _=>trivial) hj)
 ·rcases E with E|E
  ·rcases Qv.1 E with E|E
   ·exact .inl ⟨_,L,Ql _ E⟩
   ·rcases hsub b E with E|E
    ·exact .inl ⟨_,L,Qo _ E⟩
    ·exact .inr (V b E)
  ·cases E
 ·refine⟨cells,by rw[Qt];exact o1,o2,by rw[Qt,o3],?_,fun b E=>?_,fun q x u O hu=>?_⟩
  ·show(obl A++rbl As).Nodup
   rw[Q0]
   refine⟨Qai _,?_,fun x O y hy e=>?_⟩
   ·have:=rbl_set_nodup (As:=As.set j (none,0)) (i:=j) (a:=(none,0)) (a':=(A1,J)) o4'.2.1 (Q3 hlA) (Qai _) fun x O=>.inr fun hx2=>hdis x ⟨_,L,Qo _ hx2⟩ (V x O)
    rw[List.set_set,hset]at this;exact this
   ·subst e
    rcases hsub x hy with hy|hy
    ·exact o4'.2.2 x O x hy rfl
    ·exact hdis x ⟨_,L,Ql _ O⟩ (V x hy)
  ·rcases Qv.1 E with E|E
   ·exact o5 b (Ql _ E)
   ·rcases hsub b E with E|E
    ·exact o5 b (Qo _ E)
    ·exact(hh.bnd kn b (V b E)).2
  ·by_cases W:q=j
   ·subst W
    rw[Q3 hj']at O
    injection O with O
    subst O
    rw[Y]at hu
    injection hu with hu
    subst hu
    obtain⟨h7,h8,_⟩:=o6 q v _ hv Y
    have e2:=I.hcl v zs (A1,J) (A1,J)
    have e3:(cl T v [(A1,J)]).set I.pos (.slice A1 zs.length J)=cl T v [(A1,J)]:=by
     have e4:=I.hcl v (I.get v) (A1,J) (A1,J)
     rw[I.hsg]at e4
     rw[hz];exact e4.symm
    rw[e3]at e2
    rw[I.hss,I.hgs]
    exact⟨by rw[h7];exact e2.symm,Qap h8 q1,fun _=>Own.to hO (S:=[]) (Ch.refl w) (by simp) fun b E hl=>⟨by simp,q1 b E hl⟩⟩
   ·rw[We (Ne.symm W)]at O
    obtain⟨h7,h8,h9⟩:=o6 q x u O hu
    have hne2:some j≠some q:=fun e=>by injection e with e;exact W e.symm
    exact⟨h7,Qap h8 q1,fun _=>Own.to (h9 hne2) (S:=[]) (Ch.refl w) (by simp) fun b E hl=>⟨by simp,q1 b E hl⟩⟩
end
section
variable {r:Option Nat}{P:Program}{ops:Array Oper}{Q:Exit→Act→World→Prop}{rest lst:List Oper}{C:Cx}{l:List (Nat×Value)}{H:List (Nat×Res)}{d:Nat}{T0:TypeId}{pos:String}{af:Array Edge}{T t:Ty}{e ei:TypeId}{A:Option Addr}{c:Nat}{xs ys:List T.den}{As Bs:Lf}
theorem Qde (As:Lf)(a:Option Addr×Nat):rbl (As++[a])=rbl As++obl a.1:=by simp[rbl,List.flatMap_append]
theorem AL.stP (k kn:Nat)(js:List Nat)(I:In1 T t){tt:TypeId}{px py:Operand}{g n c1:Nat}{A1:Option Addr}{i m m':Int}{v:T.den}{zs:List t.den}(hi:ix xs i=some v)(hA:A=some ⟨g,0,none⟩)
  (h:AL r P ops Q rest C l ((kn,.dead)::(k,np I e ei A c (xs.set i.toNat (I.set v zs)) (As++[(A1,c1)]) m')::ded js H))
  (hlv:lv T=1:=by rfl) (hm:m=i:=by rfl) (hm':m'=i+1:=by rfl) (O:hk H k=some (np I e ei A c xs As m):=by rfl) (hk2:hk H kn=some (.own t ei A1 c1 zs):=by rfl) (V:Nat.beq kn k=false:=by rfl) (N:ev l px=some (.pointer (some ⟨g,i.toNat*T.size+I.pos,none⟩)):=by rfl) (hy:ev l py=some (.slice A1 n c1):=by rfl) (hn:n=zs.length:=by rfl) (hS:szB P tt=some 1:=by kernel_rfl)
  (hj:hng [k,kn] js H=true:=by kernel_rfl):AL r P ops Q (⟨none,.store tt px py,T0,pos,af,none⟩::rest) C l H:=fun a w hf hh=>by
 subst hn;subst hA;subst hm;subst hm'
 have V:kn≠k:=fun e=>by rw[e,Wz]at V;cases V
 obtain⟨j,rfl,hv⟩:=Qag hi
 rw[Q4]at h N
 have hj':=(Qa.1 hv).1
 obtain⟨cells,o1,o2,o3,o3',o4,o5,o6⟩:NP I e ei (some ⟨g,0,none⟩) c xs As (j:Int) w (Fh C H):=hh.hold k _ O
 have hO:Own t ei 0 w (Fh C H) A1 c1 zs:=hh.hold kn _ hk2
 have hg:Bk H k g:=⟨_,O,Ql _ (by simp[obl])⟩
 have Y: ∀b,b∈obl A1→Bk H kn b:=fun b E=>⟨_,hk2,E⟩
 have hdis: ∀b,Bk H k b→¬Bk H kn b:=fun b h1 h2=>V (hh.dis kn k b h2 h1)
 have hFA: ∀b,Fh C H b→b∉[g]:=fun b E hbA=>by rw[Qb]at hbA;subst hbA;exact E.1 k hg
 have hm:(j+1)*T.size≤xs.length*T.size:=Qp _ hj'
 rw[Wi,Wj]at hm
 have hpos:=I.hlt
 obtain⟨w',hrun,L,hsz,hrow⟩:=run_storeRaw (P:=P) (tt:=tt) (p:=j*T.size+I.pos) (v:=.slice A1 zs.length c1) o1 (by omega) (Qaf hS) rfl rfl
 have hlA:As.length=j:=by omega
 have o4':=o4
 rw[Q0]at o4'
 refine Z.skipw (w':=w') hf ?_ fun a' hf'=>h a' w' hf' (hp_two hh L V (fun b E=>.inl (by rw[Qb]at E;subst E;exact hg)) (fun b E=>.inl ?_) (fun b _ E=>by cases E) rfl rfl (fun F B q1 _=>?_) (fun _ _ _ _=>trivial) hj)
 ·simp only[execOp,hf.eval N,hf.eval hy,Sem.run_bind,hrun,Result.andThen_ok,Sem.run_pure]
 ·rcases E with E|E
  ·replace E:b∈obl (some (⟨g,0,none⟩:Addr))++rbl (As++[(A1,c1)]):=E
   rw[Qde]at E
   rcases Qv.1 E with E|E
   ·exact .inl ⟨_,O,Ql _ E⟩
   ·rcases Qv.1 E with E|E
    ·exact .inl ⟨_,O,Qo _ E⟩
    ·exact .inr (Y b E)
  ·cases E
 ·refine⟨cells.set (j*T.size+I.pos) (.slice A1 zs.length c1),by rw[Qt];exact hrow,fun u hu=>?_,by rw[Q5,Wg];omega,by rw[Q5,Wg,Qt];omega,?_,fun b E=>?_,fun q x N=>?_⟩
  ·rcases W6 hu with hu|rfl
   ·exact o2 u hu
   ·rfl
  ·rw[Qde,←Xe,Q0]
   refine⟨o4,Qai _,fun x N y hy e=>?_⟩
   subst e
   exact hdis x ⟨_,O,N⟩ (Y x hy)
  ·rw[hsz]
   rw[Qde,←Xe]at E
   rcases Qv.1 E with E|E
   ·exact o5 b E
   ·exact(hh.bnd kn b (Y b E)).2
  ·rw[Qcc hpos]
   by_cases hqj:q=j
   ·subst hqj
    rw[Q3 hj']at N
    injection N with N
    subst N
    refine⟨fun a ha=>?_,fun J=>by rw[Q5,Wg]at J;omega⟩
    rw[Qx (by omega),hlA,Nat.sub_self]at ha
    simp only[Wo,Qh]at ha
    subst ha
    have hr:=(o6 q v hv).2 (by omega)
    obtain⟨ps,J,hcl,_⟩:=rep_cl (B:=Bk H) T hr
    obtain⟨p,rfl⟩:=lf1 (J.trans hlv)
    rw[hcl]at hr
    rw[if_pos rfl,hcl,I.hss,I.hgs]
    exact⟨(I.hcl v zs p (A1,c1)).symm,rep_to (rep_hole I hr) L fun b E J=>⟨hFA b E,q1 b E J⟩,Own.to hO L (fun b E _ _ W=>by rw[Qb]at W;subst W;exact hdis b hg (Y b E)) fun b E J=>⟨hFA b E,q1 b E J⟩⟩
   ·rw[We (Ne.symm hqj)]at N
    rw[if_neg hqj]
    refine⟨fun u hu=>?_,fun J=>?_⟩
    ·have hq:q<As.length:=by
      have:=(Qa.1 hu).1
      rw[Q5,Wg]at this;omega
     rw[Qs hq]at hu
     obtain⟨h7,h8,h9⟩:=(o6 q x N).1 u hu
     exact⟨h7,rep_to h8 L fun b E J=>⟨hFA b E,q1 b E J⟩,Own.to h9 L (fun b E _ _ W=>by
      rw[Qb]at W;subst W
      exact o4'.2.2 b (by simp[obl]) b (Qab hu E) rfl) fun b E J=>⟨hFA b E,q1 b E J⟩⟩
    ·rw[Q5,Wg]at J
     exact rep_to ((o6 q x N).2 (by omega)) L fun b E J=>⟨hFA b E,q1 b E J⟩
theorem AL.stE (k:Nat)(js:List Nat)(I:In1 T t){tt:TypeId}{px py:Operand}{g o:Nat}{u:Value}{i:Int}{v:T.den}{A1:Option Addr}{c1:Nat}(y:T.den)(hi:ix xs i=some v)(ha:As[i.toNat]?=some (A1,c1))(hA:A=some ⟨g,0,none⟩)
  (hD:Dat H T (cl T (I.set y []) [(none,0)]) (I.set y [])) (h:AL r P ops Q rest C l ((k,nr I e ei A c (xs.set i.toNat y) As none)::ded js H))
  (V:hk H k=some (nr I e ei A c xs As none):=by rfl) (O:ev l px=some (.pointer (some ⟨g,i.toNat*T.size+o,none⟩)):=by rfl) (hy:ev l py=some u:=by rfl) (hg:I.get y=I.get v:=by rfl) (hcl:(cl T v [(A1,c1)]).set o u=cl T y [(A1,c1)]:=by rfl) (ho:Nat.ble (o+1) T.size=true:=by rfl)
  (hv:u.cells=[u].toArray:=by rfl) (h1:u.oneCell'=true:=by rfl) (hS:szB P tt=some 1:=by kernel_rfl) (hj:hng [k] js H=true:=by kernel_rfl):AL r P ops Q (⟨none,.store tt px py,T0,pos,af,none⟩::rest) C l H:=fun a w hf hh=>by
 subst hA
 obtain⟨j,rfl,hw⟩:=Qag hi
 rw[Q4]at h O ha
 have ho:=Qn ho
 have hj':=(Qa.1 hw).1
 obtain⟨cells,o1,o2,o3,o4,o5,o6⟩:NR I e ei (some ⟨g,0,none⟩) c xs As none w (Fh C H):=hh.hold k _ V
 have hB:Bk H k g:=⟨_,V,Ql _ (by simp[obl])⟩
 have hFA: ∀b,Fh C H b→b∉[g]:=fun b E hbA=>by rw[Qb]at hbA;subst hbA;exact E.1 k hB
 have hm:(j+1)*T.size≤xs.length*T.size:=Qp _ hj'
 rw[Wi,Wj]at hm
 obtain⟨w',hrun,J,hsz,hrow⟩:=run_storeRaw (P:=P) (tt:=tt) (p:=j*T.size+o) (v:=u) o1 (by omega) (Qaf hS) hv h1
 have o4':=o4
 rw[Q0]at o4'
 refine Z.skipw (w':=w') hf ?_ fun a' hf'=>h a' w' hf' (Hp.dd (hh.upd J (fun b E=>by rw[Qb]at E;subst E;exact hB) (fun b E=>.inl ⟨_,V,E⟩) (fun j hj=>by cases hj) fun F B q1 _ _ _ _=>?_) hj)
 ·simp only[execOp,hf.eval O,hf.eval hy,Sem.run_bind,hrun,Result.andThen_ok,Sem.run_pure]
 ·refine⟨cells.set (j*T.size+o) u,by rw[Qt];exact hrow,fun z N=>?_,by rw[Qt,o3],o4,fun b E=>by rw[hsz];exact o5 b E,fun q x z O N=>?_⟩
  ·rcases W6 N with N|rfl
   ·exact o2 z N
   ·exact h1
  ·rw[Qcc (by omega)]
   by_cases W:q=j
   ·subst W
    rw[Q3 hj']at O
    injection O with O
    subst O
    rw[ha]at N
    injection N with N
    subst N
    obtain⟨h7,h8,h9⟩:=o6 q v _ hw ha
    rw[if_pos rfl,h7]
    refine⟨hcl,rep_to (Dat.rep hh T hD) J fun b E Y=>⟨hFA b E,q1 b E Y⟩,fun hi=>?_⟩
    rw[hg]
    exact Own.to (h9 hi) J (fun b E _ _ L=>by
     rw[Qb]at L;subst L
     exact o4'.2.2 b (by simp[obl]) b (Qab ha E) rfl) fun b E Y=>⟨hFA b E,q1 b E Y⟩
   ·rw[We (Ne.symm W)]at O
    rw[if_neg W]
    obtain⟨h7,h8,h9⟩:=o6 q x z O N
    exact⟨h7,rep_to h8 J fun b E Y=>⟨hFA b E,q1 b E Y⟩,fun hi=>Own.to (h9 hi) J (fun b E _ _ L=>by
     rw[Qb]at L;subst L
     exact o4'.2.2 b (by simp[obl]) b (Qab N E) rfl) fun b E Y=>⟨hFA b E,q1 b E Y⟩⟩
end
end Go.A
end
section
namespace Go.Proofs.YtdimhhfngpppoaaDoor
open Go.RowKit
abbrev l3a:List Value:=[A.i 0,A.i 0,.slice none 0 0,A.i 0,A.i 0,.string (ByteArray.mk #[]),.string (ByteArray.mk #[]),A.i 0,A.i 0]
abbrev l3b:List Nat:=[0,1,2,3,4,5,166,206]
abbrev l3c:List Nat:=[0,1,2,3,864,865,866,867]
abbrev l3d:List Nat:=[0,1,2,3,865,867,1168,1198,1292]
abbrev l3e:List Nat:=[0,1,2,3,865,867,1168,1198,1292,1293]
abbrev l3f:List Nat:=[0,1,2,3,865,867,1168,1198]
abbrev l3g:List Nat:=[1,2,3,131,132,133,173,174]
abbrev l3h:List Value:=[.slice none 0 0]
abbrev l3i:List Nat:=[1,2,3,131,132]
abbrev l3j:List Nat:=[0,1,2,3,864,865]
variable(A0_ A1_ A2_ A5_ A7_ A12_ A13_:Option Addr)(g0_ b1_ c1_ c2_ g2_ c3_ b4_ b5_ b6_ c6_ c8_ g10_ c13_ c14_:Nat)
def F.v (a:(List Int)):Option (List Int):=A.gd ((List.length (α:=Int) []+List.length (α:=Int) a)*8≤140737488355328) (some ([]++a))
theorem o_n(f:(List Int))(r:(List Int))(a:F.v f=some r):
    A.Ct Tryd.prog 16 [.slice A0_ f.length c1_] [(0,.ln A.ti A0_ c1_ f)] [] (fun v H'=>∃(A0':Option Addr) (c1':Nat),v=.slice A0' r.length c1'∧H'=[(0,.own A.ti 3 A0' c1' r)]):=by
 refine Xs Tryd.func16 rfl Tryd.ntmps16 rfl fun s u=>?_;rw[F.v]at a;refine Xn 1 ?_;refine Xt 1 [] (Xw 3 ?_);refine Xt 2 [(4,.bool A0_.isNone)] (Xo 1 ?_);refine A.AX.cnn rfl (fun h=>?_) (fun h=>?_)
 ·refine A.nilL 0 h fun h=>?_;subst h
  replace a:some []=some r:=by simpa[A.gd,A.ix] using a
  refine Xn 1 ?_;refine Xt 1 [(2,.slice none 0 0)] (Xo 1 ?_);obtain rfl:=Xx a;refine A.nil 2 A.ti 3 ?_;exact X1 [(0,2)] ⟨none,0,rfl,rfl⟩
 refine Xn 3 ?_;refine A.AL.bs0 1 A.ti (fun w=>?_) Tryd.sizeOf3
 refine Xt 1 [(6,.slice A0_ f.length c1_)] ?_;have⟨hl4,a⟩:=Yv a;refine Yp (k:=1) [] (A.rowL (k:=0) rfl) inf3 hl4 fun o p=>?_;refine Xt 1 [(2,.slice o (([]++f).length) p)] (Xo 1 ?_);obtain rfl:=Xx a;exact X1 [(0,1)] ⟨o,p,rfl,rfl⟩
def F.l (a:(List D32)):Option (List D32):=A.gd ((List.length (α:=D32) []+List.length (α:=D32) a)*104≤140737488355328) (some ([]++a))
theorem o_j(f:(List D32))(r:(List D32))(a:F.l f=some r):
    A.Ct Tryd.prog 15 [.slice A0_ f.length c1_] [(0,.ln T32 A0_ c1_ f)] [] (fun v H'=>∃(A0':Option Addr) (c1':Nat),v=.slice A0' r.length c1'∧H'=[(0,.own T32 33 A0' c1' r)]):=by
 refine Xs Tryd.func15 rfl Tryd.ntmps15 rfl fun s u=>?_;rw[F.l]at a;refine Xn 1 ?_;refine Xt 1 [] (Xw 3 ?_);refine Xt 2 [(4,.bool A0_.isNone)] (Xo 1 ?_);refine A.AX.cnn rfl (fun h=>?_) (fun h=>?_)
 ·refine A.nilL 0 h fun h=>?_;subst h
  replace a:some []=some r:=by simpa[A.gd,A.ix] using a
  refine Xn 1 ?_;refine Xt 1 [(2,.slice none 0 0)] (Xo 1 ?_);obtain rfl:=Xx a;refine A.nil 2 T32 33 ?_;exact X1 [(0,2)] ⟨none,0,rfl,rfl⟩
 refine Xn 3 ?_;refine A.AL.bs0 1 T32 (fun w=>?_) Tryd.sizeOf33
 refine Xt 1 [(6,.slice A0_ f.length c1_)] ?_;have⟨hl4,a⟩:=Yv a;refine Yp (k:=1) [] (A.rowL (k:=0) rfl) inf33 hl4 fun o p=>?_;refine Xt 1 [(2,.slice o (([]++f).length) p)] (Xo 1 ?_);obtain rfl:=Xx a;exact X1 [(0,1)] ⟨o,p,rfl,rfl⟩
def I33:A.In1 T32 A.ti:=.right _ (.right _ (.left _ (.self _) rfl) rfl) rfl
def F.y (o:(List D32)):Nat→(List D32)→Int→Option D23
 |0,_,_=>none
 |f+1,k,a=>if a<(o.length:Int)then((A.ix k a).bind fun p=>((F.v p.2.2.1).bind fun s=>((A.ix k a).bind fun h=>(A.gd (Z.R64 (a+1)) ((F.y o f) (List.set k a.toNat (h.1,h.2.1,s,h.2.2.2.1,h.2.2.2.2.1,h.2.2.2.2.2.1,h.2.2.2.2.2.2)) (a+1))))))else(some k)
def F.aX (f:D23):Option D23:=(F.l f).bind fun a=>(F.y a A.FU a 0)
theorem o_an(x:D23)(r:D23)(h:F.aX x=some r):
    A.Ct Tryd.prog 6 [.agg #[.slice A0_ x.length c1_]] [(0,.sh (.slice T32) [.slice A0_ x.length c1_] x)] [] (fun v H'=>∃(A0':Option Addr) (c1':Nat) (As2':List (Option Addr×Nat)),v=.agg #[.slice A0' r.length c1']∧H'=[(0,A.nr I33 33 3 A0' c1' r As2' none)]):=by
 refine Xs Tryd.func6 rfl Tryd.ntmps6 rfl fun w0 F0=>?_;rw[F.aX]at h;refine Xn 1 ?_;refine X2 1 (cs:=[.slice A0_ x.length c1_]) fun W=>?_;refine Xr 2 (cs:=l3h) Tryd.zeroValue24 fun g2=>?_;refine Xw 2 ?_;refine Xq [1] [] [.n,.b 0 0] [(5,.slice A0_ x.length c1_)] ?_;refine Yo 3 [] h (o_j A0_ c1_ x) (.l 0 .nil) ?_;rintro o - h _ _ ⟨s,u,rfl,rfl⟩;refine X6 ?_;refine Xt 1 [(7,.pointer (some ⟨W,0,none⟩))] ?_;refine Ya 1 [] [.slice s o.length u] ?_;refine Xw 3 ?_;refine Xq [1] [] [.n,.b 0 0,.n,.n] [(10,A.i (o.length:Int)),(11,A.i 0)] (Xo 2 ?_);refine A.np0 3 [] I33 3 (m:=0) ?_;refine Yf [1,2,10] [1,2] (fun f Y nh=>∃(p:List D32),∃(k:Int),∃(As9:List (Option Addr×Nat)),Y=[(11,A.i k)]∧nh=[(3,A.np I33 33 3 s u p As9 k)]∧o.length=p.length∧A.h6 k∧F.y o f p k=some r) ⟨o,0,[],rfl,rfl,rfl,Xy,h⟩ ?_;rintro E _ _ ⟨p,k,As9,rfl,rfl,hn11,a6,h⟩;rcases E with _|E
 ·exact Yc h
 rw[F.y]at h;refine Xn 1 ?_;refine Xt 1 [(12,.bool (decide (k<(o.length:Int))))] (Xo 2 ?_);refine Yn h ?_ ?_<;>intro hb h
 ·refine Xn 5 ?_;refine Xt 2 [(3,A.i k)] (Xo 1 ?_);refine Yi mixed 12 13 (A.mb 13 0) ?_;refine X8 X5 [] [1,2,3] [1] [] (A.mb 13 63) 7 [(0,.n),(2,.n),(3,.n),(5,.n),(1,.b 0 0),(4,.b 0 0)] [(16,A.i k),(19,A.i k),(15,.slice s o.length u),(18,.slice s o.length u)] ?_;refine A.cst 18 (Z.slice_n (show o.length=p.length from hn11)) ?_;have⟨J,L,h⟩:=Yz h;refine A.pkp 3 131 I33 L fun a7=>?_;intro N O a8 a1;refine Yu X5 [1,2,3] l3i 6 (A.mb 13 127) rfl (fun a w hf hh=>A.r_ixo (t:=T32) L a1 hf) ?_;refine X8 X5 l3i l3i [] [131] (A.mb 13 511) 4 [(7,.n),(8,.e 0 2)] [(22,.slice N J.2.2.1.length O)] ?_;refine X0 9 ?_;refine Yo 133 [] h (o_n N O J.2.2.1) (.l 132 .nil) ?_;rintro a2 - h _ _ ⟨a3,a4,rfl,rfl⟩;refine X6 ?_;refine X4 (A.mb 13 1023) l3i ?_;refine A.cst 15 (Z.slice_n (show o.length=p.length from hn11)) ?_;have⟨z,B,h⟩:=Yz h;refine A.pkp 3 173 I33 B fun a9=>?_;intro aa ab a5 U;refine Yu X5 l3i l3g 10 (A.mb 13 2047) rfl (fun a w hf hh=>A.r_ixo (t:=T32) B U hf) ?_;refine X8 X5 l3g l3g [] [] (A.mb 13 4095) 1 [(11,.n)] [(25,.pointer (some ⟨a5,k.toNat*(T32).size+2,none⟩))] ?_;refine X0 12 ?_;refine A.AL.stP 3 133 [131,173] I33 B U ?_;refine A.AH.nm (A.mb 13 8191) ?_;refine X3 ?_;refine A.el 2 ?_;have⟨V,h⟩:=Yv h;refine Y8 2 [Z.R64 (k+1)] [(11,A.i (k+1))] V (Xp ?_);exact Yd ⟨_,Qg _,⟨(List.set p k.toNat (z.1,z.2.1,a2,z.2.2.2.1,z.2.2.2.2.1,z.2.2.2.2.2.1,z.2.2.2.2.2.2)),(k+1),(As9++[(a3,a4)]),rfl,rfl,(by rw[Qt];exact hn11),(Xv V),h⟩⟩
 refine Xn 3 ?_;refine Xq [1] [] [.b 0 0] [(27,.agg #[.slice s o.length u])] ?_;refine Ya 2 [] [.slice s o.length u] ?_;refine Xo 1 ?_;obtain rfl:=Xx h;refine A.nrP (T:=T32) 3 [] I33 (xs:=p) (y:=k) ?_ (by omega)
 exact Ys [(0,3)] (.agg #[.slice s o.length u]) (fun a w hf hh=>Yy rfl (Y5 hf rfl Tryd.isAgg24 Tryd.sizeOf24 (Yj hh 2) rfl)) (by rw[show o.length=p.length from hn11];exact⟨s,u,As9,rfl,rfl⟩)
def F.av (a:Bool):Option Bool:=some a
def F.aS (a:D32)(f:D32):Option Bool:=if(bif decide (a.1=f.1)then decide (a.2.1=f.2.1)else false)=true then((F.s a.2.2.1 f.2.2.1).bind fun h=>(if h=true then(F.av (bif bif bif decide (a.2.2.2.1=f.2.2.2.1)then decide (a.2.2.2.2.1=f.2.2.2.2.1)else false then decide (a.2.2.2.2.2.1=f.2.2.2.2.2.1)else false then decide (a.2.2.2.2.2.2=f.2.2.2.2.2.2)else false))else(F.av false)))else(F.av false)
theorem o_aq(f:D32)(h:D32)(z:A.h6 f.1)(B:A.h6 f.2.1)(E:A.h6 f.2.2.2.1.1)(J:A.h6 f.2.2.2.1.2.1)(L:f.2.2.2.1.2.2.size≤maxLen)(N:f.2.2.2.2.1.size≤maxLen)(O:A.h6 f.2.2.2.2.2.1)(U:A.h6 f.2.2.2.2.2.2)(V:A.h6 h.1)(W:A.h6 h.2.1)(Y:A.h6 h.2.2.2.1.1)(a2:A.h6 h.2.2.2.1.2.1)(a3:h.2.2.2.1.2.2.size≤maxLen)(a4:h.2.2.2.2.1.size≤maxLen)(a5:A.h6 h.2.2.2.2.2.1)(a6:A.h6 h.2.2.2.2.2.2)(r:Bool)(k:F.aS f h=some r):
    A.Ct Tryd.prog 18 [.agg #[A.i f.1,A.i f.2.1,.slice A2_ f.2.2.1.length c3_,A.i f.2.2.2.1.1,A.i f.2.2.2.1.2.1,.string f.2.2.2.1.2.2,.string f.2.2.2.2.1,A.i f.2.2.2.2.2.1,A.i f.2.2.2.2.2.2],.agg #[A.i h.1,A.i h.2.1,.slice A12_ h.2.2.1.length c13_,A.i h.2.2.2.1.1,A.i h.2.2.2.1.2.1,.string h.2.2.2.1.2.2,.string h.2.2.2.2.1,A.i h.2.2.2.2.2.1,A.i h.2.2.2.2.2.2]] [(0,.sh A.TI [.slice A2_ f.2.2.1.length c3_] f.2.2.1),(1,.sh A.TI [.slice A12_ h.2.2.1.length c13_] h.2.2.1)] [] (fun v H'=>v=.bool r∧H'=[]):=by
 refine Xs Tryd.func18 rfl Tryd.ntmps18 rfl fun w0 F0=>?_;rw[F.aS]at k;refine Xn 1 ?_;refine X2 2 (cs:=[A.i f.1,A.i f.2.1,.slice A2_ f.2.2.1.length c3_,A.i f.2.2.2.1.1,A.i f.2.2.2.1.2.1,.string f.2.2.2.1.2.2,.string f.2.2.2.2.1,A.i f.2.2.2.2.2.1,A.i f.2.2.2.2.2.2]) fun g1=>?_;refine X2 3 (cs:=[A.i h.1,A.i h.2.1,.slice A12_ h.2.2.1.length c13_,A.i h.2.2.2.1.1,A.i h.2.2.2.1.2.1,.string h.2.2.2.1.2.2,.string h.2.2.2.2.1,A.i h.2.2.2.2.2.1,A.i h.2.2.2.2.2.2]) fun g2=>?_;refine Xt 1 [] (Xo 1 ?_);refine Xz [] [] (fun p s=>∃(o:Bool),p=[(4,.bool o)]∧s=[]∧F.av o=some r) ?_ ?_
 ·refine Xn 0 ?_;refine Xq [2,3] [] [.n,.b 0 0,.n,.b 1 0,.n,.n,.sy .n,.sy (.b 0 1),.sy .n,.sy (.b 1 1),.sy .n,.pk,.n] [(17,.bool (bif decide (f.1=h.1)then decide (f.2.1=h.2.1)else false))] ?_;refine Yg (j:=17) rfl k (fun k=>?_) (fun k=>?_)
  ·refine Xq [2,3] [] [.on .n,.on (.b 0 2),.on .n,.on (.b 1 2)] [(19,.slice A2_ f.2.2.1.length c3_),(21,.slice A12_ h.2.2.1.length c13_)] ?_;refine Ye (dj:=17) rfl rfl ?_;refine Yo 4 [] k (o_h A2_ A12_ c3_ c13_ f.2.2.1 h.2.2.1) (.l 0 (.l 1 .nil)) ?_;rintro u - k _ _ ⟨rfl,rfl⟩;refine X6 ?_;refine Xt 2 [(24,.bool u)] ?_;refine Yg (j:=24) rfl k (fun k=>?_) (fun k=>?_)
   ·refine Xq [2,3] [] [.on .n,.on (.b 0 3),.on .n,.on (.b 1 3)] [(26,.agg #[A.i f.2.2.2.1.1,A.i f.2.2.2.1.2.1,.string f.2.2.2.1.2.2]),(28,.agg #[A.i h.2.2.2.1.1,A.i h.2.2.2.1.2.1,.string h.2.2.2.1.2.2])] ?_;refine Ye (dj:=24) rfl rfl ?_;refine Yr rfl (fun a w hf hh=>eqagg_eql31 (x:=f.2.2.2.1) (y:=h.2.2.2.1) (hf.eval rfl) (hf.eval rfl)) ?_;refine Xq [2,3] [] [.n,.n,.sy .n,.sy (.b 0 6),.sy .n,.sy (.b 1 6),.sy .n,.pk,.n,.sy .n,.sy (.b 0 7),.sy .n,.sy (.b 1 7),.sy .n,.pk,.n,.sy .n,.sy (.b 0 8),.sy .n,.sy (.b 1 8),.sy .n,.pk,.n] [(4,.bool (bif bif bif decide (f.2.2.2.1=h.2.2.2.1)then decide (f.2.2.2.2.1=h.2.2.2.2.1)else false then decide (f.2.2.2.2.2.1=h.2.2.2.2.2.1)else false then decide (f.2.2.2.2.2.2=h.2.2.2.2.2.2)else false))] (Xp ?_);exact Yd ⟨(bif bif bif decide (f.2.2.2.1=h.2.2.2.1)then decide (f.2.2.2.2.1=h.2.2.2.2.1)else false then decide (f.2.2.2.2.2.1=h.2.2.2.2.2.1)else false then decide (f.2.2.2.2.2.2=h.2.2.2.2.2.2)else false),rfl,rfl,k⟩
   refine Xq [] [] [.off,.off,.off,.off,.off,.n,.n,.off,.off,.off,.off,.off,.n,.n,.off,.off,.off,.off,.off,.n,.n,.off,.off,.off,.off,.off,.n,.n] [(4,.bool false)] (Xp ?_);exact Yd ⟨false,rfl,rfl,k⟩
  refine Xq [] [] [.off,.off,.off,.off,.off,.n,.n,.off,.off,.off,.off,.off,.n,.n,.off,.off,.off,.off,.off,.n,.n,.off,.off,.off,.off,.off,.n,.n,.off,.off,.off,.off,.off,.n,.n] [(4,.bool false)] (Xp ?_);exact Yd ⟨false,rfl,rfl,k⟩
 rintro _ _ ⟨o,rfl,rfl,k⟩;rw[F.av]at k;obtain rfl:=Xx k;exact X1 [] ⟨rfl,rfl⟩
def F.a (k:(List D32))(o:(List D32)):Nat→Int→Option Bool
 |0,_=>none
 |f+1,h=>if h<(k.length:Int)then((A.ix k h).bind fun p=>((A.ix o h).bind fun s=>((F.aS p s).bind fun u=>(if(!u)=true then(some false)else(A.gd (Z.R64 (h+1)) ((F.a k o f) (h+1)))))))else(some true)
def F.b (f:(List D32))(h:(List D32)):Option Bool:=if(f.length:Int)≠(h.length:Int)then(some false)else(F.a f h A.FU 0)
theorem o_b(u:(List D32))(y:(List D32))(r:Bool)(o:F.b u y=some r):
    A.Ct Tryd.prog 17 [.slice A0_ u.length c1_,.slice A2_ y.length c3_,.func (.func 18) #[] #[]] [(0,.ln T32 A0_ c1_ u),(1,.ln T32 A2_ c3_ y)] [] (fun v H'=>v=.bool r∧H'=[]):=by
 refine Xs Tryd.func17 rfl Tryd.ntmps17 rfl fun w0 F0=>?_;rw[F.b]at o;refine Xn 1 ?_;refine Xt 1 [] (Xw 3 ?_);refine Xt 5 [(14,.bool (decide ((u.length:Int)≠(y.length:Int))))] (Xo 1 ?_);refine Yn o ?_ ?_<;>intro L o
 ·refine Xn 1 ?_;refine Xt 1 [(6,.bool false)] (Xo 1 ?_);obtain rfl:=Xx o;exact X1 [] ⟨rfl,rfl⟩
 refine Xn 4 ?_;refine Xt 3 [(15,.slice A0_ u.length c1_),(16,A.i (u.length:Int)),(17,A.i 0)] (Xo 2 ?_);refine Yf [1,2,15,16] [0,1] (fun f U V=>∃(p:Int),U=[(17,A.i p)]∧V=[]∧A.h6 p∧F.a u y f p=some r) ⟨0,rfl,rfl,Xy,o⟩ ?_;rintro N _ _ ⟨p,rfl,rfl,a3,o⟩;rcases N with _|N
 ·exact Yc o
 rw[F.a]at o;refine Xn 1 ?_;refine Xt 1 [(18,.bool (decide (p<(u.length:Int))))] (Xo 2 ?_);refine Yn o ?_ ?_<;>intro L o
 ·refine Xn 5 ?_;refine Xt 1 [(19,A.i p)] ?_;have⟨h,W,o⟩:=Yz o;refine A.AL.ixl 0 94 W fun w=>?_;intro z B b9 a4;refine Xq [] [94] [.e 0 0] [(21,.agg #[A.i h.1,A.i h.2.1,.slice z h.2.2.1.length B,A.i h.2.2.2.1.1,A.i h.2.2.2.1.2.1,.string h.2.2.2.1.2.2,.string h.2.2.2.2.1,A.i h.2.2.2.2.2.1,A.i h.2.2.2.2.2.2])] ?_;refine Xr 96 (cs:=l3a) Tryd.zeroValue33 fun a5=>?_;refine Xt 1 [(7,A.i p)] ?_;refine Ya 96 [] [A.i h.1,A.i h.2.1,.slice z h.2.2.1.length B,A.i h.2.2.2.1.1,A.i h.2.2.2.1.2.1,.string h.2.2.2.1.2.2,.string h.2.2.2.2.1,A.i h.2.2.2.2.2.1,A.i h.2.2.2.2.2.2] ?_;refine Xw 2 ?_;refine Xt 2 [(22,.slice A2_ y.length c3_),(23,A.i p)] ?_;have⟨k,Y,o⟩:=Yz o;refine A.AL.ixl 1 97 Y fun x=>?_;intro E J a6 a7;refine Xq [] [97] [.e 0 0] [(25,.agg #[A.i k.1,A.i k.2.1,.slice E k.2.2.1.length J,A.i k.2.2.2.1.1,A.i k.2.2.2.1.2.1,.string k.2.2.2.1.2.2,.string k.2.2.2.2.1,A.i k.2.2.2.2.2.1,A.i k.2.2.2.2.2.2])] ?_;refine Xr 99 (cs:=l3a) Tryd.zeroValue33 fun a8=>?_;refine Ya 99 [] [A.i k.1,A.i k.2.1,.slice E k.2.2.1.length J,A.i k.2.2.2.1.1,A.i k.2.2.2.1.2.1,.string k.2.2.2.1.2.2,.string k.2.2.2.2.1,A.i k.2.2.2.2.2.1,A.i k.2.2.2.2.2.2] ?_;refine Xw 2 ?_;refine Xq [96,99] [] [.n,.b 0 0,.b 1 0] [(26,.func (.func 18) #[] #[]),(27,.agg #[A.i h.1,A.i h.2.1,.slice z h.2.2.1.length B,A.i h.2.2.2.1.1,A.i h.2.2.2.1.2.1,.string h.2.2.2.1.2.2,.string h.2.2.2.2.1,A.i h.2.2.2.2.2.1,A.i h.2.2.2.2.2.2]),(28,.agg #[A.i k.1,A.i k.2.1,.slice E k.2.2.1.length J,A.i k.2.2.2.1.1,A.i k.2.2.2.1.2.1,.string k.2.2.2.1.2.2,.string k.2.2.2.2.1,A.i k.2.2.2.2.2.1,A.i k.2.2.2.2.2.2])] ?_;refine Yo 100 [] o (o_aq z E B J h k w.1 w.2.1 w.2.2.2.1.1 w.2.2.2.1.2.1 w.2.2.2.1.2.2 w.2.2.2.2.1 w.2.2.2.2.2.1 w.2.2.2.2.2.2 x.1 x.2.1 x.2.2.2.1.1 x.2.2.2.1.2.1 x.2.2.2.1.2.2 x.2.2.2.2.1 x.2.2.2.2.2.1 x.2.2.2.2.2.2) (.s 95 (.s 98 .nil)) ?_;rintro a2 - o _ _ ⟨rfl,rfl⟩;refine X6 ?_;refine Xt 1 [(30,.bool (!a2))] (Xo 1 ?_);refine Y7 o ?_ ?_<;>intro L o
  ·refine Xn 1 ?_;refine Xt 1 [(6,.bool false)] (Xo 1 ?_);obtain rfl:=Xx o;exact X1 [] ⟨rfl,rfl⟩
  refine Xn 3 ?_;have⟨O,o⟩:=Yv o;refine Y8 2 [Z.R64 (p+1)] [(17,A.i (p+1))] O (Xp ?_);exact Yd ⟨_,Qg _,⟨(p+1),rfl,rfl,(Xv O),o⟩⟩
 refine Xn 3 ?_;refine Xt 1 [(6,.bool true)] (Xo 1 ?_);obtain rfl:=Xx o;exact X1 [] ⟨rfl,rfl⟩
def F.aT (a:D23)(f:D23):Option Bool:=(F.b a f).bind fun h=>(some h)
theorem o_t(a:D23)(f:D23)(r:Bool)(h:F.aT a f=some r):
    A.Ct Tryd.prog 7 [.agg #[.slice A0_ a.length c1_],.agg #[.slice A2_ f.length c3_]] [(0,.sh (.slice T32) [.slice A0_ a.length c1_] a),(1,.sh (.slice T32) [.slice A2_ f.length c3_] f)] [] (fun v H'=>v=.bool r∧H'=[]):=by
 refine Xs Tryd.func7 rfl Tryd.ntmps7 rfl fun o p=>?_;rw[F.aT]at h;refine Xn 1 ?_;refine X2 2 (cs:=[.slice A0_ a.length c1_]) fun s=>?_;refine X2 3 (cs:=[.slice A2_ f.length c3_]) fun u=>?_;refine Xt 1 [] (Xw 2 ?_);refine Xq [2,3] [] [.n,.b 0 0,.n,.b 1 0] [(6,.slice A0_ a.length c1_),(8,.slice A2_ f.length c3_)] ?_;refine Yo 4 [] h (o_b A0_ A2_ c1_ c3_ a f) (.l 0 (.l 1 .nil)) ?_;rintro k - h _ _ ⟨rfl,rfl⟩;refine X6 ?_;refine Xt 1 [(4,.bool k)] (Xo 1 ?_);obtain rfl:=Xx h;exact X1 [] ⟨rfl,rfl⟩
def F.az (o:Int→Option Bool)(h:Int)(k:List Int)(p:List Int):Nat→Int→Option Bool
 |0,_=>none
 |f+1,a=>if a<(k.length:Int)then((A.ix k a).bind fun s=>((A.ix p a).bind fun u=>(if s≠u then(some false)else(A.gd (Z.R64 (a+1)) ((F.az o h k p f) (a+1))))))else(A.gd (Z.R64 (h+1)) (o (h+1)))
def F.aH (a:Int→Option Bool)(f:Int)(h:List Int)(k:List Int)(o:Bool):Option Bool:=if o=true then(some false)else(F.az a f h k A.FU 0)
def F.bc (h:Int→Option Bool)(k:Int)(a:List Int)(f:List Int)(o:Int)(p:Int)(s:Int)(u:Int)(w:ByteArray)(x:ByteArray)(y:Int)(z:Int)(B:Int)(E:Int)(J:Int)(L:Int)(N:ByteArray)(O:ByteArray)(U:Int)(V:Int):Option Bool:=if(bif decide (o≠B)then true else decide (p≠E))=true then(F.aH h k a f true)else(F.aH h k a f (bif bif bif bif decide ((s,u,w)≠(J,L,N))then true else decide (x≠O)then true else decide (y≠U)then true else decide (z≠V)then true else decide ((a.length:Int)≠(f.length:Int))))
def F.r (o:D23)(p:D23):Nat→Int→Option Bool
 |0,_=>none
 |f+1,k=>if k<(o.length:Int)then((A.ix o k).bind fun a=>((A.ix p k).bind fun h=>(F.bc (F.r o p f) k a.2.2.1 h.2.2.1 a.1 a.2.1 a.2.2.2.1.1 a.2.2.2.1.2.1 a.2.2.2.1.2.2 a.2.2.2.2.1 a.2.2.2.2.2.1 a.2.2.2.2.2.2 h.1 h.2.1 h.2.2.2.1.1 h.2.2.2.1.2.1 h.2.2.2.1.2.2 h.2.2.2.2.1 h.2.2.2.2.2.1 h.2.2.2.2.2.2)))else(some true)
def F.a2 (a:D23)(f:D23):Option Bool:=if(a.length:Int)≠(f.length:Int)then(some false)else(F.r a f A.FU 0)
theorem o_p(z:D23)(B:D23)(r:Bool)(h:F.a2 z B=some r):
    A.Ct Tryd.prog 8 [.agg #[.slice A0_ z.length c1_],.agg #[.slice A2_ B.length c3_]] [(0,.sh (.slice T32) [.slice A0_ z.length c1_] z),(1,.sh (.slice T32) [.slice A2_ B.length c3_] B)] [] (fun v H'=>v=.bool r∧H'=[]):=by
 refine Xs Tryd.func8 rfl Tryd.ntmps8 rfl fun w0 F0=>?_;rw[F.a2]at h;refine Xn 1 ?_;refine X2 2 (cs:=[.slice A0_ z.length c1_]) fun g1=>?_;refine X2 3 (cs:=[.slice A2_ B.length c3_]) fun g2=>?_;refine Xt 1 [] (Xw 3 ?_);refine Xq [2,3] [] [.n,.b 0 0,.n,.n,.b 1 0,.n,.n] [(15,.bool (decide ((z.length:Int)≠(B.length:Int))))] (Xo 1 ?_);refine Yn h ?_ ?_<;>intro hb h
 ·refine Xn 1 ?_;refine Xt 1 [(4,.bool false)] (Xo 1 ?_);obtain rfl:=Xx h;exact X1 [] ⟨rfl,rfl⟩
 refine Xn 4 ?_;refine Xt 1 [(5,A.i 0)] (Xo 2 ?_);refine Yf [2,3] [0,1,2,3] (fun f nl nh=>∃(u:Int),nl=[(5,A.i u)]∧nh=[]∧A.h6 u∧F.r z B f u=some r) ⟨0,rfl,rfl,Xy,h⟩ ?_;rintro f5 _ _ ⟨u,rfl,rfl,b4,h⟩;rcases f5 with _|f5
 ·exact Yc h
 rw[F.r]at h;refine Xn 2 ?_;refine Xq [2] [] [.n,.n,.b 0 0,.n,.n] [(20,.bool (decide (u<(z.length:Int))))] (Xo 1 ?_);refine Yn h ?_ ?_<;>intro hb h
 ·refine Y6 4 ?_;refine Xz [2,3,5] [0,1,2,3] (fun nl nh=>∃(E:List Int),∃(J:List Int),∃(a9:Int),∃(aa:Int),∃(N:Int),∃(O:Int),∃(U:ByteArray),∃(a3:ByteArray),∃(a4:Int),∃(a5:Int),∃(ab:Int),∃(ac:Int),∃(V:Int),∃(W:Int),∃(Y:ByteArray),∃(a6:ByteArray),∃(a7:Int),∃(a8:Int),∃(A6:Option Addr),∃(c7:Nat),∃(A9:Option Addr),∃(ai:Nat),∃(aj:Nat),∃(ak:Nat),nl=[(6,.pointer (some ⟨aj,0,none⟩)),(7,.pointer (some ⟨ak,0,none⟩))]∧nh=[(865,.sh A.TI [.slice A6 E.length c7] E),(867,.sh A.TI [.slice A9 J.length ai] J),(1168,.blk aj 33 [A.i a9,A.i aa,.slice A6 E.length c7,A.i N,A.i O,.string U,.string a3,A.i a4,A.i a5]),(1198,.blk ak 33 [A.i ab,A.i ac,.slice A9 J.length ai,A.i V,A.i W,.string Y,.string a6,A.i a7,A.i a8])]∧A.h6 a9∧A.h6 aa∧A.h6 N∧A.h6 O∧U.size≤maxLen∧a3.size≤maxLen∧A.h6 a4∧A.h6 a5∧A.h6 ab∧A.h6 ac∧A.h6 V∧A.h6 W∧Y.size≤maxLen∧a6.size≤maxLen∧A.h6 a7∧A.h6 a8∧F.bc (F.r z B f5) u E J a9 aa N O U a3 a4 a5 ab ac V W Y a6 a7 a8=some r) ?_ ?_
  ·refine Yi mixed 13 14 (A.mb 14 0) ?_;refine X8 X5 [] [0,1,2,3] [2,3] [] (A.mb 14 231) 8 [(0,.n),(2,.n),(5,.n),(7,.n),(1,.b 0 0),(6,.b 1 0)] [(25,A.i u),(30,A.i u),(24,.slice A0_ z.length c1_),(29,.slice A2_ B.length c3_)] ?_;have⟨k,ao,h⟩:=Yz h;refine Y2 0 864 ao fun p=>?_;intro ad ae b5 b6 ay;refine Yu X5 [0,1,2,3] l3j 3 (A.mb 14 239) rfl (fun a w hf hh=>Y0 (t:=T32) ao ay hf) ?_;refine X8 X5 l3j l3j [] [864] (A.mb 14 255) 6 [(4,.e 0 0)] [(27,.agg #[A.i k.1,A.i k.2.1,.slice ad k.2.2.1.length ae,A.i k.2.2.2.1.1,A.i k.2.2.2.1.2.1,.string k.2.2.2.1.2.2,.string k.2.2.2.2.1,A.i k.2.2.2.2.2.1,A.i k.2.2.2.2.2.2])] ?_;have⟨o,ap,h⟩:=Yz h;refine Y2 1 866 ap fun s=>?_;intro ag ah b7 b9 b0;refine Yu X5 l3j l3c 8 (A.mb 14 511) rfl (fun a w hf hh=>Y0 (t:=T32) ap b0 hf) ?_;refine X8 X5 l3c l3c [] [866] (A.mb 14 1023) 4 [(9,.e 0 0)] [(32,.agg #[A.i o.1,A.i o.2.1,.slice ag o.2.2.1.length ah,A.i o.2.2.2.1.1,A.i o.2.2.2.1.2.1,.string o.2.2.2.1.2.2,.string o.2.2.2.2.1,A.i o.2.2.2.2.2.1,A.i o.2.2.2.2.2.2])] ?_;refine A.AH.two 10 11 ?_ ?_
   ·refine Xr 1168 (cs:=l3a) Tryd.zeroValue33 fun al=>?_;refine X4 (A.mb 14 2047) l3c ?_;refine X0 11 ?_;refine Xr 1198 (cs:=l3a) Tryd.zeroValue33 fun am=>?_;refine X4 (A.mb 14 4095) l3c ?_;refine X0 12 ?_;refine Ya 1168 [] [A.i k.1,A.i k.2.1,.slice ad k.2.2.1.length ae,A.i k.2.2.2.1.1,A.i k.2.2.2.1.2.1,.string k.2.2.2.1.2.2,.string k.2.2.2.2.1,A.i k.2.2.2.2.2.1,A.i k.2.2.2.2.2.2] ?_;refine X4 (A.mb 14 8191) l3c ?_;refine X0 13 ?_;refine Ya 1198 [] [A.i o.1,A.i o.2.1,.slice ag o.2.2.1.length ah,A.i o.2.2.2.1.1,A.i o.2.2.2.1.2.1,.string o.2.2.2.1.2.2,.string o.2.2.2.2.1,A.i o.2.2.2.2.2.1,A.i o.2.2.2.2.2.2] ?_;refine A.AH.nm (A.mb 14 16383) ?_;refine X3 ?_;exact Yd ⟨k.2.2.1,o.2.2.1,k.1,k.2.1,k.2.2.2.1.1,k.2.2.2.1.2.1,k.2.2.2.1.2.2,k.2.2.2.2.1,k.2.2.2.2.2.1,k.2.2.2.2.2.2,o.1,o.2.1,o.2.2.2.1.1,o.2.2.2.1.2.1,o.2.2.2.1.2.2,o.2.2.2.2.1,o.2.2.2.2.2.1,o.2.2.2.2.2.2,ad,ae,ag,ah,al,am,rfl,rfl,p.1,p.2.1,p.2.2.2.1.1,p.2.2.2.1.2.1,p.2.2.2.1.2.2,p.2.2.2.2.1,p.2.2.2.2.2.1,p.2.2.2.2.2.2,s.1,s.2.1,s.2.2.2.1.1,s.2.2.2.1.2.1,s.2.2.2.1.2.2,s.2.2.2.2.1,s.2.2.2.2.2.1,s.2.2.2.2.2.2,h⟩
   refine Xr 1198 (cs:=l3a) Tryd.zeroValue33 fun am=>?_;refine X4 (A.mb 14 3071) l3c ?_;refine X0 10 ?_;refine Xr 1168 (cs:=l3a) Tryd.zeroValue33 fun al=>?_;refine X4 (A.mb 14 4095) l3c ?_;refine X0 12 ?_;refine Ya 1168 [] [A.i k.1,A.i k.2.1,.slice ad k.2.2.1.length ae,A.i k.2.2.2.1.1,A.i k.2.2.2.1.2.1,.string k.2.2.2.1.2.2,.string k.2.2.2.2.1,A.i k.2.2.2.2.2.1,A.i k.2.2.2.2.2.2] ?_;refine X4 (A.mb 14 8191) l3c ?_;refine X0 13 ?_;refine Ya 1198 [] [A.i o.1,A.i o.2.1,.slice ag o.2.2.1.length ah,A.i o.2.2.2.1.1,A.i o.2.2.2.1.2.1,.string o.2.2.2.1.2.2,.string o.2.2.2.2.1,A.i o.2.2.2.2.2.1,A.i o.2.2.2.2.2.2] ?_;refine A.AH.nm (A.mb 14 16383) ?_;refine X3 ?_;exact Yd ⟨k.2.2.1,o.2.2.1,k.1,k.2.1,k.2.2.2.1.1,k.2.2.2.1.2.1,k.2.2.2.1.2.2,k.2.2.2.2.1,k.2.2.2.2.2.1,k.2.2.2.2.2.2,o.1,o.2.1,o.2.2.2.1.1,o.2.2.2.1.2.1,o.2.2.2.1.2.2,o.2.2.2.2.1,o.2.2.2.2.2.1,o.2.2.2.2.2.2,ad,ae,ag,ah,al,am,rfl,rfl,p.1,p.2.1,p.2.2.2.1.1,p.2.2.2.1.2.1,p.2.2.2.1.2.2,p.2.2.2.2.1,p.2.2.2.2.2.1,p.2.2.2.2.2.2,s.1,s.2.1,s.2.2.2.1.1,s.2.2.2.1.2.1,s.2.2.2.1.2.2,s.2.2.2.2.1,s.2.2.2.2.2.1,s.2.2.2.2.2.2,h⟩
  rintro _ _ ⟨E,J,a9,aa,N,O,U,a3,a4,a5,ab,ac,V,W,Y,a6,a7,a8,A6,c7,A9,ai,aj,ak,rfl,rfl,bb,bd,be,bf,bg,bh,bi,bj,bk,bl,bm,bp,bq,br,bs,bt,h⟩;rw[F.bc]at h;refine Y6 1 ?_;refine Xz [2,3,5,6,7] l3f (fun nl nh=>∃(an:Bool),nl=[(81,.bool an)]∧nh=[]∧F.aH (F.r z B f5) u E J an=some r) ?_ ?_
  ·refine Xn 0 ?_;refine Xq [1168,1198] [] [.n,.b 0 0,.n,.b 1 0,.n,.n,.sy .n,.sy (.b 0 1),.sy .n,.sy (.b 1 1),.sy .n,.pk,.n] [(45,.bool (bif decide (a9≠ab)then true else decide (aa≠ac)))] ?_;refine Yg (j:=45) rfl h (fun h=>?_) (fun h=>?_)
   ·refine Xq [] [] [.off,.off,.off,.off,.off,.n,.n,.off,.off,.off,.off,.off,.n,.n,.off,.off,.off,.off,.off,.n,.n,.off,.off,.off,.off,.off,.n,.n,.off,.off,.off,.off,.off,.off,.off,.n] [(81,.bool true)] (Xp ?_);exact Yd ⟨true,rfl,rfl,h⟩
   refine Xq [1168,1198] [] [.on .n,.on (.b 0 3),.on .n,.on (.b 1 3)] [(47,.agg #[A.i N,A.i O,.string U]),(49,.agg #[A.i V,A.i W,.string Y])] ?_;refine Ye (dj:=45) rfl rfl ?_;refine Yr rfl (fun a w hf hh=>eqagg_neq31 (x:=(N,O,U)) (y:=(V,W,Y)) (hf.eval rfl) (hf.eval rfl)) ?_;refine Xq [1168,1198] [] [.n,.n,.sy .n,.sy (.b 0 6),.sy .n,.sy (.b 1 6),.sy .n,.pk,.n,.sy .n,.sy (.b 0 7),.sy .n,.sy (.b 1 7),.sy .n,.pk,.n,.sy .n,.sy (.b 0 8),.sy .n,.sy (.b 1 8),.sy .n,.pk,.n,.sy .n,.sy (.b 0 2),.sy .n,.sy .n,.sy (.b 1 2),.sy .n,.sy .n,.pk] [(81,.bool (bif bif bif bif decide ((N,O,U)≠(V,W,Y))then true else decide (a3≠a6)then true else decide (a4≠a7)then true else decide (a5≠a8)then true else decide ((E.length:Int)≠(J.length:Int))))] (Xp ?_);exact Yd ⟨(bif bif bif bif decide ((N,O,U)≠(V,W,Y))then true else decide (a3≠a6)then true else decide (a4≠a7)then true else decide (a5≠a8)then true else decide ((E.length:Int)≠(J.length:Int))),rfl,rfl,h⟩
  rintro _ _ ⟨an,rfl,rfl,h⟩;rw[F.aH]at h;refine Y7 h ?_ ?_<;>intro hb h
  ·refine Xn 1 ?_;refine Xt 1 [(4,.bool false)] (Xo 1 ?_);obtain rfl:=Xx h;exact X1 [] ⟨rfl,rfl⟩
  refine Xn 3 ?_;refine Xt 1 [(8,A.i 0)] (Xo 2 ?_);refine Yf [2,3,5,6,7] l3f (fun f nl nh=>∃(L:Int),nl=[(8,A.i L)]∧nh=[]∧A.h6 L∧F.az (F.r z B f5) u E J f L=some r) ⟨0,rfl,rfl,Xy,h⟩ ?_;rintro aq _ _ ⟨L,rfl,rfl,bu,h⟩;rcases aq with _|aq
  ·exact Yc h
  rw[F.az]at h;refine Xn 2 ?_;refine Xq [1168] [] [.n,.n,.b 0 2,.n,.n] [(86,.bool (decide (L<(E.length:Int))))] (Xo 1 ?_);refine Yn h ?_ ?_<;>intro hb h
  ·refine Y6 5 ?_;refine Yi mixed 11 11 (A.mb 11 0) ?_;refine X8 X5 [] l3f [1168,1198] [] (A.mb 11 231) 5 [(0,.n),(2,.n),(5,.n),(7,.n),(1,.b 0 2),(6,.b 1 2)] [(91,A.i L),(96,A.i L),(90,.slice A6 E.length c7),(95,.slice A9 J.length ai)] ?_;have⟨ar,au,h⟩:=Yz h;refine Y2 865 1292 au fun bv=>?_;intro bw bx b1;refine Yu X5 l3f l3d 3 (A.mb 11 239) rfl (fun a w hf hh=>Y0 (t:=A.ti) au b1 hf) ?_;refine X8 X5 l3d l3d [] [1292] (A.mb 11 255) 3 [(4,.e 0 0)] [(93,A.i ar)] ?_;have⟨b2,av,h⟩:=Yz h;refine Y2 867 1293 av fun bz=>?_;intro c0 c1 b3;refine Yu X5 l3d l3e 8 (A.mb 11 511) rfl (fun a w hf hh=>Y0 (t:=A.ti) av b3 hf) ?_;refine X8 X5 l3e l3e [] [1293] (A.mb 11 2047) 0 [(9,.e 0 0),(10,.n)] [(99,.bool (decide (ar≠b2)))] (X3 ?_);refine A.ex 1 ?_;refine Yn h ?_ ?_<;>intro hb h
   ·refine Xn 1 ?_;refine Xt 1 [(4,.bool false)] (Xo 1 ?_);obtain rfl:=Xx h;exact X1 [] ⟨rfl,rfl⟩
   refine Xn 3 ?_;have⟨aw,h⟩:=Yv h;refine Y8 3 [Z.R64 (L+1)] [(8,A.i (L+1))] aw (Xp ?_);exact Yd ⟨_,Qg _,⟨(L+1),rfl,rfl,(Xv aw),h⟩⟩
  refine Xn 3 ?_;have⟨ax,h⟩:=Yv h;refine Y8 3 [Z.R64 (u+1)] [(5,A.i (u+1))] ax (Xp ?_);exact Yd ⟨_,Qg _,⟨(u+1),rfl,rfl,(Xv ax),h⟩⟩
 refine Xn 3 ?_;refine Xt 1 [(4,.bool true)] (Xo 1 ?_);obtain rfl:=Xx h;exact X1 [] ⟨rfl,rfl⟩
def F.al (k:D23):Nat→(List D32)→Int→Option D23
 |0,_,_=>none
 |f+1,o,h=>if h<(k.length:Int)then((A.ix k h).bind fun a=>(A.gd ((List.length (α:=Int) []+List.length (α:=Int) a.2.2.1)*8≤140737488355328) (A.gd ((List.length (α:=D32) o+List.length (α:=D32) [(a.1,a.2.1,[]++a.2.2.1,a.2.2.2.1,a.2.2.2.2.1,a.2.2.2.2.2.1,a.2.2.2.2.2.2)])*104≤140737488355328) (A.gd (Z.R64 (h+1)) ((F.al k f) (o++[(a.1,a.2.1,[]++a.2.2.1,a.2.2.2.1,a.2.2.2.2.1,a.2.2.2.2.2.1,a.2.2.2.2.2.2)]) (h+1))))))else(some o)
def F.be (a:D23):Option D23:=F.al a A.FU [] 0
theorem o_az(u:D23)(r:D23)(o:F.be u=some r):
    A.Ct Tryd.prog 9 [.agg #[.slice A0_ u.length c1_]] [(0,.sh (.slice T32) [.slice A0_ u.length c1_] u)] [] (fun v H'=>∃(A0':Option Addr) (c1':Nat),v=.agg #[.slice A0' r.length c1']∧H'=[(0,.sh (.slice T32) [.slice A0' r.length c1'] r)]):=by
 refine Xs Tryd.func9 rfl Tryd.ntmps9 rfl fun w0 F0=>?_;rw[F.be]at o;refine Xn 1 ?_;refine X2 1 (cs:=[.slice A0_ u.length c1_]) fun g1=>?_;refine Xr 2 (cs:=l3h) Tryd.zeroValue24 fun g2=>?_;refine Xw 2 ?_;refine Xr 3 (cs:=l3h) Tryd.zeroValue24 fun N=>?_;refine Xw 3 ?_;refine Xt 1 [(4,A.i 0)] (Xo 2 ?_);refine A.nil 11 T32 33 ?_;refine Yf [1,2,3] [0,1,2] (fun f Y nh=>∃(p:List D32),∃(s:Int),∃(x:Option Addr),∃(y:Nat),Y=[(4,A.i s)]∧nh=[(3,.blk N 24 [.slice x p.length y]),(11,.own T32 33 x y p)]∧A.h6 s∧F.al u f p s=some r) ⟨[],0,none,0,rfl,rfl,Xy,o⟩ ?_;rintro O _ _ ⟨p,s,x,y,rfl,rfl,a3,o⟩;rcases O with _|O
 ·exact Yc o
 rw[F.al]at o;refine Xn 2 ?_;refine Xq [1] [] [.n,.n,.b 0 0,.n,.n] [(10,.bool (decide (s<(u.length:Int))))] (Xo 1 ?_);refine Yn o ?_ ?_<;>intro hb o
 ·refine Xn 5 ?_;refine Xq [1] [] [.n,.b 0 0,.n] [(14,.slice A0_ u.length c1_),(15,A.i s)] ?_;have⟨h,a1,o⟩:=Yz o;refine Yh 0 22 a1 fun z=>?_;intro J L a4 a5;refine Xq [] [22] [.e 0 0] [(17,.agg #[A.i h.1,A.i h.2.1,.slice J h.2.2.1.length L,A.i h.2.2.2.1.1,A.i h.2.2.2.1.2.1,.string h.2.2.2.1.2.2,.string h.2.2.2.2.1,A.i h.2.2.2.2.2.1,A.i h.2.2.2.2.2.2])] ?_;refine Xr 24 (cs:=l3a) Tryd.zeroValue33 fun a2=>?_;refine Ya 24 [] [A.i h.1,A.i h.2.1,.slice J h.2.2.1.length L,A.i h.2.2.2.1.1,A.i h.2.2.2.1.2.1,.string h.2.2.2.1.2.2,.string h.2.2.2.2.1,A.i h.2.2.2.2.2.1,A.i h.2.2.2.2.2.2] ?_;refine Xw 2 ?_;refine Xq [24] [] [.n,.b 0 2] [(19,.slice J h.2.2.1.length L)] ?_;refine A.nil 25 A.ti 3 ?_;have⟨hl20,o⟩:=Yv o;refine Yp (k:=25) [] (A.rowS (k:=23) rfl) inf3 hl20 fun B E=>?_;refine Xt 1 [(21,.pointer (some ⟨a2,2,none⟩))] ?_;refine A.AL.store 24 [] (new:=[.slice B (([]++h.2.2.1).length) E]) (cs':=[A.i h.1,A.i h.2.1,.slice B (([]++h.2.2.1).length) E,A.i h.2.2.2.1.1,A.i h.2.2.2.1.2.1,.string h.2.2.2.1.2.2,.string h.2.2.2.2.1,A.i h.2.2.2.2.2.1,A.i h.2.2.2.2.2.2]) ?_;refine Xw 1 ?_;refine Xq [3,24] [] [.n,.b 0 0,.b 1 0] [(23,.slice x p.length y),(24,.agg #[A.i h.1,A.i h.2.1,.slice B (([]++h.2.2.1).length) E,A.i h.2.2.2.1.1,A.i h.2.2.2.1.2.1,.string h.2.2.2.1.2.2,.string h.2.2.2.2.1,A.i h.2.2.2.2.2.1,A.i h.2.2.2.2.2.2])] ?_;refine A.frz 25 [] ?_;refine X9 26 (ty:=T32) (cs:=[A.i h.1,A.i h.2.1,.slice B (([]++h.2.2.1).length) E,A.i h.2.2.2.1.1,A.i h.2.2.2.1.2.1,.string h.2.2.2.1.2.2,.string h.2.2.2.2.1,A.i h.2.2.2.2.2.1,A.i h.2.2.2.2.2.2]) [(h.1,h.2.1,[]++h.2.2.1,h.2.2.2.1,h.2.2.2.2.1,h.2.2.2.2.2.1,h.2.2.2.2.2.2)] ⟨⟨⟨rfl,z.1⟩,⟨rfl,z.2.1⟩,.inl ⟨25,rfl⟩,⟨⟨rfl,z.2.2.2.1.1⟩,⟨rfl,z.2.2.2.1.2.1⟩,⟨rfl,z.2.2.2.1.2.2⟩⟩,⟨rfl,z.2.2.2.2.1⟩,⟨rfl,z.2.2.2.2.2.1⟩,⟨rfl,z.2.2.2.2.2.2⟩⟩,rfl⟩ (fun a6=>?_) Tryd.zeroValue33 Tryd.sizeOf33
  have⟨hl24,o⟩:=Yv o;refine Yp (k:=11) [] (A.rowO (k:=26) rfl) inf33 hl24 fun U V=>?_;refine Xt 1 [(27,.pointer (some ⟨N,0,none⟩))] ?_;refine Ya 3 [] [.slice U ((p++[(h.1,h.2.1,[]++h.2.2.1,h.2.2.2.1,h.2.2.2.2.1,h.2.2.2.2.2.1,h.2.2.2.2.2.2)]).length) V] ?_;refine Xw 2 ?_;have⟨W,o⟩:=Yv o;refine Y8 3 [Z.R64 (s+1)] [(4,A.i (s+1))] W (Xp ?_);exact Yd ⟨_,Qg _,⟨(p++[(h.1,h.2.1,[]++h.2.2.1,h.2.2.2.1,h.2.2.2.2.1,h.2.2.2.2.2.1,h.2.2.2.2.2.2)]),(s+1),U,V,rfl,rfl,(Xv W),o⟩⟩
 refine Xn 3 ?_;refine Xq [3] [] [.b 0 0] [(28,.agg #[.slice x p.length y])] ?_;refine Ya 2 [] [.slice x p.length y] ?_;refine Xo 1 ?_;obtain rfl:=Xx o;refine A.frz 11 [] ?_;exact Ys [(0,11)] (.agg #[.slice x p.length y]) (fun a w hf hh=>Yy rfl (Y5 hf rfl Tryd.isAgg24 Tryd.sizeOf24 (Yj hh 2) rfl)) (⟨x,y,rfl,rfl⟩)
def F.o (s:(List D32)→Int→Option Bool)(k:Int)(u:D32):Nat→(List D32)→Int→Option Bool
 |0,_,_=>none
 |f+1,p,h=>if h<(u.2.2.1.length:Int)then((A.ix p k).bind fun a=>((A.ix a.2.2.1 h).bind fun w=>((A.ix a.2.2.1 h).bind fun x=>(A.gd (Z.R64 (h+1)) ((F.o s k u f) (List.set p k.toNat (a.1,a.2.1,a.2.2.1.set h.toNat (IntKind.i64.wrap (w+1)),a.2.2.2.1,a.2.2.2.2.1,a.2.2.2.2.2.1,a.2.2.2.2.2.2)) (h+1))))))else(A.gd (Z.R64 (k+1)) (s p (k+1)))
def F.p (s:D23)(u:D23)(w:D23):Nat→(List D32)→Int→Option Bool
 |0,_,_=>none
 |f+1,k,h=>if h<(u.length:Int)then((A.ix k h).bind fun x=>((A.ix k h).bind fun a=>((A.ix (List.set k h.toNat (IntKind.i64.wrap (x.1+1),a.2.1,a.2.2.1,a.2.2.2.1,a.2.2.2.2.1,a.2.2.2.2.2.1,a.2.2.2.2.2.2)) h).bind fun y=>(F.o (F.p s u w f) h y A.FU (List.set k h.toNat (IntKind.i64.wrap (x.1+1),a.2.1,a.2.2.1,a.2.2.2.1,a.2.2.2.2.1,a.2.2.2.2.2.1,a.2.2.2.2.2.2)) 0))))else((F.a2 s w).bind fun z=>(some z))
def F.z (a:D23)(f:D23)(h:Bool):Option Bool:=if h=true then(some false)else((F.be a).bind fun k=>(F.p a f k A.FU f 0))
def F.q (a:D23)(h:D23)(k:Bool):Option Bool:=if k=true then((F.bd).bind fun o=>(some o))else((F.aX a).bind fun f=>((F.aT a h).bind fun p=>((F.a2 a h).bind fun s=>(if p≠s then(F.z a f true)else((F.aT a a).bind fun u=>(if(!u)=true then(F.z a f true)else((F.a2 f a).bind fun w=>(F.z a f (!w)))))))))
def F.aF (a:D23)(f:D23):Option Bool:=(F.bd).bind fun h=>(if(!h)=true then(F.q a f true)else((F.bi a).bind fun k=>(if(!k)=true then(F.q a f true)else((F.bi f).bind fun o=>(F.q a f (!o))))))
theorem o_ad(k:D23)(B:D23)(r:Bool)(h:F.aF k B=some r):
    A.Ct Tryd.prog 3 [.agg #[.slice A0_ k.length c1_],.agg #[.slice A2_ B.length c3_]] [(0,.sh (.slice T32) [.slice A0_ k.length c1_] k),(1,.sh (.slice T32) [.slice A2_ B.length c3_] B),(2,.el none 0 0 A.tabF),(3,.el none 1 0 A.tabA)] [] (fun v H'=>v=.bool r∧H'=[]):=by
 refine Xs Tryd.func3 rfl Tryd.ntmps3 rfl fun w0 F0=>?_;rw[F.aF]at h;refine Xn 1 ?_;refine X2 4 (cs:=[.slice A0_ k.length c1_]) fun g1=>?_;refine X2 5 (cs:=[.slice A2_ B.length c3_]) fun g2=>?_;refine Xt 1 [] (Xo 2 ?_);refine Xz [2,3] [0,1,2,3,4,5] (fun O U=>∃(y3:Bool),O=[(20,.bool y3)]∧U=[]∧F.q k B y3=some r) ?_ ?_
 ·refine Xn 0 ?_;refine Yo 6 [] h o_z (.s 2 (.s 3 .nil)) ?_;rintro am - h _ _ ⟨rfl,rfl⟩;refine X6 ?_;refine Xt 2 [(11,.bool (!am))] ?_;refine Yg (j:=11) rfl h (fun h=>?_) (fun h=>?_)
  ·refine Xq [] [] [.off,.off,.off,.n,.n,.off,.off,.off,.n] [(20,.bool true)] (Xp ?_);exact Yd ⟨true,rfl,rfl,h⟩
  refine Xq [4] [] [.on (.b 0 0)] [(12,.agg #[.slice A0_ k.length c1_])] ?_;refine Ye (dj:=11) rfl rfl ?_;refine Yo 46 [] h (o_ai A0_ c1_ k) (.s 0 .nil) ?_;rintro an - h _ _ ⟨rfl,rfl⟩;refine X6 ?_;refine Xq [] [] [.on .n,.n,.n] [(16,.bool (!an))] ?_;refine Yg (j:=16) rfl h (fun h=>?_) (fun h=>?_)
  ·refine Xq [] [] [.off,.off,.off,.n] [(20,.bool true)] (Xp ?_);exact Yd ⟨true,rfl,rfl,h⟩
  refine Xq [5] [] [.on (.b 0 0)] [(17,.agg #[.slice A2_ B.length c3_])] ?_;refine Ye (dj:=16) rfl rfl ?_;refine Yo 86 [] h (o_ai A2_ c3_ B) (.s 1 .nil) ?_;rintro ad - h _ _ ⟨rfl,rfl⟩;refine X6 ?_;refine Xq [] [] [.on .n,.n] [(20,.bool (!ad))] (Xp ?_);exact Yd ⟨(!ad),rfl,rfl,h⟩
 rintro _ _ ⟨y3,rfl,rfl,h⟩;rw[F.q]at h;refine Y7 h ?_ ?_<;>intro hb h
 ·refine Xn 1 ?_;refine Yo 126 [] h o_z (.s 2 (.s 3 .nil)) ?_;rintro r4 - h _ _ ⟨rfl,rfl⟩;refine X6 ?_;refine Xt 1 [(4,.bool r4)] (Xo 1 ?_);obtain rfl:=Xx h;exact X1 [] ⟨rfl,rfl⟩
 refine Xn 3 ?_;refine Xq [4] [] [.b 0 0] [(22,.agg #[.slice A0_ k.length c1_])] ?_;refine Yo 166 [] h (o_an A0_ c1_ k) (.s 0 .nil) ?_;rintro x - h _ _ ⟨J,L,As10,rfl,rfl⟩;refine X6 ?_;refine Xr 206 (cs:=l3h) Tryd.zeroValue24 fun b4=>?_;refine Ya 206 [] [.slice J x.length L] ?_;refine Xo 2 ?_;refine Xz [2,5] [0,2,3,4,166,206] (fun O U=>∃(a6:Bool),O=[(42,.bool a6)]∧U=[]∧F.z k x a6=some r) ?_ ?_
 ·refine Yi mixed 19 19 (A.mb 19 0) ?_;refine X8 X5 [] l3b [4,5] [] (A.mb 19 27) 15 [(0,.b 0 0),(1,.b 1 0),(3,.b 0 0),(4,.b 1 0)] [(24,.agg #[.slice A0_ k.length c1_]),(25,.agg #[.slice A2_ B.length c3_]),(27,.agg #[.slice A0_ k.length c1_]),(28,.agg #[.slice A2_ B.length c3_])] ?_;refine X0 2 ?_;refine Yo 207 [] h (o_t A0_ A2_ c1_ c3_ k B) (.s 0 (.s 1 .nil)) ?_;rintro ao - h _ _ ⟨rfl,rfl⟩;refine X6 ?_;refine X4 (A.mb 19 31) l3b ?_;refine X0 5 ?_;refine Yo 247 [] h (o_p A0_ A2_ c1_ c3_ k B) (.s 0 (.s 1 .nil)) ?_;rintro ap - h _ _ ⟨rfl,rfl⟩;refine X6 ?_;refine X4 (A.mb 19 63) l3b ?_;refine X8 X5 l3b l3b [] [] (A.mb 19 255) 11 [(6,.n),(7,.n)] [(31,.bool (decide (ao≠ap)))] ?_;refine A.AH.cnp (j:=31) rfl h ?_ ?_<;>intro hb h
  ·refine X8 X5 l3b l3b [] [] (A.mb 19 524287) 0 [(8,.off),(9,.off),(10,.off),(11,.off),(12,.n),(13,.n),(14,.off),(15,.off),(16,.off),(17,.off),(18,.n)] [(42,.bool true)] (X3 ?_);exact Yd ⟨true,rfl,rfl,h⟩
  refine X8 X5 l3b l3b [4] [] (A.mb 19 1023) 9 [(8,.on (.b 0 0)),(9,.on (.b 0 0))] [(32,.agg #[.slice A0_ k.length c1_]),(33,.agg #[.slice A0_ k.length c1_])] ?_;refine X0 10 ?_;refine Ye (dj:=31) rfl rfl ?_;refine Yo 287 [] h (o_t A0_ A0_ c1_ c1_ k k) (.s 0 (.s 0 .nil)) ?_;rintro aq - h _ _ ⟨rfl,rfl⟩;refine X6 ?_;refine X4 (A.mb 19 2047) l3b ?_;refine X8 X5 l3b l3b [] [] (A.mb 19 16383) 5 [(11,.on .n),(12,.n),(13,.n)] [(37,.bool (!aq))] ?_;refine A.AH.cnd (j:=37) rfl h (fun h=>?_) (fun h=>?_)
  ·refine X8 X5 l3b l3b [] [] (A.mb 19 524287) 0 [(14,.off),(15,.off),(16,.off),(17,.off),(18,.n)] [(42,.bool true)] (X3 ?_);exact Yd ⟨true,rfl,rfl,h⟩
  refine X8 X5 l3b l3b [206,4] [] (A.mb 19 65535) 3 [(14,.on (.b 0 0)),(15,.on (.b 1 0))] [(38,.agg #[.slice J x.length L]),(39,.agg #[.slice A0_ k.length c1_])] ?_;refine X0 16 ?_;refine Ye (dj:=37) rfl rfl ?_;have⟨a7,ar,h⟩:=Yz h;refine A.AL.callF (fun w hh=>(A.hp_vfn 166 [] I33 hh)) (first:=[]) (cap:=[]) cf8 (o_p J A0_ L c1_ x k a7 ar) (.s 166 (.s 0 .nil)) ?_;rintro _ _ ⟨rfl,rfl⟩;refine X4 (A.mb 19 131071) l3b ?_;refine X8 X5 l3b l3b [] [] (A.mb 19 524287) 0 [(17,.on .n),(18,.n)] [(42,.bool (!a7))] (X3 ?_);exact Yd ⟨(!a7),rfl,rfl,h⟩
 rintro _ _ ⟨a6,rfl,rfl,h⟩;rw[F.z]at h;refine Y7 h ?_ ?_<;>intro hb h
 ·refine Xn 1 ?_;refine Xt 1 [(4,.bool false)] (Xo 1 ?_);obtain rfl:=Xx h;refine A.nrfz 166 [] I33 ?_;exact X1 [] ⟨rfl,rfl⟩
 refine Xn 3 ?_;refine Xq [4] [] [.b 0 0] [(43,.agg #[.slice A0_ k.length c1_])] ?_;refine Yo 327 [] h (o_az A0_ c1_ k) (.s 0 .nil) ?_;rintro a2 - h _ _ ⟨a8,a9,rfl,rfl⟩;refine X6 ?_;refine Xr 367 (cs:=l3h) Tryd.zeroValue24 fun b5=>?_;refine Ya 367 [] [.slice a8 a2.length a9] ?_;refine Xw 3 ?_;refine Xq [206] [] [.n,.b 0 0,.n,.n] [(47,A.i (x.length:Int)),(48,A.i 0)] (Xo 2 ?_);refine Yf [2,5,6,47] [0,2,3,4,206,327,367] (fun f O U=>∃(V:List D32),∃(y:Int),O=[(48,A.i y)]∧U=[(166,A.nr I33 33 3 J L V As10 none)]∧x.length=V.length∧A.h6 y∧F.p k x a2 f V y=some r) ⟨x,0,rfl,rfl,rfl,Xy,h⟩ ?_;rintro aa _ _ ⟨V,y,rfl,rfl,hn22,b6,h⟩;rcases aa with _|aa
 ·exact Yc h
 rw[F.p]at h;refine Xn 1 ?_;refine Xt 1 [(49,.bool (decide (y<(x.length:Int))))] (Xo 2 ?_);refine Yn h ?_ ?_<;>intro hb h
 ·refine Xn 5 ?_;refine Xt 2 [(7,A.i y)] (Xw 2 ?_);refine Xq [206] [] [.n,.b 0 0,.n] [(52,.slice J x.length L),(53,A.i y)] ?_;refine A.cst 52 (Z.slice_n (show x.length=V.length from hn22)) ?_;have⟨a3,ae,h⟩:=Yz h;refine A.pkn 166 478 I33 ae fun b7 b9 bb bc au hs30=>?_;refine Yr rfl (fun a w hf hh=>A.r_ixo (t:=T32) ae au hf) ?_;refine Xq [] [478] [.n,.e 0 0] [(56,A.i a3.1)] ?_;refine Yr rfl (fun a w hf hh=>A.r_adw hf) ?_;have⟨u,ab,h⟩:=Yz h;refine A.pkn 166 479 I33 ab fun W bd be av ag hs38=>?_;refine Yr rfl (fun a w hf hh=>A.r_ixo (t:=T32) ab ag hf) ?_;refine Xt 1 [(59,.pointer (some ⟨av,y.toNat*(T32).size,none⟩))] ?_;refine A.AL.stE 166 [478,479] I33 (o:=0) (IntKind.i64.wrap (a3.1+1),u.2.1,u.2.2.1,u.2.2.2.1,u.2.2.2.2.1,u.2.2.2.2.2.1,u.2.2.2.2.2.2) ab hs38 ag ⟨⟨rfl,(A.wrap_has _ _)⟩,⟨rfl,W.2.1⟩,.inr ⟨rfl,rfl⟩,⟨⟨rfl,W.2.2.2.1.1⟩,⟨rfl,W.2.2.2.1.2.1⟩,⟨rfl,W.2.2.2.1.2.2⟩⟩,⟨rfl,W.2.2.2.2.1⟩,⟨rfl,W.2.2.2.2.2.1⟩,⟨rfl,W.2.2.2.2.2.2⟩⟩ ?_;refine Xw 2 ?_;refine Xq [206] [] [.n,.b 0 0,.n] [(61,.slice J x.length L),(62,A.i y)] ?_;refine A.cst 61 (Z.slice_n (show x.length=(List.set V y.toNat (IntKind.i64.wrap (a3.1+1),u.2.1,u.2.2.1,u.2.2.2.1,u.2.2.2.2.1,u.2.2.2.2.2.1,u.2.2.2.2.2.2)).length from(by rw[Qt];exact hn22))) ?_;have⟨ac,ah,h⟩:=Yz h;refine A.pkn 166 480 I33 ah fun bf bg bh bi aw hs46=>?_;refine Yr rfl (fun a w hf hh=>A.r_ixo (t:=T32) ah aw hf) ?_;refine Xq [] [480] [.n,.e 0 2,.n,.n] [(66,A.i (ac.2.2.1.length:Int)),(67,A.i 0)] (Xo 2 ?_);refine Yf [2,5,6,7,47,48,66] [0,2,3,4,206,327,367] (fun f O U=>∃(Y:List D32),∃(E:Int),O=[(67,A.i E)]∧U=[(166,A.nr I33 33 3 J L Y As10 none)]∧x.length=Y.length∧A.h6 E∧F.o (F.p k x a2 aa) y ac f Y E=some r) ⟨(List.set V y.toNat (IntKind.i64.wrap (a3.1+1),u.2.1,u.2.2.1,u.2.2.2.1,u.2.2.2.2.1,u.2.2.2.2.2.1,u.2.2.2.2.2.2)),0,rfl,rfl,(by rw[Qt];exact hn22),Xy,h⟩ ?_;rintro ai _ _ ⟨Y,E,rfl,rfl,hn54,bj,h⟩;rcases ai with _|ai
  ·exact Yc h
  rw[F.o]at h;refine Xn 1 ?_;refine Xt 1 [(68,.bool (decide (E<(ac.2.2.1.length:Int))))] (Xo 2 ?_);refine Yn h ?_ ?_<;>intro hb h
  ·refine Xn 5 ?_;refine Xt 2 [(8,A.i E)] (Xw 1 ?_);refine Xq [206] [] [.n,.b 0 0,.n] [(71,.slice J x.length L),(72,A.i y)] ?_;refine A.cst 71 (Z.slice_n (show x.length=Y.length from hn54)) ?_;have⟨N,a4,h⟩:=Yz h;refine A.pkn 166 489 I33 a4 fun bk ax ay bl az hs62=>?_;refine Yr rfl (fun a w hf hh=>A.r_ixo (t:=T32) a4 az hf) ?_;refine Xq [] [489] [.n,.e 0 2,.n] [(75,.slice ax N.2.2.1.length ay),(76,A.i E)] ?_;refine A.nrt 166 490 [489] I33 a4 hs62 ?_;have⟨a5,b0,h⟩:=Yz h;refine Y3 490 491 b0 fun bm=>?_;intro bp bq;refine Xq [] [491] [.e 0 0] [(78,A.i a5)] ?_;refine Yr rfl (fun a w hf hh=>A.r_adw hf) ?_;have⟨b1,aj,h⟩:=Yz h;refine Y3 490 492 aj fun br=>?_;intro bs b2;refine A.AL.setel 490 492 [491,492] (o:=0) (m:=1) (t:=A.ti) (new:=[A.i (IntKind.i64.wrap (a5+1))]) (es:=[A.i b1]) (IntKind.i64.wrap (a5+1)) aj b2 ⟨rfl,(A.wrap_has _ _)⟩ ?_;refine A.nrb 166 490 [] I33 a4 hs62 Qt ?_;refine Xw 2 ?_;have⟨ak,h⟩:=Yv h;refine Y8 2 [Z.R64 (E+1)] [(67,A.i (E+1))] ak (Xp ?_);exact Yd ⟨_,Qg _,⟨(List.set Y y.toNat (N.1,N.2.1,N.2.2.1.set E.toNat (IntKind.i64.wrap (a5+1)),N.2.2.2.1,N.2.2.2.2.1,N.2.2.2.2.2.1,N.2.2.2.2.2.2)),(E+1),rfl,rfl,(by rw[Qt];exact hn54),(Xv ak),h⟩⟩
  refine Xn 3 ?_;have⟨al,h⟩:=Yv h;refine Y8 2 [Z.R64 (y+1)] [(48,A.i (y+1))] al (Xp ?_);exact Yd ⟨_,Qg _,⟨Y,(y+1),rfl,rfl,hn54,(Xv al),h⟩⟩
 refine Xn 3 ?_;refine Xq [4,367] [] [.b 0 0,.b 1 0] [(83,.agg #[.slice A0_ k.length c1_]),(84,.agg #[.slice a8 a2.length a9])] ?_;refine Yo 493 [] h (o_p A0_ a8 c1_ a9 k a2) (.s 0 (.s 327 .nil)) ?_;rintro b3 - h _ _ ⟨rfl,rfl⟩;refine X6 ?_;refine Xt 1 [(4,.bool b3)] (Xo 1 ?_);obtain rfl:=Xx h;refine A.nrfz 166 [] I33 ?_;exact X1 [] ⟨rfl,rfl⟩
end Go.Proofs.YtdimhhfngpppoaaDoor
end
section
end
section
namespace Go.A
open Go.RowKit Go.Z Go.Shelf Go.Proofs Go.Lib
def Hall (W:World):List (Nat×Res)→Prop
 | []=>True
 |p::H=>(p.2.bl=[]∧p.2.ref=none∧p.2.holds W (fun _=>True) (fun _ _=>False))∧Hall W H
theorem Hall.at {W:World}: ∀{H:List (Nat×Res)} {k:Nat} {r:Res},Hall W H→hk H k=some r→r.bl=[]∧r.ref=none∧r.holds W (fun _=>True) (fun _ _=>False)
 | [],_,_,_,h=>by cases h
 |(d,u)::H,k,r,E,h=>by
  rw[Qaa]at h
  split at h
  ·injection h with h;subst h;exact E.1
  ·exact E.2.at h
theorem Hp.start {W:World}{H:List (Nat×Res)}(h:Hall W H):Hp ⟨0,[],W,[],fun _=>True⟩ H W:=by
 have E: ∀k b,¬Bk H k b:=fun k b ⟨r,O,L⟩=>by rw[(h.at O).1]at L;cases L
 refine⟨Ch.refl W,fun k r hk=>?_,fun k b J=>(E k b J).elim,fun k k' b J=>(E k b J).elim,fun k r j hk N=>?_⟩
 ·exact Res.to (S:=[]) (h.at hk).2.2 (Ch.refl W) (fun b _ _=>⟨by simp,fun k=>E k b,.inl trivial⟩) (fun b _ _=>⟨by simp,fun k=>E k b⟩) (fun i b _ V=>V.elim) (by simp)
 ·rw[(h.at hk).2.1]at N;cases N
theorem Hall.sh {W:World}{t:Ty}{cs:List Value}{x:t.den}{F:Nat→Prop}(h:t.rep W F cs x):(Res.sh t cs x).bl=[]∧(Res.sh t cs x).ref=none∧(Res.sh t cs x).holds W (fun _=>True) (fun _ _=>False):=
 ⟨rfl,rfl,Qap h fun _ _ _=>trivial⟩
def putCells (cs:List Value):Obj→Obj
 | .cells _ t frozen=>.cells cs.toArray t frozen
 |o=>o
theorem tab_cells {w:World}{N O:Nat}(h:Lib.Utf8Tabs N O w):Cells w ⟨N,0,none⟩ tabF∧Cells w ⟨O,0,none⟩ tabA:=by
 constructor
 ·intro j u E
  rw[Addr.add_lit,Ws]
  have L:j<256:=by have:=(Qa.1 E).1;simpa[tabF] using this
  have e:tabF[j]?=some (.int .u8 (firstT j)):=by simp[tabF,L]
  rw[e]at E;injection E with E;subst E
  exact h.1 j L
 ·intro j u E
  rw[Addr.add_lit,Ws]
  have L:j<32:=by have:=(Qa.1 E).1;simpa[tabA] using this
  have e:tabA[j]?=some (.int .u8 (if j%2=0 then accLo (j / 2)else accHi (j / 2))):=by simp[tabA,L]
  rw[e]at E;injection E with E;subst E
  have:=h.2 (j / 2) (by omega)
  by_cases V:j%2=0
  ·rw[if_pos V]
   have J:j=2*(j / 2):=by omega
   rw[J];simpa using this.1
  ·rw[if_neg V]
   have J:j=2*(j / 2)+1:=by omega
   have W:(2*(j / 2)+1) / 2=j / 2:=by omega
   rw[J,W];exact this.2
theorem Hall.tabs {w:World}{E J i j:Nat}(h:Lib.Utf8Tabs E J w):Hall w [(i,.el none E 0 tabF),(j,.el none J 0 tabA)]:=by
 obtain⟨L,N⟩:=tab_cells h
 exact⟨⟨rfl,rfl,L,World.block_lt_of_cell? w _ (L 0 (.int .u8 (firstT 0)) (by simp[tabF])),fun _ h=>h⟩,⟨rfl,rfl,N,World.block_lt_of_cell? w _ (N 0 (.int .u8 (accLo 0)) (by simp[tabA])),fun _ h=>h⟩,trivial⟩
end Go.A
end
section
namespace Go.Graph
abbrev Fun:=Int×Int×ByteArray
abbrev Nd:=Int×Int×List Int×Fun×ByteArray×Int×Int
abbrev id (x:Nd):Int:=x.1
abbrev kind (x:Nd):Int:=x.2.1
abbrev fn (x:Nd):Fun:=x.2.2.2.1
abbrev name (x:Nd):ByteArray:=x.2.2.2.2.1
abbrev cap (x:Nd):Int:=x.2.2.2.2.2.1
def Few (g:List Nd):Prop:=g.length≤40∧∀x,x∈g→x.2.2.1.length≤5000∧x.2.2.2.2.1.size≤5000∧x.2.2.2.1.2.2.size≤5000
def insK (k:Int):Int:=if k<1∨16<k then-1 else if k=1 then 0 else if k=5∨k=9 then 2 else 1
def letter (c:UInt8):Bool:=decide ((97:Int)≤(c.toNat:Int)∧(c.toNat:Int)≤122∨(65:Int)≤(c.toNat:Int)∧(c.toNat:Int)≤90)
def digit (c:UInt8):Bool:=decide ((48:Int)≤(c.toNat:Int)∧(c.toNat:Int)≤57)
def wordy (l:List UInt8):Bool:=l.all fun c=>letter c||digit c
def named (s:ByteArray):Bool:=decide (s≠ByteArray.mk #[])&&decide ((s.size:Int)≤16)&&letter (Z.bat s 0)&&wordy s.data.toList
def idxF (id:Int):Nat→List Nd→Int
 |_,[]=> -1
 |k,x::r=>if x.1=id then(k:Int)else idxF id (k+1) r
def idx (g:List Nd)(id:Int):Int:=idxF id 0 g
def namedF (kd:Int)(s:ByteArray):List Nd→Int×Bool
 | []=>(0,false)
 |x::r=>if kind x=kd∧name x=s then(x.1,true)else namedF kd s r
def z0:Nd:=(0,0,[],(0,0,ByteArray.mk #[]),ByteArray.mk #[],0,0)
def at_ (g:List Nd)(i:Int):Nd:=(g[i.toNat]?).getD z0
def ownT (g:List Nd)(n:Nd):Bool:=if n.2.1≠1∧n.2.1≠15 then decide (n.2.2.2.2.1=ByteArray.mk #[])else named n.2.2.2.2.1&&decide ((namedF n.2.1 n.2.2.2.2.1 g).1=n.1)
def ownC (n:Nd):Prop:=n.2.1=14∧(n.2.2.2.2.2.1<1∨8<n.2.2.2.2.2.1∨n.2.2.2.2.2.2<1∨4<n.2.2.2.2.2.2)∨n.2.1≠14∧(n.2.2.2.2.2.1≠0∨n.2.2.2.2.2.2≠0)
instance (n:Nd):Decidable (ownC n):=by unfold ownC;infer_instance
def own (g:List Nd)(i:Int)(n:Nd):Bool:=
 if n.1<1∨255<n.1∨0<i∧n.1≤(at_ g (i-1)).1∨insK n.2.1<0∨(n.2.2.1.length:Int)≠insK n.2.1 then false else if ownC n then false else ownT g n
def bget (l:List Bool)(i:Int):Bool:=(l[i.toNat]?).getD false
def readyF (g:List Nd)(done:List Bool)(kd:Int):List Int→Bool
 | []=>true
 |k::r=>if kd≠14∧bget done (idx g k)=false then false else readyF g done kd r
def ready (g:List Nd)(done:List Bool)(n:Nd):Bool:=readyF g done n.2.1 n.2.2.1
def d0:List Int→Int
 | []=>0
 |a::_=>a
end Go.Graph
end
section
namespace Go.A
open Go.Z
theorem r64n {n:Nat}(h:n<4611686018427387904):R64 ((n:Int)+1):=⟨by omega,by omega⟩
theorem gd1 {α:Type}{p:Prop}[Decidable p](h:p)(x:Option α):gd p x=x:=if_pos h
theorem ixn {α:Type}{xs:List α}{k:Nat}{x:α}(h:xs[k]?=some x):ix xs (k:Int)=some x:=by rw[ix_nat];exact h
theorem dropx {α:Type}{xs:List α}{k:Nat}{x:α}(h:xs[k]?=some x):xs.drop k=x::xs.drop (k+1):=by
 obtain⟨E,J⟩:=Qa.1 h
 rw[List.drop_eq_getElem_cons E,J]
theorem ba {p q:Prop}[Decidable p][Decidable q]:(bif decide p then decide q else false)=decide (p∧q):=by by_cases h:p<;>simp[h]
theorem bo {p q:Prop}[Decidable p][Decidable q]:(bif decide p then true else decide q)=decide (p∨q):=by by_cases h:p<;>simp[h]
theorem bn {p:Prop}[Decidable p]:(!decide p)=decide (¬p):=by by_cases h:p<;>simp[h]
theorem lp {α σ ρ:Type}(xs:List α)(L:Nat→σ→Int→Option ρ)(G:Nat→List α→σ→Option ρ)(P:Nat→σ→Prop)
  (J: ∀f s,P xs.length s→L (f+1) s (xs.length:Int)=G xs.length [] s)
  (N: ∀f s (k:Nat) x,xs[k]?=some x→k<xs.length→P k s→(∀s',P (k+1) s'→L f s' ((k:Int)+1)=G (k+1) (xs.drop (k+1)) s')→L (f+1) s k=G k (x::xs.drop (k+1)) s)
  (O:xs.length<FU) (s:σ) (V:P 0 s):L FU s 0=G 0 xs s:=by
 have main: ∀(n k f:Nat) (s:σ),k+n=xs.length→n<f→P k s→L f s (k:Int)=G k (xs.drop k) s:=by
  intro n
  induction n with
  |zero=>
   intro k f s hk W hp
   obtain⟨f,rfl⟩: ∃f',f=f'+1:=⟨f-1,by omega⟩
   obtain rfl:k=xs.length:=by omega
   rw[Xb (Q7 _)];exact J f s hp
  |succ n Y=>
   intro k f s hk W hp
   obtain⟨f,rfl⟩: ∃f',f=f'+1:=⟨f-1,by omega⟩
   have E:xs[k]?=some xs[k]:=Qc (by omega)
   rw[dropx E]
   exact N f s k _ E (by omega) hp fun s' hp'=>Y (k+1) f s' (by omega) (by omega) hp'
 have:=main xs.length 0 FU s (by omega) O V
 simpa using this
theorem lp0 {α ρ:Type}(xs:List α)(L:Nat→Int→Option ρ)(G:Nat→List α→Option ρ)
  (E: ∀f,L (f+1) (xs.length:Int)=G xs.length [])
  (J: ∀f (k:Nat) x,xs[k]?=some x→k<xs.length→L f ((k:Int)+1)=G (k+1) (xs.drop (k+1))→L (f+1) k=G k (x::xs.drop (k+1)))
  (N:xs.length<FU):L FU 0=G 0 xs:=
 lp xs (fun f (_:Unit) y=>L f y) (fun k l _=>G k l) (fun _ _=>True) (fun f s _=>E f) (fun f s k x O hk _ V=>J f k x O hk (V () trivial)) N () trivial
end Go.A
namespace Go.Proofs.YtdimhhfngpppoaaDoor
open Go.RowKit Go.Graph
theorem Qaz:(18446744073709551616:Nat)<A.FU:=by decide
end Go.Proofs.YtdimhhfngpppoaaDoor
end
section
namespace Go.A
theorem eqk {α ρ:Type}[DecidableEq α](a b:List α)(L:Nat→Int→Option ρ)(t e:Option ρ)(O:a.length=b.length)(V: ∀f,L (f+1) (a.length:Int)=t)
  (W: ∀f (k:Nat) x y,a[k]?=some x→b[k]?=some y→k<a.length→L (f+1) (k:Int)=if x=y then L f ((k:Int)+1)else e) (J:a.length<FU):L FU 0=if a=b then t else e:=by
 have:=lp0 a L (fun k l=>if l=b.drop k then t else e)
  (fun f=>by rw[V,O,Xb (Q7 _),if_pos rfl])
  (fun f k x Y hk ih=>by
   have N:b[k]?=some b[k]:=Qc (by omega)
   rw[W f k x _ Y N hk,dropx N,ih]
   by_cases h:x=b[k]
   ·rw[if_pos h]
    by_cases E:a.drop (k+1)=b.drop (k+1)
    ·rw[if_pos E,if_pos (by rw[h,E])]
    ·rw[if_neg E,if_neg (fun e=>E (List.cons.inj e).2)]
   ·rw[if_neg h,if_neg (fun e=>h (List.cons.inj e).1)]) J
 rw[this,Wy]
theorem ite_dec {p:Prop}[Decidable p]:(if p then some true else some false)=some (decide p):=by by_cases h:p<;>simp[h]
end Go.A
namespace Go.Proofs.YtdimhhfngpppoaaDoor
open Go.RowKit Go.Graph
def fewF (s:Int):List Nd→Int
 | []=>s
 |x::r=>fewF (min (s+min (x.2.2.1.length:Int) 1048576+min (x.2.2.2.2.1.size:Int) 1048576+min (x.2.2.2.1.2.2.size:Int) 1048576) 1048576) r
theorem Qcx: ∀(l:List Nd) (s:Int),0≤s→s≤1048576→s≤fewF s l
 | [],s,_,_=>Int.le_refl s
 |x::r,s,h,E=>by
  unfold fewF
  have:=Qcx r (min (s+min (x.2.2.1.length:Int) 1048576+min (x.2.2.2.2.1.size:Int) 1048576+min (x.2.2.2.1.2.2.size:Int) 1048576) 1048576) (by omega) (by omega)
  omega
theorem fewF_le: ∀(l:List Nd) (s:Int),0≤s→s≤1048576→fewF s l≤5000→∀x∈l,x.2.2.1.length≤5000∧x.2.2.2.2.1.size≤5000∧x.2.2.2.1.2.2.size≤5000
 | [],_,_,_,_,x,E=>by cases E
 |y::r,s,h,L,J,x,E=>by
  unfold fewF at J
  have N:=Qcx r (min (s+min (y.2.2.1.length:Int) 1048576+min (y.2.2.2.2.1.size:Int) 1048576+min (y.2.2.2.1.2.2.size:Int) 1048576) 1048576) (by omega) (by omega)
  rcases Qm.1 E with rfl|E
  ·omega
  ·exact fewF_le r _ (by omega) (by omega) J x E
theorem few_eq (g:List Nd): ∃b,F.bi g=some b∧(b=true→Few g):=by
 unfold F.bi
 rw[A.gd1 (by omega)]
 have hlen:(List.take (min (g.length:Int) 99).toNat g).length≤99:=by rw[Qu];omega
 have:=A.lp (List.take (min (g.length:Int) 99).toNat g) (fun f s y=>F.aE g f s y) (fun _ l s=>some (bif decide ((g.length:Int)≤40)then decide (fewF s l≤5000)else false)) (fun _ s=>0≤s∧s≤1048576)
  (fun f s _=>by rw[F.aE,if_neg (by omega)];rfl)
  (fun f s k x L hk hp N=>by
   rw[F.aE,if_pos (by omega),A.ixn L,Qf,A.gd1 ⟨⟨by omega,by omega⟩,⟨by omega,by omega⟩,⟨by omega,by omega⟩⟩,A.gd1 (A.r64n (by omega)),N _ (by omega)]
   rfl)
  (by have:=Qaz;omega) 0 (by omega)
 rw[this]
 refine⟨_,rfl,fun E=>?_⟩
 by_cases J:(g.length:Int)≤40
 ·simp only[J,decide_true,cond_true,decide_eq_true_eq]at E
  have e:List.take (min (g.length:Int) 99).toNat g=g:=Xg (by omega)
  rw[e]at E
  exact⟨by omega,fewF_le g 0 (by omega) (by omega) E⟩
 ·simp[J]at E
theorem clone_int (l:List Int)(h:l.length≤5000):F.v l=some l:=by
 unfold F.v
 rw[A.gd1 (by simp only[List.length_nil];omega)];rfl
theorem set_same {α:Type}{l:List α}{k:Nat}{x:α}(h:l[k]?=some x):l.set k x=l:=by
 apply Q2
 intro i
 rw[Wp]
 split
 ·rename_i e;subst e;split
  ·rw[h]
  ·rename_i E;rw[Wb (by omega)]
 ·rfl
theorem Clone_eq (g:List Nd)(N:g.length≤100)(h: ∀n∈g,n.2.2.1.length≤5000):F.aX g=some g:=by
 unfold F.aX F.l
 rw[A.gd1 (by simp only[List.length_nil];omega),Qf]
 exact A.lp g (fun f (s:List Nd) y=>F.y g f s y) (fun _ _ s=>some s) (fun _ s=>s=g)
  (fun f s J=>by rw[F.y,if_neg (by omega)])
  (fun f s k x E hk J L=>by
   subst J
   rw[F.y,if_pos (by omega),A.ixn E,Qf,clone_int _ (h x (Qq E)),Qf,Qf,A.gd1 (A.r64n (by omega))]
   rw[show(List.set s (k:Int).toNat x)=s from by rw[Q4];exact set_same E]
   exact L s rfl)
  (by have:=Qaz;omega) g rfl
theorem EqI (a b:List Int)(N:a.length≤100000):F.s a b=some (decide (a=b)):=by
 unfold F.s
 by_cases E:a.length=b.length
 ·rw[if_neg (by omega)]
  rw[A.eqk a b (fun f y=>F.i a b f y) (some true) (some false) E (fun f=>by rw[F.i,if_neg (by omega)])
   (fun f k x y J L hk=>by
    rw[F.i,if_pos (by omega),A.ixn J,Qf,A.ixn L,Qf]
    by_cases h:x=y
    ·rw[if_neg (fun e=>e h),if_pos h,A.gd1 (A.r64n (by omega))]
    ·rw[if_pos h,if_neg h]) (by have:=Qaz;omega),A.ite_dec]
 ·rw[if_pos (by omega),decide_eq_false (fun e=>E (by rw[e]))]
theorem nd_ext {x y:Nd}:x=y↔x.1=y.1∧x.2.1=y.2.1∧x.2.2.1=y.2.2.1∧(x.2.2.2.1=y.2.2.2.1)∧x.2.2.2.2.1=y.2.2.2.2.1∧x.2.2.2.2.2.1=y.2.2.2.2.2.1∧x.2.2.2.2.2.2=y.2.2.2.2.2.2:=by
 obtain⟨a1,a2,a3,a4,a5,a6,a7⟩:=x
 obtain⟨E,J,L,N,O,V,W⟩:=y
 simp only[Xk]
theorem P_same (x y:Nd)(h:x.2.2.1.length≤5000):F.aS x y=some (decide (x=y)):=by
 unfold F.aS F.av
 have e:=nd_ext (x:=x) (y:=y)
 by_cases E:x.1=y.1∧x.2.1=y.2.1
 ·rw[A.ba,if_pos (decide_eq_true E),EqI _ _ (by omega),Qf]
  by_cases J:x.2.2.1=y.2.2.1
  ·rw[if_pos (decide_eq_true J)]
   simp only[A.ba]
   congr 1
   refine decide_eq_decide.2 ?_
   rw[e]
   exact⟨fun h=>⟨E.1,E.2,J,h.1.1.1,h.1.1.2,h.1.2,h.2⟩,fun h=>⟨⟨⟨h.2.2.2.1,h.2.2.2.2.1⟩,h.2.2.2.2.2.1⟩,h.2.2.2.2.2.2⟩⟩
  ·rw[if_neg (by rw[decide_eq_true_iff];exact J),decide_eq_false (fun h=>J (e.1 h).2.2.1)]
 ·rw[A.ba,if_neg (by rw[decide_eq_true_iff];exact E),decide_eq_false (fun h=>E ⟨(e.1 h).1,(e.1 h).2.1⟩)]
theorem P_Same (a b:List Nd)(E:Few a):F.aT a b=some (decide (a=b)):=by
 have N:=E.1
 unfold F.aT F.b
 by_cases J:a.length=b.length
 ·rw[if_neg (by omega)]
  rw[A.eqk a b (fun f y=>F.a a b f y) (some true) (some false) J (fun f=>by rw[F.a,if_neg (by omega)])
   (fun f k x y L O hk=>by
    rw[F.a,if_pos (by omega),A.ixn L,Qf,A.ixn O,Qf]
    rw[show F.aS x y=some (decide (x=y))from P_same x y ((E.2 _ (Qq L)).1),Qf]
    by_cases h:x=y
    ·rw[decide_eq_true h,Wx,if_neg W8,if_pos h,A.gd1 (A.r64n (by omega))]
    ·rw[decide_eq_false h,Bool.not_false,if_pos rfl,if_neg h]) (by have:=Qaz;omega),A.ite_dec,Qf]
 ·rw[if_pos (by omega),Qf,decide_eq_false (fun e=>J (by rw[e]))]
theorem R_Same (a b:List Nd)(V:Few a):F.a2 a b=some (decide (a=b)):=by
 have hal:=V.1
 unfold F.a2
 by_cases W:a.length=b.length
 ·rw[if_neg (by omega)]
  rw[A.eqk a b (fun f y=>F.r a b f y) (some true) (some false) W (fun f=>by rw[F.r,if_neg (by omega)])
   (fun f k x y Y hy hk=>by
    have e:=nd_ext (x:=x) (y:=y)
    have hxl:=(V.2 _ (Qq Y)).1
    rw[F.r,if_pos (by omega),A.ixn Y,Qf,A.ixn hy,Qf,F.bc,A.bo]
    by_cases J:x.1≠y.1∨x.2.1≠y.2.1
    ·rw[if_pos (decide_eq_true J),F.aH,if_pos rfl,if_neg (fun h=>J.elim (fun E=>E (e.1 h).1) fun E=>E (e.1 h).2.1)]
    ·rw[if_neg (by rw[decide_eq_true_iff];exact J),F.aH]
     simp only[A.bo]
     by_cases E:(((x.2.2.2.1≠y.2.2.2.1∨x.2.2.2.2.1≠y.2.2.2.2.1)∨x.2.2.2.2.2.1≠y.2.2.2.2.2.1)∨x.2.2.2.2.2.2≠y.2.2.2.2.2.2)∨(x.2.2.1.length:Int)≠(y.2.2.1.length:Int)
     ·rw[if_pos (decide_eq_true E),if_neg]
      intro h;subst h
      simp at E
     ·rw[if_neg (by rw[decide_eq_true_iff];exact E)]
      have N:x.2.2.1.length=y.2.2.1.length:=Int.ofNat.inj (Decidable.byContradiction fun hc=>E (.inr hc))
      rw[A.eqk x.2.2.1 y.2.2.1 (fun O i=>F.az (F.r a b f) (k:Int) x.2.2.1 y.2.2.1 O i) (F.r a b f ((k:Int)+1)) (some false) N
       (fun O=>by rw[F.az,if_neg (by omega),A.gd1 (A.r64n (by omega))])
       (fun O i u v hu hv hi=>by
        rw[F.az,if_pos (by omega),A.ixn hu,Qf,A.ixn hv,Qf]
        by_cases h:u=v
        ·rw[if_neg (fun e=>e h),if_pos h,A.gd1 (A.r64n (by omega))]
        ·rw[if_pos h,if_neg h]) (by have:=Qaz;omega)]
      by_cases L:x.2.2.1=y.2.2.1
      ·rw[if_pos L,if_pos]
       simp only[not_or,ne_eq,Decidable.not_not]at J E
       exact e.2 ⟨J.1,J.2,L,E.1.1.1.1,E.1.1.1.2,E.1.1.2,E.1.2⟩
      ·rw[if_neg L,if_neg (fun h=>L (e.1 h).2.2.1)]) (by have:=Qaz;omega),A.ite_dec]
 ·rw[if_pos (by omega),decide_eq_false (fun e=>W (by rw[e]))]
theorem RClone_eq (g:List Nd)(h:Few g):F.be g=some g:=by
 have V:=h.1
 have:=A.lp g (fun f (s:List Nd) y=>F.al g f s y) (fun _ l s=>some (s++l)) (fun k s=>s=g.take k)
  (fun f s E=>by rw[F.al,if_neg (by omega),List.append_nil])
  (fun f s k x J hk E L=>by
   have N:=(h.2 x (Qq J)).1
   have O:s.length≤40:=by rw[E,Qu];omega
   rw[F.al,if_pos (by omega),A.ixn J,Qf,A.gd1 (by simp only[List.length_nil];omega),A.gd1 (by simp only[Wg];omega),A.gd1 (A.r64n (by omega))]
   rw[L _ (by rw[E,List.take_add_one,J];rfl),Xe];rfl)
  (by have:=Qaz;omega) [] rfl
 unfold F.be
 rw[this];rfl
theorem inner (K:List Nd→Int→Option Bool)(k:Nat)(z0:Nd)(xs r:List Nd)(hk:k<r.length)(hz:z0.2.2.1.length≤5000)(hl:r.length≤40)(N:xs.length=r.length)(O: ∀i,k<i→xs[i]?=r[i]?)(V:xs[k]?=some z0)
  (W: ∀s:List Nd,s.length=r.length→(∀i,k<i→s[i]?=r[i]?)→K s ((k:Int)+1)=some true):F.o K (k:Int) z0 A.FU xs 0=some true:=
 A.lp z0.2.2.1 (fun f (s:List Nd) y=>F.o K (k:Int) z0 f s y) (fun _ _ _=>some true) (fun _ s=>s.length=r.length∧(∀i,k<i→s[i]?=r[i]?)∧∃z,s[k]?=some z∧z.2.2.1.length=z0.2.2.1.length)
  (fun f s ⟨E,J,_⟩=>by rw[F.o,if_neg (by omega),A.gd1 (A.r64n (by omega))];exact W s E J)
  (fun f s j x hx hj ⟨E,J,z,Y,p4⟩ ih=>by
   have L:j<z.2.2.1.length:=by omega
   have hq:z.2.2.1[j]?=some z.2.2.1[j]:=Qc L
   rw[F.o,if_pos (by omega),A.ixn Y,Qf,A.ixn hq,Qf,Qf,A.gd1 (A.r64n (by omega))]
   refine ih _ ⟨by rw[Qt];exact E,fun i hi=>?_,_,by rw[Q4];exact Q3 (by omega),by simp only[Qt];exact p4⟩
   rw[Q4,We (by omega)];exact J i hi)
  (by have:=Qaz;omega) xs ⟨N,O,z0,V,rfl⟩
theorem begunM:F.bd=some true:=by kernel_rfl
theorem graphSame_plain {P Q:Prop}(a b:List Nd)(_:P)(_:Q):F.aF a b=some true:=by
 obtain⟨x,J,L⟩:=few_eq a
 obtain⟨y,V,W⟩:=few_eq b
 unfold F.aF
 rw[begunM,Qf,J,V]
 simp only[Wx,Wd,if_false,Qf]
 have N:F.q a b true=some true:=by
  unfold F.q;rw[if_pos rfl,begunM];rfl
 cases x with
 |false=>simp only[Bool.not_false,if_true];exact N
 |true=>
  cases y with
  |false=>simp only[Wx,Bool.not_false,Wd,if_false];exact N
  |true=>
   have E:=L rfl
   have Y:=E.1
   simp only[Wx,Wd,if_false]
   unfold F.q
   rw[if_neg W8,Clone_eq a (by omega) (fun n hn=>(E.2 n hn).1),Qf,P_Same a b E,Qf,R_Same a b E,Qf,if_neg (fun h=>h rfl),P_Same a a E,Qf,R_Same a a E,Qf,decide_eq_true (rfl:a=a),Wx,if_neg W8]
   unfold F.z
   rw[if_neg W8,RClone_eq a E,Qf]
   exact A.lp a (fun f (s:List Nd) y=>F.p a a a f s y) (fun _ _ _=>some true) (fun k s=>s.length=a.length∧∀i,k≤i→s[i]?=a[i]?)
    (fun f s _=>by rw[F.p,if_neg (by omega),R_Same a a E,Qf,decide_eq_true (rfl:a=a)])
    (fun f s k x J hk ⟨p1,O⟩ ih=>by
     have hs:s[k]?=some x:=by rw[O k (Q7 _)];exact J
     rw[F.p,if_pos (by omega),A.ixn hs,Qf,Qf,Q4,A.ixn (Q3 (by omega)),Qf]
     refine inner _ k _ _ a hk ?_ Y (by rw[Qt];exact p1) (fun i hi=>?_) (Q3 (by omega)) fun s' q1 q2=>ih s' ⟨q1,fun i hi=>q2 i (by omega)⟩
     ·exact(E.2 x (Qq J)).1
     ·rw[We (by omega)];exact O i (by omega))
    (by have:=Qaz;omega) a ⟨rfl,fun _ _=>rfl⟩
end Go.Proofs.YtdimhhfngpppoaaDoor
end
section
namespace Go.Z
open Go.RowKit
def OpenT (P:Program)(T:TypeId)(t:Ty):Prop:=
 P.cellsOf T=t.size∧∀(H:Type) (enc:TypeId×Value→H) (w:World) (base:Nat) (spare:Nat→Bool) (held:Bool) (fuel:Nat) (cs:List Value) (x:DataW H×List MemPlace),
  DataW.trod enc P w base spare held fuel T cs=some x→∃y:t.den,t.rep w (nt []) cs y
section
variable {P:Program}{T e:TypeId}
theorem ot_int {k:IntKind}(J:P.cellsOf T=1)(L:P.underlying T=some (.int k)):OpenT P T (.int k):=⟨J,fun H enc w base spare held fuel cs x h=>by
 obtain⟨n,rfl,_,E⟩:=DataW.trod_int L h
 refine⟨n,rfl,?_⟩
 simp only[Lit.wf,Qk,decide_eq_true_eq]at E
 exact E⟩
theorem ot_str (E:P.cellsOf T=1)(J:P.underlying T=some .string):OpenT P T .str:=⟨E,fun H enc w base spare held fuel cs x h=>by
 obtain⟨s,rfl,_,L⟩:=DataW.trod_string J h
 exact⟨s,rfl,L⟩⟩
def OpenPs (P:Program):List (TypeId×Nat)→Nat→Ty→Prop
 | [],_,_=>False
 | [(T,o')],o,t=>o'=o∧OpenT P T t
 |(T,o')::p::ps,o,.pair a b=>o'=o∧OpenT P T a∧OpenPs P (p::ps) (o+a.size) b
 |_::_::_,_,_=>False
theorem open_ps {H:Type}{enc:TypeId×Value→H}{w:World}{base:Nat}{spare:Nat→Bool}{held:Bool}{fuel:Nat}{cs:List Value}:
  ∀(ps:List (TypeId×Nat)) (o:Nat) (t:Ty),OpenPs P ps o t→(∀p∈ps,∃x,DataW.trod enc P w base spare held fuel p.1 ((cs.drop p.2).take (P.cellsOf p.1))=some x)→∃y:t.den,t.rep w (nt []) ((cs.drop o).take t.size) y
 | [],_,_,h,_=>h.elim
 | [(T,o')],o,t,h,E=>by
  obtain⟨rfl,⟨J,L⟩⟩:=h
  obtain⟨x,E⟩:=E (T,o') (Qb.2 rfl)
  rw[←J];exact L _ _ _ _ _ _ _ _ _ E
 |(T,o')::p::ps,o,.pair a b,h,E=>by
  obtain⟨rfl,⟨J,L⟩,V⟩:=h
  obtain⟨x,W⟩:=E (T,o') (Qi ..)
  obtain⟨ya,N⟩:=L _ _ _ _ _ _ _ _ _ W
  obtain⟨yb,O⟩:=open_ps (p::ps) _ b V fun q hq=>E q (Qd _ hq)
  refine⟨(ya,yb),_,_,?_,N,O⟩
  show(cs.drop o').take (a.size+b.size)=_
  rw[J,List.take_add,List.drop_drop]
 |_::_::_,_,.int _,h,_=>h.elim
 |_::_::_,_,.byte,h,_=>h.elim
 |_::_::_,_,.bool,h,_=>h.elim
 |_::_::_,_,.str,h,_=>h.elim
 |_::_::_,_,.slice _,h,_=>h.elim
theorem ot_struct {fs:List Field}{t:Ty}(N:P.cellsOf T=t.size)(O:P.underlying T=some (.struct fs.toArray))(h:OpenPs P (fs.map fun f=>(f.type,f.offset)) 0 t):OpenT P T t:=⟨N,fun H enc w base spare held fuel cs x V=>by
 obtain⟨xs,n,_,_,hl,W,Y⟩:=DataW.trod_struct O V
 have E:cs=(cs.drop 0).take t.size:=by rw[Wy,Xg (by omega)]
 rw[E]
 refine open_ps (fuel:=n) (enc:=enc) (base:=base) (spare:=spare) (held:=held) _ 0 t h fun p hp=>?_
 obtain⟨f,J,rfl⟩:=Xm.1 hp
 obtain⟨i,L,he⟩:=Wr J
 have h1:=Y i f (by rw[Xh,Qc L,he])
 rw[h1,Qc (by rw[W];simpa using L)]
 exact⟨_,rfl⟩⟩
theorem rows_of {t:Ty}{w:World}{g:Addr}: ∀(n:Nat),(∀i,i<n→∃(cs:List Value) (y:t.den),cs.length=t.size∧(∀j u,cs[j]?=some u→w.cell? (g.add (i*t.size+j))=some u)∧t.rep w (nt []) cs y)→
  ∃(cells:List Value) (ys:List t.den),ys.length=n∧cells.length=n*t.size∧(∀j u,cells[j]?=some u→w.cell? (g.add j)=some u)∧∀(i:Nat) (y:t.den),ys[i]?=some y→t.rep w (nt []) ((cells.drop (i*t.size)).take t.size) y
 |0,_=>⟨[],[],rfl,by simp,by simp,by simp⟩
 |n+1,h=>by
  obtain⟨cells,ys,O,L,V,W⟩:=rows_of n fun i E=>h i (by omega)
  obtain⟨cs,y,Y,c2,c3⟩:=h n (by omega)
  refine⟨cells++cs,ys++[y],by simp[O],by rw[Q5,L,Y,Nat.succ_mul],fun j u J=>?_,?_⟩
  ·by_cases N:j<cells.length
   ·rw[Qs N]at J;exact V j u J
   ·rw[Qx (by omega)]at J
    have:=c2 _ u J
    rwa[L,show n*t.size+(j-n*t.size)=j by omega]at this
  ·refine Qce (xs:=ys) (ys:=[y]) (by rw[L,O]) W fun i y' E=>?_
   have:i=0:=by have:=(Qa.1 E).1;simp at this;omega
   subst this
   simp at E;subst E
   rw[Nat.zero_mul,Wy,Xg (by omega)];exact c3
theorem ot_slice {t:Ty}(hc:P.cellsOf T=1)(ht:P.underlying T=some (.slice e))(h:OpenT P e t):OpenT P T (.slice t):=⟨hc,fun H enc w base spare held fuel cs x hx=>by
 rcases DataW.trod_slice ht hx with⟨rfl,_⟩|⟨ad,len,cap,elems,rest,n,_,rfl,_,hb,hl,Y,hlen,W,_,_⟩
 ·exact⟨[],Qcp _⟩
 ·have each: ∀i,i<len→∃(cs:List Value) (y:t.den),cs.length=t.size∧(∀j u,cs[j]?=some u→w.cell? (ad.add (i*t.size+j))=some u)∧t.rep w (nt []) cs y:=fun i hi=>by
   have E:=W i hi
   rw[Qc (by omega),Xa]at E
   obtain⟨cs',L,N⟩:=E
   obtain⟨_,O,h5⟩:=World.cells?_some L
   obtain⟨y,hy⟩:=h.2 _ _ _ _ _ _ _ _ _ N
   rw[h.1]at O h5
   refine⟨cs',y,O,fun j u V=>?_,hy⟩
   have J:=(Qa.1 V).1
   have:=h5 j (by omega)
   rw[add_add]at this
   rw[this,V]
  obtain⟨cells,ys,E,L,N,O⟩:=rows_of len each
  by_cases hz:len=0
  ·subst hz
   have:ys=[]:=Wn E
   subst this
   exact⟨[],some ad,cap,[],rfl,by simp,Y,by simp,.inl rfl,by simp⟩
  ·have hp:=Qah t
   have J:0<cells.length:=by rw[L];exact Nat.mul_pos (by omega) hp
   have h0:=N 0 _ (Qc J)
   have hspot:=World.cell?_spot h0
   obtain⟨b,off,spot⟩:=ad
   simp only[Addr.add]at hspot
   subst hspot
   refine⟨ys,some ⟨b,off,none⟩,cap,cells,by rw[E],by omega,Y,by rw[E];exact L,.inr ⟨b,off,rfl,by simp[nt],fun j u V=>?_⟩,O⟩
   have:=N j u V
   rwa[Addr.add_lit]at this⟩
end
end Go.Z
end
section
namespace Go.Proofs.YtdimhhfngpppoaaDoor.graphSameDone
open Go.ChangeShapes Go.WideShapes Go.ChangeAt Go.RowKit
theorem own:ownKnob Tryd.prog.godebug=none:=by kernel_rfl
theorem laidOut:laidOutB Tryd.prog=true:=by kernel_rfl
theorem ot3:Z.OpenT Tryd.prog 3 A.ti:=Z.ot_int (by kernel_rfl) Tryd.underlying3
theorem ot29:Z.OpenT Tryd.prog 29 A.TI:=Z.ot_slice (by kernel_rfl) Tryd.underlying29 ot3
theorem ot2:Z.OpenT Tryd.prog 2 A.ti:=Z.ot_int (by kernel_rfl) Tryd.underlying2
theorem ot9:Z.OpenT Tryd.prog 9 Z.Ty.str:=Z.ot_str (by kernel_rfl) Tryd.underlying9
theorem ot31:Z.OpenT Tryd.prog 31 T30:=Z.ot_struct (by kernel_rfl) Tryd.underlying31 ⟨rfl,ot3,rfl,ot2,rfl,ot9⟩
theorem ot33:Z.OpenT Tryd.prog 33 T32:=Z.ot_struct (by kernel_rfl) Tryd.underlying33 ⟨rfl,ot3,rfl,ot3,rfl,ot29,rfl,ot31,rfl,ot9,rfl,ot2,rfl,ot3⟩
theorem ot22:Z.OpenT Tryd.prog 22 (Z.Ty.slice T32):=Z.ot_slice (by kernel_rfl) Tryd.underlying22 ot33
theorem ot24:Z.OpenT Tryd.prog 24 T23:=Z.ot_struct (by kernel_rfl) Tryd.underlying24 ⟨rfl,ot22⟩
set_option maxRecDepth 100000 in
theorem laid_met (os:Os)(args:Array Value):laidMetH Tryd.prog Rows.graphSameRow.laid (({World.holding Tryd.prog os ⟨#[],#[],[]⟩with heap:=((World.holding Tryd.prog os ⟨#[],#[],[]⟩).heap.modify 0 (A.putCells A.tabF)).modify 1 (A.putCells A.tabA)}:World).forCall (fun _ _=>0) ⟨#[],args,[]⟩).memory:=by
 rw[MakeChecks.laidMetH_plain _ _ _ (by kernel_rfl)]
 exact(LaidIn.of_run (l:=Rows.graphSameRow.laid) [1,0] 8 (by kernel_rfl) (by kernel_rfl) (by kernel_rfl) (by kernel_rfl)).met
theorem of_laid {W:World}(h:laidMetH Tryd.prog Rows.graphSameRow.laid W):Lib.Utf8Tabs 0 1 W:=by
 rw[MakeChecks.laidMetH_plain _ _ _ (by kernel_rfl)]at h
 have E:=Lib.laidMet.reads h (.tail _ (.head _))
 rw[show Rows.laid_unicode_utf8_first=Lib.firstData from Pinned.utf8First_eq]at E
 have J:=Lib.laidMet.reads h (.head _)
 rw[show(Rows.laid_unicode_utf8_acceptRanges:DataW Unit)=Lib.acceptData by kernel_rfl]at J
 exact utf8Tabs_of_readsT (U8Types.of196 Tryd.laysValid) ⟨by kernel_rfl,by kernel_rfl,by kernel_rfl,by kernel_rfl,by kernel_rfl,by kernel_rfl,by kernel_rfl⟩ E J
set_option maxHeartbeats 1000000 in
set_option maxRecDepth 100000 in
theorem lifted (os:Os)(started:os.Started)(H:Type)(enc:TypeId×Value→H):
  ReturnsInHanded {} Tryd.checked os 3 .any (fun w args=>(Rows.graphSameSpec.pre enc Tryd.prog Tryd.f3 [] false w args∧laidMetH Tryd.prog Rows.graphSameRow.laid w)∧sizedMet enc Tryd.prog Tryd.f3 (OpenSpec.ofChange Rows.graphSameSpec) false w args) (Rows.graphSameSpec.post enc Tryd.prog Tryd.f3 false true false false):=by
 refine returnsInHanded_of_change_and (C:=Tryd.checked) (X:=fun w _=>laidMetH Tryd.prog Rows.graphSameRow.laid w) (fun _ _ _ V h=>h.of_heap V) own started (by kernel_rfl) Tryd.func3
  (ChangeSpec.witness_shaped (enc:=enc) (C:=Tryd.checked) (os:=os) (X:=fun w _=>laidMetH Tryd.prog Rows.graphSameRow.laid w) false ({World.holding Tryd.prog os ⟨#[],#[],[]⟩with heap:=((World.holding Tryd.prog os ⟨#[],#[],[]⟩).heap.modify 0 (A.putCells A.tabF)).modify 1 (A.putCells A.tabA)}) #[.agg #[.slice none 0 0],.agg #[.slice none 0 0]] 16 rfl (World.shaped_of_RefB (by kernel_rfl) (by kernel_rfl)) (by kernel_rfl) (by kernel_rfl) (by kernel_rfl) (laid_met os _)) ?_
 intro W base args ds gs before hval0 hW hcnd hsz0 hL _
 have hval: ∀(j:Nat) t v,Tryd.f3.params[j]?=some t→args[j]?=some v→Value.okWide Tryd.prog W .any base t v:=hval0
 have hW':=hW
 obtain⟨p,q,O,hV,rfl,hfz,hnd⟩:=hW
 have hA:DataW.TrodAll enc Tryd.prog W 0 (fun _=>true) true Tryd.f3.params.toList args.toList ds p:=O
 rw[Tryd.params3]at hA hval
 obtain⟨v0,vs0,d0,ds0,p0,q0,hargs,rfl,rfl,h0,r0⟩:=trodAll_cons hA
 obtain⟨v1,vs1,d1,ds1,p1,q1,rfl,rfl,rfl,h1,r1⟩:=trodAll_cons r0
 obtain⟨rfl,rfl,rfl⟩:=trodAll_nil r1
 obtain rfl:args=#[v0,v1]:=by cases args;simp_all
 obtain⟨rfl,rfl⟩:=trodVars_none hV
 have k0:=h0
 have lt0: ∀x∈p0,x.block<W.heap.size:=by obtain⟨m,Y⟩:=k0;exact DataW.trod_lt m _ _ _ Y
 obtain⟨fu0,hf0⟩:=h0
 obtain⟨L,E⟩:=ot24.2 _ _ _ _ _ _ _ _ _ hf0
 obtain⟨cs0,rfl,_⟩:=okWide_struct Tryd.underlying24 (hval 0 24 v0 rfl rfl)
 replace E:T23.rep W (Z.nt []) cs0.toList L:=E
 have hok0:=Z.rep_ok _ E
 obtain⟨a0,c0,hc0⟩: ∃a c,cs0.toList=[.slice a L.length c]:=by obtain⟨a,c,_,h,_⟩:=E;exact⟨a,c,h⟩
 obtain rfl:cs0=#[.slice a0 L.length c0]:=by rw[←Q1 (xs:=cs0),hc0]
 have k1:=h1
 have lt1: ∀x∈p1,x.block<W.heap.size:=by obtain⟨m,Y⟩:=k1;exact DataW.trod_lt m _ _ _ Y
 obtain⟨fu1,hf1⟩:=h1
 obtain⟨N,J⟩:=ot24.2 _ _ _ _ _ _ _ _ _ hf1
 obtain⟨cs1,rfl,_⟩:=okWide_struct Tryd.underlying24 (hval 1 24 v1 rfl rfl)
 replace J:T23.rep W (Z.nt []) cs1.toList N:=J
 have hok1:=Z.rep_ok _ J
 obtain⟨a1,c1,hc1⟩: ∃a c,cs1.toList=[.slice a N.length c]:=by obtain⟨a,c,_,h,_⟩:=J;exact⟨a,c,h⟩
 obtain rfl:cs1=#[.slice a1 N.length c1]:=by rw[←Q1 (xs:=cs1),hc1]
 clear O hval0
 have htab:=of_laid hL
 have hF:F.aF L N=some true:=graphSame_plain L N hok0 hok1
 have hct:=o_ad a0 a1 c0 c1 L N true hF
 refine(hct W (fun _=>True) (A.Hp.start ⟨A.Hall.sh E,A.Hall.sh J,A.Hall.tabs htab⟩)).mono ?_
 rintro e W' ⟨v,H',rfl,⟨rfl,rfl⟩,V⟩
 have bel:=V.ch.below
 exact⟨_,rfl,_,_,_,[],_,[],hW',trodAll_mk1 (shut_bool Tryd.underlying4 _),(trodAll_cons_mk (Below.trod laidOut (by kernel_rfl) (of_decide_eq_true (by kernel_rfl)) k0 bel lt0) (trodAll_cons_mk (Below.trod laidOut (by kernel_rfl) (of_decide_eq_true (by kernel_rfl)) k1 bel lt1) trodAll_mk0)),rfl,bel.frame _,fun h=>by cases h⟩
theorem over:Rows.graphSameRow.holds Tryd.pinned (OpenSpec.ofChange Rows.graphSameSpec):=
 OpenClaim.holds_of_wide 3 Tryd.f3 rfl rfl rfl rfl rfl rfl rfl ⟨rfl,rfl,rfl,rfl,rfl⟩ rfl rfl rfl rfl rfl (by kernel_rfl) Tryd.func3 (by kernel_rfl)
  (of_decide_eq_true (by kernel_rfl)) (by unfold Func.isWrapper;first|(rw[if_pos (by decide+kernel)];kernel_rfl)|(rw[if_neg (by decide+kernel)];exact⟨rfl,rfl⟩))
  (fun os started H enc _=>lifted os started H enc)
theorem proved:Rows.GraphSameCardSaid:=
 Claim7.holds_tied_plain_at .later [] [.data,.pinned] true (true,"262405857351b803ef358a1ba2e3f92f479827980d44dda598b36170c58fe9ce") false
  over (fun _ h=>by cases h) (by kernel_rfl) (fun _ h=>by cases h) graphSame_row_tie rfl ⟨rfl,rfl⟩ (by kernel_rfl) rfl
  (fun f fn L E=>by
   obtain rfl:f=3:=Wq ((show Tryd.prog.funcNamed Rows.graphSameRow.func=some 3 by kernel_rfl).symm.trans L) |>.symm
   obtain rfl:fn=Tryd.f3:=(Wq (Tryd.func3.symm.trans E)).symm
   exact⟨by kernel_rfl,fun j t J=>by
    rw[Tryd.params3]at J
    have N:t∈[24,24]:=by simpa using Array.mem_of_getElem? J
    have hall:([24,24].all fun u=> !Tryd.prog.wantsStandIn u)=true:=by kernel_rfl
    exact(show Tryd.prog.wantsStandIn t=false by simpa using Q8.1 hall t N)⟩)
  (by kernel_rfl)
#print axioms proved
end Go.Proofs.YtdimhhfngpppoaaDoor.graphSameDone
end
