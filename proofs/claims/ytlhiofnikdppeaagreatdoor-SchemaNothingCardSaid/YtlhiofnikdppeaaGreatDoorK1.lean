/- Functions on data, what they tell, and that the code computes them. -/
import Derived.Test.YtlhiofnikdppeaaGreatDoorK0
import Derived.RangeFuncSeq
import Derived.RangeFuncBound
import Derived.Shelf.Unicode.ValidAny
import Derived.Calls
import GoSem.Step
set_option linter.unusedVariables false
set_option linter.unusedSimpArgs false
set_option linter.unusedSectionVars false
set_option maxRecDepth 20000
section
namespace Go.A
open Go.RowKit Go.Z
def ix {α:Type}(xs:List α)(i:Int):Option α:=if i<0 then none else xs[i.toNat]?
theorem Qbf {α:Type}{xs:List α}{i:Int}{x:α}(h:ix xs i=some x): ∃k:Nat,i=(k:Int)∧xs[k]?=some x:=by
 unfold ix at h
 split at h
 ·cases h
 ·exact⟨i.toNat,by omega,h⟩
def knb (H:List (Nat×Res)):List Nat→List (Nat×TypeId×List Value)
 | []=>[]
 |k::ks=>match hk H k with
  |some (.blk g e cs)=>(g,e,cs)::knb H ks
  |_=>knb H ks
def kne (H:List (Nat×Res)):List Nat→List (Addr×List Value)
 | []=>[]
 |k::ks=>match hk H k with
  |some (.el _ b o cs)=>(⟨b,o,none⟩,cs)::kne H ks
  |_=>kne H ks
theorem o_bL {C:Cx}{H:List (Nat×Res)}{w:World}(h:Hp C H w)(bs es:List Nat):Kn.ok ⟨knb H bs,kne H es⟩ w:=by
 refine⟨?_,?_⟩
 ·induction bs with
  |nil=>intro b E;cases E
  |cons k ks I=>
   intro b E;unfold knb at E
   split at E
   ·rename_i g e cs L
    rcases Qg.1 E with rfl|E
    ·exact h.hold k _ L
    ·exact I b E
   ·exact I b E
 ·induction es with
  |nil=>intro b E;cases E
  |cons k ks I=>
   intro b E;unfold kne at E
   split at E
   ·rename_i j g o cs L
    rcases Qg.1 E with rfl|E
    ·exact(h.hold k _ L).1
    ·exact I b E
   ·exact I b E
section
variable {r:Option Nat}{P:Program}{ops:Array Oper}{Q:Exit→Act→World→Prop}{rest lst:List Oper}{C:Cx}{l:List (Nat×Value)}{H:List (Nat×Res)}{d:Nat}{op:Op}{T:TypeId}{pos:String}{af:Array Edge}
theorem AL.q (bs es:List Nat)(hs:List Hint)(ks:List Nat)(cs:List Prop)(nl:List (Nat×Value))(I:conj cs)(h:AL r P ops Q (lst.drop hs.length) C (cat nl l) H)
  (hq:((qs P ⟨knb H bs,kne H es⟩ C.n ops hs lst (q0 l)).bind (qfin l ks))=some (cs,nl):=by kernel_rfl)
  (L:(qs P ⟨knb H bs,kne H es⟩ C.n ops hs lst (q0 l)).map (fun s=>s.q.map Prod.fst)=(qs P ⟨knb H bs,kne H es⟩ C.n ops hs lst (q0 l)).map (fun s=>s.q.map Prod.snd):=by kernel_rfl):AL r P ops Q lst C l H:=fun a w N E=>
 Z.qr hs ks cs nl (o_bL E bs es) N (fun a' hf'=>h a' w hf' E) I hq L
theorem AL.val {v:Value}(L:Nat.ble (d+1) C.n=true)(N: ∀a w,Fr a C.n C.ds l→Hp C H w→(execOp a.eval ⟨some d,op,T,pos,af,none⟩).run P w=.ok (.value v) w)(h:AL r P ops Q rest C ((d,v)::l) H):AL r P ops Q (⟨some d,op,T,pos,af,none⟩::rest) C l H:=
 fun a w E I=>Z.val E L (N a w E I) fun a' hf'=>h a' w hf' I
theorem AL.on {dst:Option Tmp}{j dj:Nat}{b:Bool}(I:(ops[j]?).bind (·.dst)=some dj)(L:lk l dj=some (.bool b))(h:AL r P ops Q (⟨dst,op,T,pos,af,none⟩::rest) C l H):AL r P ops Q (⟨dst,op,T,pos,af,some (j,b)⟩::rest) C l H:=
 fun a w E N=>Z.on E I L (h a w E N)
theorem AL.cnd {ρ:Type}{A B R:Option ρ}{j:Nat}{b:Bool}(L:lk l j=some (.bool b))(E:(if b=true then A else B)=R)(O:A=R→AL r P ops Q rest C ((j,.bool true)::l) H)(V:B=R→AL r P ops Q rest C ((j,.bool false)::l) H):AL r P ops Q rest C l H:=fun a w I N=>by
 cases b with
 |true=>rw[if_pos rfl]at E;exact O E a w (I.cons I L) N
 |false=>rw[if_neg (by simp)]at E;exact V E a w (I.cons I L) N
theorem AL.cnp {ρ:Type}{A B R:Option ρ}{j:Nat}{p:Prop}[Decidable p](L:lk l j=some (.bool (decide p)))(E:(if p then A else B)=R)(O:p→A=R→AL r P ops Q rest C ((j,.bool true)::l) H)(V: ¬p→B=R→AL r P ops Q rest C ((j,.bool false)::l) H):AL r P ops Q rest C l H:=fun a w I N=>by
 by_cases hp:p
 ·rw[if_pos hp]at E;exact O hp E a w (I.cons I (by rw[L,decide_eq_true hp])) N
 ·rw[if_neg hp]at E;exact V hp E a w (I.cons I (by rw[L,decide_eq_false hp])) N
theorem Qde {K K':Lf→Prop}: ∀{n:Nat},(∀ps,K ps→K' ps)→tele n K→tele n K'
 |0,h,hk=>h [] hk
 |n+1,h,hk=>fun A c=>Qde (fun ps=>h ((A,c)::ps)) (hk A c)
theorem AL.ixc {t:Ty}{A:Option Addr}{c kn:Nat}{xs:List t.den}{ko:Option Nat}{x y:Operand}{i:Int}{kd:IntKind}{v:t.den}{e tt:TypeId}
  (hrow: ∀w,Hp C H w→∃G:Nat→Prop,Row t w (Fh C H) G A c xs∧∀b,G b→match ko with|none=>∀k,¬Bk H k b|some k=>Bk H k b)
  (V: ∀j,ko=some j→∀r,hk H j=some r→r.ref=none) (hx:ev l x=some (.slice A xs.length c)) (hy:ev l y=some (.int kd i)) (hi:ix xs i=some v) (ht:P.underlying tt=some (.slice e)) (hs:szB P e=some t.size)
  (h:t.ok v→tele (lv t) fun ps=>∀b o,(∃w,Hp C H w∧A=some ⟨b,o,none⟩)→AL r P ops Q rest C ((d,.pointer (some ⟨b,o+i.toNat*t.size,none⟩))::l) (hcat (kx (kn+1) (rs t v ps)) ((kn,.el ko b (o+i.toNat*t.size) (cl t v ps))::H)))
  (hd:Nat.ble (d+1) C.n=true) (hn: ∀ps:Lf,ps.length=lv t→nok H kn (1+(rs t v ps).length)=true):AL r P ops Q (⟨some d,.indexAddr tt x y,T,pos,af,none⟩::rest) C l H:=fun a w W hh=>by
 obtain⟨k,rfl,hv⟩:=Qbf hi
 obtain⟨G,hR,hG⟩:=hrow w hh
 obtain⟨b,o,es,hA,hb,hbl,hc,O⟩:=hR.at hv
 obtain⟨ps,hl,rfl,hrs⟩:=rep_cl (B:=Bk H) t (Qaf t O)
 have hlt:=(Qc.1 hv).1
 have hn':=hn ps hl
 have L:hk H kn=none:=Qbm hn' (Qq _) (by omega)
 have h1:Hp C ((kn,.el ko b (o+k*t.size) (cl t v ps))::H) w:=hh.add L rfl (fun j E r O=>V j E r O) ⟨hc,hbl,by
  have:=hG b hb
  cases ko<;>exact this⟩
 have hnn: ∀n k',nok H k' n=true→(∀j,k'≤j→j<k'+n→j≠kn)→nok ((kn,.el ko b (o+k*t.size) (cl t v ps))::H) k' n=true:=by
  intro n
  induction n with
  |zero=>intro _ _ _;rfl
  |succ n ih=>
   intro k' N h3
   simp only[nok,Qk]at N ⊢
   refine⟨?_,ih (k'+1) N.2 fun j h4 h5=>h3 j (by omega) (by omega)⟩
   rw[Qaa,if_neg (Ne.symm (h3 k' (Qq _) (by omega)))];exact N.1
 have hn2:nok H (kn+1) (rs t v ps).length=true:=by
  rw[Y3 1]at hn'
  simp only[nok,Qk]at hn';exact hn'.2
 have N:Hp C (hcat (kx (kn+1) (rs t v ps)) ((kn,.el ko b (o+k*t.size) (cl t v ps))::H)) w:=by
  refine h1.adds (hnn _ _ hn2 fun j h4 _=>by omega) fun r2 h4=>?_
  obtain⟨h5,h6,h7⟩:=hrs r2 h4
  have I: ∀j b',Bk ((kn,.el ko b (o+k*t.size) (cl t v ps))::H) j b'↔Bk H j b':=fun j b'=>by
   by_cases E:j=kn
   ·subst E
    rw[Bk.cons_eq]
    exact⟨fun h=>by simp[Res.bl]at h,fun⟨_,h8,_⟩=>by rw[L]at h8;cases h8⟩
   ·exact Bk.cons_ne E
  exact⟨h6,h7,Res.to h5 (S:=[]) (Ch.refl w) (fun b' hF _=>⟨by simp,⟨fun j E=>hF.1.1 j ((I j b').1 E),hF.1.2⟩,hF.2⟩) (fun b' hB _=>⟨by simp,fun j E=>hB j ((I j b').1 E)⟩) (fun i b' _ hB=>⟨by simp,(I i b').2 hB⟩) (by simp)⟩
 subst hA
 refine Z.val (v:=.pointer (some ⟨b,o+k*t.size,none⟩)) W hd ?_ fun a' hf'=>Qav (h (rep_ok t O)) ps hl b o ⟨w,hh,rfl⟩ a' w hf' N
 have:=r_indexAddrA (P:=P) (w:=w) (d:=some d) (T:=T) (pos:=pos) (af:=af) (gd:=none) ht (Qal hs) (W.eval hx) rfl (W.eval hy) rfl hlt
 rw[Addr.add_lit]at this
 exact this
theorem Qcz: ∀(t:Ty) (v:t.den) (ps:Lf),ps.length=lv t→(rs t v ps).length=lv t
 | .int _,_,_,_=>rfl
 | .byte,_,_,_=>rfl
 | .bool,_,_,_=>rfl
 | .str,_,_,_=>rfl
 | .slice _,_,[p],_=>rfl
 | .slice _,_,[],h=>by cases h
 | .slice _,_,_::_::_,h=>by simp[lv]at h
 | .pair a b,v,ps,h=>by
  simp only[rs,Qj]
  simp only[lv]at h
  rw[Qcz a v.1 _ (by rw[Qz];omega),Qcz b v.2 _ (by rw[Xm];omega)];rfl
theorem rowS {k:Nat}{t:Ty}{A:Option Addr}{c:Nat}{xs:List t.den}(h:hk H k=some (.sh (.slice t) [.slice A xs.length c] xs))(w:World)(E:Hp C H w): ∃G:Nat→Prop,Row t w (Fh C H) G A c xs∧∀b,G b→∀k,¬Bk H k b:=
 ⟨Fh C H,Row.of (E.hold k _ h),fun _ I=>I.1⟩
theorem rowL {k:Nat}{t:Ty}{A:Option Addr}{c:Nat}{xs:List t.den}(h:hk H k=some (.ln t A c xs))(w:World)(E:Hp C H w): ∃G:Nat→Prop,Row t w (Fh C H) G A c xs∧∀b,G b→∀k,¬Bk H k b:=
 ⟨_,E.hold k _ h,fun _ I=>I⟩
theorem rowO {k:Nat}{t:Ty}{e:TypeId}{A:Option Addr}{c:Nat}{xs:List t.den}(h:hk H k=some (.own t e A c xs))(w:World)(E:Hp C H w): ∃G:Nat→Prop,Row t w (Fh C H) G A c xs∧∀b,G b→Bk H k b:=
 ⟨fun b=>b∈obl A,Row.own (E.hold k _ h) fun _ h=>h,fun _ I=>⟨_,h,I⟩⟩
theorem AL.ixs (k kn:Nat){t:Ty}{A:Option Addr}{c:Nat}{xs:List t.den}{x y:Operand}{i:Int}{kd:IntKind}{v:t.den}{e tt:TypeId}(I:ix xs i=some v)
  (h:t.ok v→tele (lv t) fun ps=>∀b o,AL r P ops Q rest C ((d,.pointer (some ⟨b,o,none⟩))::l) (hcat (kx (kn+1) (rs t v ps)) ((kn,.el none b o (cl t v ps))::H)))
  (E:hk H k=some (.sh (.slice t) [.slice A xs.length c] xs):=by rfl) (L:ev l x=some (.slice A xs.length c):=by rfl) (N:ev l y=some (.int kd i):=by rfl) (O:P.underlying tt=some (.slice e):=by rfl) (hs:szB P e=some t.size:=by kernel_rfl)
  (V:Nat.ble (d+1) C.n=true:=by rfl) (W:nok H kn (1+lv t)=true:=by kernel_rfl):AL r P ops Q (⟨some d,.indexAddr tt x y,T,pos,af,none⟩::rest) C l H:=
 AL.ixc (ko:=none) (rowS E) (fun _ h=>by cases h) L N I O hs (fun ho=>Qde (fun ps h b o _=>h b _) (h ho)) V fun ps hl=>by rw[Qcz t v ps hl];exact W
theorem AL.ixl (k kn:Nat){t:Ty}{A:Option Addr}{c:Nat}{xs:List t.den}{x y:Operand}{i:Int}{kd:IntKind}{v:t.den}{e tt:TypeId}(I:ix xs i=some v)
  (h:t.ok v→tele (lv t) fun ps=>∀b o,AL r P ops Q rest C ((d,.pointer (some ⟨b,o,none⟩))::l) (hcat (kx (kn+1) (rs t v ps)) ((kn,.el none b o (cl t v ps))::H)))
  (E:hk H k=some (.ln t A c xs):=by rfl) (L:ev l x=some (.slice A xs.length c):=by rfl) (N:ev l y=some (.int kd i):=by rfl) (O:P.underlying tt=some (.slice e):=by rfl) (hs:szB P e=some t.size:=by kernel_rfl)
  (V:Nat.ble (d+1) C.n=true:=by rfl) (W:nok H kn (1+lv t)=true:=by kernel_rfl):AL r P ops Q (⟨some d,.indexAddr tt x y,T,pos,af,none⟩::rest) C l H:=
 AL.ixc (ko:=none) (rowL E) (fun _ h=>by cases h) L N I O hs (fun ho=>Qde (fun ps h b o _=>h b _) (h ho)) V fun ps hl=>by rw[Qcz t v ps hl];exact W
theorem AL.ixo (k kn:Nat){t:Ty}{e':TypeId}{A:Option Addr}{c:Nat}{xs:List t.den}{x y:Operand}{i:Int}{kd:IntKind}{v:t.den}{e tt:TypeId}(O:ix xs i=some v)
  (h:t.ok v→tele (lv t) fun ps=>∀g,A=some ⟨g,0,none⟩→AL r P ops Q rest C ((d,.pointer (some ⟨g,i.toNat*t.size,none⟩))::l) (hcat (kx (kn+1) (rs t v ps)) ((kn,.el (some k) g (i.toNat*t.size) (cl t v ps))::H)))
  (E:hk H k=some (.own t e' A c xs):=by rfl) (V:ev l x=some (.slice A xs.length c):=by rfl) (W:ev l y=some (.int kd i):=by rfl) (ht:P.underlying tt=some (.slice e):=by rfl) (hs:szB P e=some t.size:=by kernel_rfl)
  (hd:Nat.ble (d+1) C.n=true:=by rfl) (hn:nok H kn (1+lv t)=true:=by kernel_rfl):AL r P ops Q (⟨some d,.indexAddr tt x y,T,pos,af,none⟩::rest) C l H:=
 AL.ixc (ko:=some k) (rowO E) (fun j h r I=>by injection h with h;subst h;rw[E]at I;injection I with I;subst I;rfl) V W O ht hs (fun ho=>Qde (fun ps h b o ⟨w,hh,L⟩=>by
  obtain⟨cells,hrow,_⟩:Own t e' 0 w (Fh C H) A c xs:=hh.hold k _ E
  rcases hrow.2 with⟨N,_⟩|⟨g,cap,cur,N,_⟩
  ·injection N with hA' _ _;rw[L]at hA';cases hA'
  ·injection N with hA' _ _;rw[L]at hA';injection hA' with hA';injection hA' with h1 h2 _;subst h2;have:=h b L;simpa using this) (h ho)) hd fun ps hl=>by rw[Qcz t v ps hl];exact hn
theorem AL.box (k:Nat){e:TypeId}{x:Operand}{v:Value}{cs:List Value}(h: ∀g,AL r P ops Q rest C ((d,.pointer (some ⟨g,0,none⟩))::l) ((k,.blk g e cs)::H))
  (I:ev l x=some v:=by rfl) (L:v.cells=cs.toArray:=by rfl) (N:Nat.ble (d+1) C.n=true:=by rfl) (O:hk H k=none:=by kernel_rfl):AL r P ops Q (⟨some d,.box e x,T,pos,af,none⟩::rest) C l H:=fun a w V W=>
 Z.st_box V N I L fun g w' a' hg hs hb E hf'=>h g a' w' hf' (W.new O E (fun b hb'=>by simp only[Res.bl,Qi]at hb';omega) (fun j hj=>by cases hj) fun _ _ _ _ _=>hb)
theorem AL.alloc (k:Nat){e:TypeId}{z:Value}{cs:List Value}(I: ∀w,(zeroValue e).run P w=.ok z w)(h: ∀g,AL r P ops Q rest C ((d,.pointer (some ⟨g,0,none⟩))::l) ((k,.blk g e cs)::H))
  (L:z.cells=cs.toArray:=by rfl) (N:Nat.ble (d+1) C.n=true:=by rfl) (O:hk H k=none:=by kernel_rfl):AL r P ops Q (⟨some d,.alloc e,T,pos,af,none⟩::rest) C l H:=fun a w V W=>
 Z.st_alloc V N I L fun g w' a' hg hs hb E hf'=>h g a' w' hf' (W.new O E (fun b hb'=>by simp only[Res.bl,Qi]at hb';omega) (fun j hj=>by cases hj) fun _ _ _ _ _=>hb)
theorem AL.store (k:Nat)(js:List Nat){t bt:TypeId}{x y:Operand}{g o m:Nat}{cs new cs':List Value}{v:Value}(h:AL r P ops Q rest C l ((k,.blk g bt cs')::ded js H))
  (I:hk H k=some (.blk g bt cs):=by rfl) (V:ev l x=some (.pointer (some ⟨g,o,none⟩)):=by rfl) (W:ev l y=some v:=by rfl) (hS:szB P t=some m:=by kernel_rfl)
  (hv:v.cells=new.toArray:=by rfl) (hm:new.length=m:=by rfl) (ho:Nat.ble (o+m) cs.length=true:=by rfl) (h1:new.all (fun u=>u.oneCell')=true:=by rfl) (hc:cs.take o++new++cs.drop (o+m)=cs':=by rfl) (L:hng [k] js H=true:=by kernel_rfl):
  AL r P ops Q (⟨none,.store t x y,T,pos,af,none⟩::rest) C l H:=fun a w hf O=>
 Z.st_store hf (O.hold k _ I) V W (Qal hS) hv hm ho (fun u hu=>Q7.1 h1 u hu) hc fun w' a' hs hb' N hf'=>
  h a' w' hf' (Hp.dd (O.upd N (fun b E=>⟨_,I,E⟩) (fun b E=>.inl ⟨_,I,E⟩) (fun j L=>by cases L) fun _ _ _ _ _ _ _=>hb') L)
def Dat (H:List (Nat×Res)):(t:Ty)→List Value→t.den→Prop
 | .int k,cs,x=>cs=[.int k x]∧k.has x
 | .byte,cs,x=>cs=[.int .u8 (x.toNat:Int)]
 | .bool,cs,x=>cs=[.bool x]
 | .str,cs,x=>cs=[.string x]∧x.size≤maxLen
 | .slice e,cs,xs=>(∃k,hk H k=some (.sh (.slice e) cs xs))∨(cs=[.slice none 0 0]∧xs=[])
 | .pair a b,cs,x=>Dat H a (cs.take a.size) x.1∧Dat H b (cs.drop a.size) x.2
theorem Dat.rep {w:World}(E:Hp C H w): ∀(t:Ty) {cs:List Value} {x:t.den},Dat H t cs x→t.rep w (Fh C H) cs x
 | .int _,_,_,h=>h
 | .byte,_,_,h=>h
 | .bool,_,_,h=>h
 | .str,_,_,h=>h
 | .slice e,cs,xs,h=>by
  rcases h with⟨k,h⟩|⟨I,L⟩
  ·exact E.hold k _ h
  ·subst I;subst L;exact Qfo e
 | .pair a b,cs,x,h=>⟨_,_,(Xf a.size cs).symm,Dat.rep E a h.1,Dat.rep E b h.2⟩
def Dats (H:List (Nat×Res))(t:Ty):List Value→List t.den→Prop
 |cs,[]=>cs=[]
 |cs,x::xs=>Dat H t (cs.take t.size) x∧Dats H t (cs.drop t.size) xs
theorem Dats.all {w:World}(L:Hp C H w){t:Ty}: ∀{cs:List Value} {xs:List t.den},Dats H t cs xs→cs.length=xs.length*t.size∧(∀u∈cs,u.oneCell'=true)∧∀(i:Nat) (x:t.den),xs[i]?=some x→t.rep w (Fh C H) ((cs.drop (i*t.size)).take t.size) x
 |cs,[],h=>by
  have h:cs=[]:=h
  subst h;exact⟨by simp,by simp,fun i x E=>by simp at E⟩
 |cs,x::xs,h=>by
  obtain⟨V,W⟩:=h
  obtain⟨N,h4,h5⟩:=Dats.all L W
  have I:=Dat.rep L t V
  have hl:=Qje t I
  rw[Qz]at hl
  rw[Xm]at N
  have hlen:cs.length=(xs.length+1)*t.size:=by rw[Nat.succ_mul,←N];omega
  refine⟨hlen,fun u O=>?_,fun i y E=>?_⟩
  ·rw[←Xf t.size cs,Qu]at O
   exact O.elim (Qfk t I u) (h4 u)
  ·cases i with
   |zero=>
    simp only[W9,Qw]at E
    subst E
    rw[Nat.zero_mul,Wq];exact I
   |succ i=>
    rw[Wc]at E
    have:=h5 i y E
    rw[Y6]at this
    rw[Nat.succ_mul,Y3];exact this
theorem AL.bsl (k:Nat){ty:Ty}{t e:TypeId}{len sz:Nat}{z:Value}{parts:List (Nat×Operand)}{vs:List (Nat×Value)}{cs:List Value}(xs:List ty.den)(V:Dats H ty cs xs)
  (h: ∀g,AL r P ops Q rest C ((d,.slice (some ⟨g,0,none⟩) len len)::l) ((k,.own ty e (some ⟨g,0,none⟩) len xs)::H))
  (W: ∀w,(zeroValue e).run P w=.ok z w) (hS: ∀w,(sizeOf e).run P w=.ok sz w) (I:xs.length=len:=by rfl) (L:ty.size=sz:=by rfl)
  (hp:evp l parts=some vs:=by rfl) (ht:P.underlying t=some (.slice e):=by rfl) (hs:Nat.ble (len*sz) 16777216=true:=by rfl) (h0:Nat.ble 1 (len*sz)=true:=by rfl)
  (hc:Instr.fill (fun i=>some (i*sz,sz)) ((Array.range (len*sz)).map (z.cells[· %z.cells.size]!)) vs=some cs.toArray:=by kernel_rfl)
  (hd:Nat.ble (d+1) C.n=true:=by rfl) (hn:hk H k=none:=by kernel_rfl):AL r P ops Q (⟨some d,.buildSlice t len parts.toArray,T,pos,af,none⟩::rest) C l H:=fun a w hf O=>by
 subst I;subst L
 refine Z.st_bslice hf hd ht hS W hp hs h0 hc fun g w' a' hg hs' N E hf'=>h g a' w' hf' (O.new hn E (fun b hb'=>?_) (fun j hj=>by cases hj) fun F B h1 _ _=>?_)
 ·simp only[Res.bl,obl,Qi]at hb';omega
 ·obtain⟨d1,d2,d3⟩:=Dats.all O V
  refine Own.made (B:=0) N (Xe _) d1 ?_ d2 fun i x hi=>rep_to (d3 i x hi) E fun b N I=>⟨by simp,h1 b N I⟩
  have:=Q0 hs
  have h2:xs.length≤xs.length*ty.size:=Yz _ (Qao ty)
  simp only[maxLen];omega
theorem AL.bs0 (k:Nat)(ty:Ty){t e:TypeId}(h: ∀g,AL r P ops Q rest C ((d,.slice (some ⟨g,0,none⟩) 0 0)::l) ((k,.own ty e (some ⟨g,0,none⟩) 0 [])::H))
  (I: ∀w,(sizeOf e).run P w=.ok ty.size w) (L:P.underlying t=some (.slice e):=by rfl) (N:Nat.ble (d+1) C.n=true:=by rfl) (O:hk H k=none:=by kernel_rfl):AL r P ops Q (⟨some d,.buildSlice t 0 #[],T,pos,af,none⟩::rest) C l H:=fun a w V W=>
 Z.st_bslice0 V N L I fun g w' a' hg hs' hb E hf'=>h g a' w' hf' (W.new O E (fun b hb'=>by simp only[Res.bl,obl,Qi]at hb';omega) (fun j hj=>by cases hj) fun F B h1 _ _=>Own.made (t:=ty) (xs:=[]) (B:=0) hb (Xe _) (by simp) (by simp[maxLen]) (by simp) (fun i x hi=>by simp at hi))
theorem Hp.frz {w:World}(I:Hp C H w){k:Nat}{t:Ty}{e:TypeId}{A:Option Addr}{c:Nat}{xs:List t.den}(h:hk H k=some (.own t e A c xs)):Hp C ((k,.sh (.slice t) [.slice A xs.length c] xs)::drp k H) w:=
 I.upd (S:=[]) (Ch.refl w) (by simp) (by simp[Res.bl]) (fun j L=>by cases L) fun F B N O _ _ _=>by
  have V:Own t e 0 w (Fh C H) A c xs:=I.hold k _ h
  obtain⟨cells,W,o1,o2⟩:=V
  have hO':Own t e 0 w F A c xs:=⟨cells,W,o1,fun i x hi=>Qev (o2 i x hi) fun b E hl=>N b E hl⟩
  exact hO'.rep (fun _ h=>h) fun b E=>O b ⟨_,h,E⟩ (by simp[Res.bl])
end
theorem Row.cells {t:Ty}{w:World}{F G:Nat→Prop}{A:Option Addr}{c:Nat}{xs:List t.den}(h:Row t w F G A c xs): ∃cells:List Value,cells.length=xs.length*t.size∧(∀u∈cells,u.oneCell'=true)∧(xs.length=0∨∃ad,A=some ad∧∀j u,cells[j]?=some u→w.cell? (ad.add j)=some u)∧
  ∀(i:Nat) (x:t.den),xs[i]?=some x→t.rep w F ((cells.drop (i*t.size)).take t.size) x:=by
 obtain⟨W,h3,cells,L,E,h6⟩:=h
 refine⟨cells,L,fun u I=>?_,?_,h6⟩
 ·obtain⟨j,N,rfl⟩:=Xy I
  have hs:=Qao t
  have O:j / t.size<xs.length:=Nat.div_lt_of_lt_mul (by rw[Nat.mul_comm,←L];exact N)
  have V:=h6 (j / t.size) _ (Qe O)
  refine Qfk t V _ (Qh (i:=j%t.size) ?_)
  rw[Wf (Nat.mod_lt _ hs),Xh,Nat.mul_comm,Nat.div_add_mod]
  exact Qe N
 ·rcases E with E|⟨b,o,rfl,hb,hcell⟩
  ·exact .inl E
  ·exact .inr ⟨_,rfl,fun j u I=>by rw[Addr.add_lit];exact hcell j u I⟩
section
variable {P:Program}{t:Ty}{e:TypeId}{B:Nat}{w:World}{F G:Nat→Prop}{A:Option Addr}{c:Nat}{xs:List t.den}
theorem run_appendR {tt ty:TypeId}{i:TypeInfo}{z:Value}{bytes:Nat}(ht:P.underlying tt=some (.slice e))(E:P.info? e=some i)(hz:i.zero=some z)(hsize:i.size=t.size)(hby:i.bytes=bytes)
  (hzs:z.cells.size=t.size) (hown:Own t e B w F A c xs) {A2:Option Addr} {c2:Nat} {ys:List t.den} (hr:Row t w F G A2 c2 ys) (h63:(xs.length+ys.length)*bytes≤140737488355328)
  (hbp:0<bytes) (hA: ∀b,F b→b∉obl A) (hB:B≤w.heap.size):
  ∃A' c' w',(Builtin.append_ #[tt,tt] ty #[.slice A xs.length c,.slice A2 ys.length c2]).run P w=.ok (.slice A' (xs.length+ys.length) c') w'∧Own t e B w' F A' c' (xs++ys)∧Ch (obl A) w w'∧
   (∀k,k∈obl A'→k∈obl A∨k=w.heap.size):=by
 obtain⟨cells,hrow,h1,h2⟩:=hown
 obtain⟨news,hnl,O,I,hn3⟩:=hr.cells
 have hsz:=Qao t
 have hbig:xs.length+ys.length≤maxLen:=by
  have:xs.length+ys.length≤(xs.length+ys.length)*bytes:=Yz _ hbp
  simp only[maxLen];omega
 by_cases V:ys.length=0
 ·have hy:ys=[]:=Q6 V
  subst hy
  have hrun:(Builtin.append_ #[tt,tt] ty #[.slice A xs.length c,.slice A2 0 c2]).run P w=.ok (.slice A xs.length c) w:=by
   rcases hrow.2 with⟨L,hn⟩|⟨g,cap,cur,L,_,_,hnc,_⟩
   ·injection L with hA' hn' hc
    subst hA';subst hc
    cases A2<;>simp[Builtin.append_,run_underlying ht,sizeOf,typeInfo,E,Builtin.lenOf,Builtin.firstCells,hn,loadCells,loadCellsFrom]
   ·injection L with hA' hn' hc
    subst hA';subst hc
    cases A2<;>simp[Builtin.append_,run_underlying ht,sizeOf,typeInfo,E,Builtin.lenOf,Builtin.firstCells,hnc,storeCells,loadCells,loadCellsFrom]
  refine⟨A,c,w,by simpa using hrun,⟨cells,by simpa using hrow,h1,by simpa using h2⟩,Ch.refl' _ _,fun k hk=>.inl hk⟩
 ·rcases I with I|⟨ad,rfl,hcell⟩
  ·exact absurd I V
  ·obtain⟨v',w',hrun,h3,h4,_,W⟩:=run_append_own_at (P:=P) w B tt ty e i z t.size bytes ht E hz hsize hby hzs hsz _ xs.length cells hrow ad ys.length c2 news hnl hcell O hbig h63 hB
   have hform: ∃A' c',v'=.slice A' (xs.length+ys.length) c':=by
    rcases h3.2 with⟨L,hn⟩|⟨g,cap,cur,L,_⟩
    ·exact⟨none,0,by rw[L,show xs.length+ys.length=0 from by omega]⟩
    ·exact⟨_,_,L⟩
   obtain⟨A',c',rfl⟩:=hform
   have N:Ch (obl A) w w':=by have:=Ch.of_grown h4;rwa[ownBlock_slice]at this
   refine⟨A',c',w',hrun,⟨cells++news,?_,?_,?_⟩,N,fun k hk=>?_⟩
   ·rw[Qj];exact h3
   ·intro u hu
    rcases Qu.1 hu with hu|hu
    ·exact h1 u hu
    ·exact O u hu
   ·exact Qey hrow.1 (fun i x E=>rep_ch N hA t (h2 i x E)) (fun i x E=>rep_ch N hA t (hn3 i x E))
   ·rcases W with W|W
    ·left
     have:obl A'=obl A:=by rw[←ownBlock_slice A' (xs.length+ys.length) c',W,ownBlock_slice]
     rwa[←this]
    ·right
     have:obl A'=[w.heap.size]:=by rw[←ownBlock_slice A' (xs.length+ys.length) c',W];rfl
     rw[this]at hk
     simpa using hk
theorem Own.take (h:Own t e B w F A c xs){k:Nat}(hk:k≤xs.length):Own t e B w F A c (xs.take k):=by
 obtain⟨cells,W,h1,h2⟩:=h
 have I:(xs.take k).length=k:=by rw[Qz];omega
 have hmul:k*t.size≤xs.length*t.size:=Wd _ hk
 refine⟨cells.take (k*t.size),⟨by rw[Qz,W.1,I];omega,?_⟩,fun u hu=>h1 u (Xw hu),fun i x hi=>?_⟩
 ·rcases W.2 with⟨L,hn⟩|⟨g,cap,cur,L,hb,hg,hnc,N,O,htake⟩
  ·left
   injection L with hA' _ V
   subst hA';subst V
   exact⟨by rw[I];congr 1;omega,by omega⟩
  ·right
   injection L with hA' _ V
   subst hA';subst V
   refine⟨g,c,cur,rfl,hb,hg,by omega,N,O,?_⟩
   rw[I,←htake,Y2,Xr hmul]
 ·have E:i<k:=by
   have:=(Qc.1 hi).1
   omega
  have hx:xs[i]?=some x:=by rwa[Wf E]at hi
  have:=h2 i x hx
  have hm:(i+1)*t.size≤k*t.size:=Wd _ E
  rw[Xi,Ya]at hm
  rw[List.drop_take,Y2,Xr (by omega)]
  exact this
end
section
variable {r:Option Nat}{P:Program}{ops:Array Oper}{Q:Exit→Act→World→Prop}{rest lst:List Oper}{C:Cx}{l:List (Nat×Value)}{H:List (Nat×Res)}{d:Nat}{op:Op}{T:TypeId}{pos:String}{af:Array Edge}
theorem AL.app {k:Nat}(js:List Nat){t:Ty}{tt e:TypeId}{x y:Operand}{i:TypeInfo}{z:Value}{bytes m n1 n2:Nat}{A A2:Option Addr}{c c2:Nat}{xs ys:List t.den}{kp':(Nat→Prop)→Prop}(hrow: ∀w,Hp C H w→∃G:Nat→Prop,Row t w (Fh C H) G A2 c2 ys∧kp' G)
  (hinf:P.info? e=some i∧i.zero=some z∧i.size=m∧i.bytes=bytes∧z.cells.size=m) (hl:(xs.length+ys.length)*bytes≤140737488355328)
  (h: ∀A' c',AL r P ops Q rest C ((d,.slice A' (xs++ys).length c')::l) ((k,.own t e A' c' (xs++ys))::ded js H))
  (I:hk H k=some (.own t e A c xs):=by rfl) (hx:ev l x=some (.slice A n1 c):=by rfl) (hy:ev l y=some (.slice A2 n2 c2):=by rfl) (hn1:n1=xs.length:=by rfl) (hn2:n2=ys.length:=by rfl) (hm:m=t.size:=by rfl) (N:Nat.ble 1 bytes=true:=by rfl)
  (ht:P.underlying tt=some (.slice e):=by rfl) (hd:Nat.ble (d+1) C.n=true:=by rfl) (hj:hng [k] js H=true:=by kernel_rfl):AL r P ops Q (⟨some d,.call {callee:=.builtin .append,args:=#[x,y],argTypes:=#[tt,tt]},T,pos,af,none⟩::rest) C l H:=fun a w hf hh=>by
 subst hn1;subst hn2;subst hm
 obtain⟨L,hz,hsize,O,V⟩:=hinf
 obtain⟨G,hR,_⟩:=hrow w hh
 have hO:Own t e 0 w (Fh C H) A c xs:=hh.hold k _ I
 obtain⟨A',c',w',hrun,h1,h2,h3⟩:=run_appendR (P:=P) (ty:=T) ht L hz hsize O V hO hR hl (Q0 N) (fun b E hbA=>E.1 k ⟨_,I,hbA⟩) (Xe _)
 refine Z.valw (w':=w') (v:=.slice A' (xs++ys).length c') hf hd ?_ fun a' hf'=>h A' c' a' w' hf' (Hp.dd (hh.upd h2 (fun b E=>⟨_,I,E⟩) (fun b E=>?_) (fun j hj=>by cases hj) fun F B hF _ _ _ hB=>?_) hj)
 ·rw[Qj]
  simp only[execOp,resolve,invoke,builtin,Sem.run_bind,Sem.run_pure,Result.andThen_ok,Xt,Qv,W8,hf.eval hx,hf.eval hy,hrun]
 ·rcases h3 b E with h4|h4
  ·exact .inl ⟨_,I,h4⟩
  ·exact .inr ⟨by omega,(h1.lt b E).2⟩
 ·obtain⟨cells,o1,o2,o3⟩:=h1
  obtain⟨cells0,p1,p2,p3⟩:=hO
  obtain⟨cells2,q1,q2,q3,q4⟩:=hR.cells
  have hFo: ∀b,Fh C H b→b∉obl A:=fun b E hbA=>E.1 k ⟨_,I,hbA⟩
  have h1':Own t e 0 w' (Fh C H) A' c' (xs++ys):=⟨cells,o1,o2,o3⟩
  have hOi:Own t e 0 w (fun b=>Fh C H b∧b<w.heap.size) A c xs:=⟨cells0,p1,p2,fun i x L=>Qaf t (p3 i x L)⟩
  have hRi:Row t w (fun b=>Fh C H b∧b<w.heap.size) (fun _=>True) A2 c2 ys:=by
   obtain⟨r1,r2,cs,r3,W,r5⟩:=hR
   refine⟨r1,r2,cs,r3,?_,fun i x L=>Qaf t (r5 i x L)⟩
   rcases W with W|⟨b,o,W,_,r6⟩
   ·exact .inl W
   ·exact .inr ⟨b,o,W,trivial,r6⟩
  obtain⟨A3,c3,w3,hrun3,h13,h23,_⟩:=run_appendR (P:=P) (ty:=T) ht L hz hsize O V hOi hRi hl (Q0 N) (fun b E=>hFo b E.1) (Xe _)
  rw[hrun]at hrun3
  injection hrun3 with e1 e2
  injection e1 with e1 _ e3
  subst e1;subst e2;subst e3
  exact h13.more fun b E=>hF b E.1 E.2
theorem AL.setel (k ke:Nat)(js:List Nat){t:Ty}{e tt:TypeId}{A:Option Addr}{c g o m:Nat}{xs:List t.den}{px py:Operand}{u:Value}{new es:List Value}{i:Int}{v:t.den}(y:t.den)(N:ix xs i=some v)(hA:A=some ⟨g,0,none⟩)
  (hD:Dat H t (es.take o++new++es.drop (o+m)) y) (h:AL r P ops Q rest C l ((k,.own t e A c (xs.set i.toNat y))::ded js H))
  (E:hk H k=some (.own t e A c xs):=by rfl) (O:hk H ke=some (.el (some k) g (i.toNat*t.size) es):=by rfl) (hx:ev l px=some (.pointer (some ⟨g,i.toNat*t.size+o,none⟩)):=by rfl) (hy:ev l py=some u:=by rfl) (hS:szB P tt=some m:=by kernel_rfl)
  (hv:u.cells=new.toArray:=by rfl) (hm:new.length=m:=by rfl) (ho:Nat.ble (o+m) t.size=true:=by rfl) (h1:new.all (fun u=>u.oneCell')=true:=by rfl) (V:es.length=t.size:=by rfl) (W:hng [k] js H=true:=by kernel_rfl):
  AL r P ops Q (⟨none,.store tt px py,T,pos,af,none⟩::rest) C l H:=fun a w hf L=>by
 obtain⟨n,rfl,hn⟩:=Qbf N
 have hlt:=(Qc.1 hn).1
 have hO:Own t e 0 w (Fh C H) A c xs:=L.hold k _ E
 have hOi:Own t e 0 w (fun b=>Fh C H b∧b<w.heap.size) A c xs:=by
  obtain⟨cells0,p1,p2,p3⟩:=hO
  exact⟨cells0,p1,p2,fun i x N=>Qaf t (p3 i x N)⟩
 have hc:=(L.hold ke _ O).1
 refine Z.st_setel (F:=fun b=>Fh C H b∧b<w.heap.size) hf hOi (k:=n) (o:=o) (m:=m) hlt (Qal hS) ho hA (by rw[hx,Addr.add_lit,Addr.add_lit];simp) hy hv hm (fun u hu=>Q7.1 h1 u hu) (by rw[Addr.add_lit];simpa using hc) V (Qaf t (Dat.rep L t hD)) (fun b I hbA=>I.1.1 k ⟨_,E,hbA⟩) fun w' a' hch hs hO' hf'=>
  h a' w' hf' (Hp.dd (L.upd hch (fun b I=>⟨_,E,I⟩) (fun b I=>.inl ⟨_,E,I⟩) (fun j W=>by cases W) fun F B hF _ _ _ _=>hO'.more fun b I=>hF b I.1 I.2) W)
theorem AL.cuth (k kn:Nat){t:Ty}{tt e:TypeId}{x W:Operand}{A:Option Addr}{c:Nat}{xs:List t.den}{k2:IntKind}{q:Int}{v:Nat}(hq:q=(v:Int))(h2:v≤xs.length)
  (h: ∀c',AL r P ops Q rest C ((d,.slice A (xs.take v).length c')::l) ((kn,.sh (.slice t) [.slice A (xs.take v).length c'] (xs.take v))::H))
  (I:hk H k=some (.sh (.slice t) [.slice A xs.length c] xs):=by rfl) (hx:ev l x=some (.slice A xs.length c):=by rfl) (L:ev l W=some (.int k2 q):=by rfl) (hS:szB P e=some t.size:=by kernel_rfl)
  (ht:P.underlying tt=some (.slice e):=by rfl) (hd:Nat.ble (d+1) C.n=true:=by rfl) (hn:hk H kn=none:=by kernel_rfl):AL r P ops Q (⟨some d,.slice tt x none (some W) none,T,pos,af,none⟩::rest) C l H:=fun a w N hh=>by
 have hr:(Ty.slice t).rep w (Fh C H) [.slice A xs.length c] xs:=hh.hold k _ I
 have hlen:=rep_slice_len hr
 have E:(xs.take v).length=v:=by rw[Qz];omega
 refine Z.val (v:=.slice A v c) N hd (Qee ht (Qal hS) (N.eval hx) (N.eval L) hq (by omega)) fun a' hf'=>?_
 have O:=rep_take hr h2
 rw[←E]at hf'
 have V:(Ty.slice t).rep w (Fh C H) [.slice A (xs.take v).length c] (xs.take v):=by rw[E];exact O
 exact h _ a' w hf' (hh.add hn rfl (fun j hj=>by cases hj) (Qaf _ V))
theorem AL.cuto (k:Nat)(js:List Nat){t:Ty}{tt e e':TypeId}{x I:Operand}{A:Option Addr}{c:Nat}{xs:List t.den}{k2:IntKind}{q:Int}{v:Nat}(hq:q=(v:Int))(h2:v≤xs.length)
  (h:AL r P ops Q rest C ((d,.slice A (xs.take v).length c)::l) ((k,.own t e' A c (xs.take v))::ded js H))
  (E:hk H k=some (.own t e' A c xs):=by rfl) (hx:ev l x=some (.slice A xs.length c):=by rfl) (L:ev l I=some (.int k2 q):=by rfl) (hS:szB P e=some t.size:=by kernel_rfl)
  (ht:P.underlying tt=some (.slice e):=by rfl) (hd:Nat.ble (d+1) C.n=true:=by rfl) (N:hng [k] js H=true:=by kernel_rfl):AL r P ops Q (⟨some d,.slice tt x none (some I) none,T,pos,af,none⟩::rest) C l H:=fun a w O hh=>by
 have hO:Own t e' 0 w (Fh C H) A c xs:=hh.hold k _ E
 have hlen:=hO.len
 have V:(xs.take v).length=v:=by rw[Qz];omega
 refine Z.val (v:=.slice A v c) O hd (Qee ht (Qal hS) (O.eval hx) (O.eval L) hq (by omega)) fun a' hf'=>?_
 rw[←V]at hf'
 refine h a' w hf' (Hp.dd (hh.upd (S:=[]) (Ch.refl w) (by simp) (fun b W=>.inl ⟨_,E,W⟩) (fun j N=>by cases N) fun F B hF _ _ _ _=>?_) N)
 obtain⟨cells,o1,o2,o3⟩:=Own.take hO h2
 exact⟨cells,o1,o2,fun i x I=>Qev (o3 i x I) fun b W hl=>hF b W hl⟩
theorem AL.rgs (k:Nat){tt:TypeId}{x:Operand}{s:ByteArray}(h: ∀g,AL r P ops Q rest C ((d,.pointer (some ⟨g,0,none⟩))::l) ((k,.si g s 0)::H))
  (I:P.underlying tt=some .string:=by rfl) (L:ev l x=some (.string s):=by rfl) (N:Nat.ble (d+1) C.n=true:=by rfl) (O:hk H k=none:=by kernel_rfl):AL r P ops Q (⟨some d,.range tt x,T,pos,af,none⟩::rest) C l H:=fun a w V W=>
 Z.st_rangeStr V N I L fun g w' a' hg hs hb E hf'=>h g a' w' hf' (W.new O E (fun b hb'=>by simp only[Res.bl,Qi]at hb';omega) (fun j hj=>by cases hj) fun _ _ _ _ _=>hb)
theorem AL.nxs (k:Nat)(js:List Nat){x:Operand}{s:ByteArray}{g p:Nat}{ρ:Type}{A B R:Option ρ}(I:(if p<s.size then A else B)=R)
  (h2:p<s.size→A=R→AL r P ops Q rest C ((d,.tuple #[.bool true,.int .i64 (p:Int),.int .i32 ((Utf8.decode s p).1:Int)])::l) ((k,.si g s (p+(Utf8.decode s p).2))::ded js H))
  (h1: ¬p<s.size→B=R→AL r P ops Q rest C ((d,.tuple #[.bool false])::l) H)
  (E:hk H k=some (.si g s p):=by rfl) (hx:ev l x=some (.pointer (some ⟨g,0,none⟩)):=by rfl) (hd:Nat.ble (d+1) C.n=true:=by rfl) (L:hng [k] js H=true:=by kernel_rfl):AL r P ops Q (⟨some d,.next x true,T,pos,af,none⟩::rest) C l H:=fun a w hf N=>
 Z.st_nextStr hf hd hx (N.hold k _ E) (fun hp a' hf'=>h1 hp (by rw[if_neg hp]at I;exact I) a' w hf' N) fun hp w' a' O hs V hf'=>
  h2 hp (by rw[if_pos hp]at I;exact I) a' w' hf' (Hp.dd (N.upd O (fun b W=>⟨_,E,W⟩) (fun b W=>.inl ⟨_,E,W⟩) (fun j L=>by cases L) fun _ _ _ _ _ _ _=>V) L)
section
variable {κ:Type}[DecidableEq κ]{enc:κ→Value}{kt et tt:TypeId}{t:Ty}{agg:Bool}{b:Nat}{m:List (κ×t.den)}
theorem AL.mkm (k:Nat)(κ:Type)(enc:κ→Value)(t:Ty)(agg:Bool)(h: ∀b,AL r P ops Q rest C ((d,.map (some b))::l) ((k,.mp κ enc t agg b [])::H))(L:Nat.ble (d+1) C.n=true:=by rfl)(N:hk H k=none:=by kernel_rfl):
  AL r P ops Q (⟨some d,.makeMap tt none,T,pos,af,none⟩::rest) C l H:=fun a w O V=>
 Z.st_makeMap rfl O L enc t agg no fun g w' a' hg hs E I hf'=>h g a' w' hf' (V.new N I (fun b hb'=>by simp only[Res.bl,Qi]at hb';omega) (fun j W=>by cases W) fun F B h1 _ _=>E.to (Ch.refl w') (by simp) fun b E _=>E.elim)
def asmp:Option Res→Option Res
 |some (.lmp κ enc t agg b m)=>some (.mp κ enc t agg b m)
 |r=>r
theorem Qfr {κ:Type}{enc:κ→Value}{t:Ty}{agg:Bool}{b:Nat}{m:List (κ×t.den)}{C:Cx}{H:List (Nat×Res)}{w:World}(L:Hp C H w){k:Nat}(h:asmp (hk H k)=some (.mp κ enc t agg b m)):Mt enc t agg w (Fh C H) b m:=by
 cases E:hk H k with
 |none=>rw[E]at h;cases h
 |some r=>
  rw[E]at h
  have I:=L.hold k r E
  cases r with
  |lmp κ' enc' t' agg' b' m'=>
   have h:some (Res.mp κ' enc' t' agg' b' m')=_:=h
   injection h with h;cases h;exact I.1
  |mp κ' enc' t' agg' b' m'=>
   have h:some (Res.mp κ' enc' t' agg' b' m')=_:=h
   injection h with h;cases h;exact I
  |_=>injection h with h;cases h
theorem Qej {w:World}{x:t.den}{cs:List Value}(O:Hp C H w)(V:t.rep w (Fh C H) cs x)(kn:Nat)(W:nok H kn (lv t)=true): ∃ps:Lf,ps.length=lv t∧cs=cl t x ps∧Hp C (hcat (kx kn (rs t x ps)) H) w:=by
 obtain⟨ps,N,hc,E⟩:=rep_cl (B:=Bk H) t (Qaf t V)
 exact⟨ps,N,hc,O.adds (by rw[Qcz t x ps N];exact W) fun I L=>⟨(E I L).2.1,(E I L).2.2,(E I L).1⟩⟩
theorem AL.lku (k kn:Nat){x y:Operand}{z v:t.den}{zs:List Value}(K:Ky P kt enc)(key:κ)(N: ∀w,(zeroValue et).run P w=.ok (vof agg zs) w)(O:Dat H t zs z)(V:mget z m key=v)
  (h:t.ok v→tele (lv t) fun ps=>AL r P ops Q rest C ((d,vof agg (cl t (v) ps))::l) (hcat (kx kn (rs t (v) ps)) H))
  (E:asmp (hk H k)=some (.mp κ enc t agg b m):=by rfl) (W:ev l x=some (.map (some b)):=by rfl) (hy:ev l y=some (enc key):=by rfl) (ht:P.underlying tt=some (.map kt et):=by rfl) (hd:Nat.ble (d+1) C.n=true:=by rfl) (hn:nok H kn (lv t)=true:=by kernel_rfl):
  AL r P ops Q (⟨some d,.lookup tt x y false,T,pos,af,none⟩::rest) C l H:=fun a w hf I=>by
 subst V
 exact Z.st_lookup hf hd K ht N z (Dat.rep I t O) (Qfr I E) W key hy fun cs a' L hf'=>by
  obtain⟨ps,hl,rfl,h2⟩:=Qej I L kn hn
  exact Qav (h (rep_ok t L)) ps hl a' w hf' h2
theorem AL.lk2 (k kn:Nat){x y:Operand}{z v:t.den}{zs:List Value}(K:Ky P kt enc)(key:κ)(N: ∀w,(zeroValue et).run P w=.ok (vof agg zs) w)(O:Dat H t zs z)(V:mget z m key=v)
  (h:t.ok v→tele (lv t) fun ps=>AL r P ops Q rest C ((d,.tuple #[vof agg (cl t (v) ps),.bool (mhas m key)])::l) (hcat (kx kn (rs t (v) ps)) H))
  (E:asmp (hk H k)=some (.mp κ enc t agg b m):=by rfl) (W:ev l x=some (.map (some b)):=by rfl) (hy:ev l y=some (enc key):=by rfl) (ht:P.underlying tt=some (.map kt et):=by rfl) (hd:Nat.ble (d+1) C.n=true:=by rfl) (hn:nok H kn (lv t)=true:=by kernel_rfl):
  AL r P ops Q (⟨some d,.lookup tt x y true,T,pos,af,none⟩::rest) C l H:=fun a w hf I=>by
 subst V
 exact Z.st_lookup2 hf hd K ht N z (Dat.rep I t O) (Qfr I E) W key hy fun cs a' L hf'=>by
  obtain⟨ps,hl,rfl,h2⟩:=Qej I L kn hn
  exact Qav (h (rep_ok t L)) ps hl a' w hf' h2
theorem AL.mup (k:Nat)(js:List Nat){x y v:Operand}{cs:List Value}{u:t.den}(K:Ky P kt enc)(key:κ)(V:Dat H t cs u)(h:AL r P ops Q rest C l ((k,.mp κ enc t agg b (mins m key u))::ded js H))
  (E:hk H k=some (.mp κ enc t agg b m):=by rfl) (W:ev l x=some (.map (some b)):=by rfl) (hy:ev l y=some (enc key):=by rfl) (hv:ev l v=some (vof agg cs):=by rfl) (ht:P.underlying tt=some (.map kt et):=by rfl) (I:hng [k] js H=true:=by kernel_rfl):
  AL r P ops Q (⟨none,.mapUpdate tt x y v,T,pos,af,none⟩::rest) C l H:=fun a w hf L=>by
 have hm:Mt enc t agg w (Fh C H) b m:=L.hold k _ E
 have hm':Mt enc t agg w (fun b=>Fh C H b∧b<w.heap.size) b m:=by
  obtain⟨es,h1,h2,h3⟩:=hm
  refine⟨es,h1,h2,fun i p hp=>?_⟩
  obtain⟨cs,h4,h5⟩:=h3 i p hp
  exact⟨cs,h4,Qaf t h5⟩
 refine Z.st_mapUpdate hf K ht hm' W key hy hv (Qaf t (Dat.rep L t V)) (fun b' hb' e=>hb'.1.1 k ⟨_,E,by rw[e];simp[Res.bl]⟩) fun w' a' N hs O hf'=>
  h a' w' hf' (Hp.dd (L.upd N (fun b' hb'=>⟨_,E,hb'⟩) (fun b' hb'=>.inl ⟨_,E,hb'⟩) (fun j I=>by cases I) fun F B hF _ _ _ _=>?_) I)
 exact O.to (Ch.refl w') (by simp) fun b' hb' _=>⟨by simp,hF b' hb'.1 hb'.2⟩
end
def Ct (P:Program)(f:FuncId)(vs:List Value)(H:List (Nat×Res))(S:List Nat)(R:Value→List (Nat×Res)→Prop):Prop:=
 ∀(w:World) (F:Nat→Prop),Hp ⟨0,[],w,S,F⟩ H w→Calls P f vs.toArray w fun e w'=>∃v H',e=.returned v∧R v H'∧Hp ⟨0,[],w,S,F⟩ H' w'
theorem Ct.enter {f:FuncId}{fn:Func}{c:Code}{vs:List Value}{n:Nat}{S:List Nat}{R:Value→List (Nat×Res)→Prop}(L:P.funcs[f]?=some fn)(N:fn.body=some c)(O:fn.ntmps=n)(V:Nat.ble vs.length n=true)
  (h: ∀w F,AX none P (bodyPost P fn fun e w'=>∃v H',e=.returned v∧R v H'∧Hp ⟨0,[],w,S,F⟩ H' w') [] c ⟨n,[],w,S,F⟩ (argl vs 0) H):Ct P f vs H S R:=fun w F E=>
 Z.enter L N O (Q0 V) fun a I=>h w F a w I ⟨E.ch,E.hold,E.bnd,E.dis,E.ref⟩
theorem AX.ret {fn:Func}{K:List Kx}{w0:World}{S:List Nat}{F:Nat→Prop}{n:Nat}{R:Value→List (Nat×Res)→Prop}(ps:List (Nat×Nat))(v:Value)(hres: ∀a w,Fr a n [] l→Hp ⟨n,[],w0,S,F⟩ H w→(results fn a.tmps).run P w=.ok v w)(N:R v (A.ren H ps))(O:nod (ps.map (·.1))=true:=by rfl)(V:nod (ps.map (·.2))=true:=by rfl):
  AX r P (bodyPost P fn fun e w'=>∃v H',e=.returned v∧R v H'∧Hp ⟨0,[],w0,S,F⟩ H' w') K .ret ⟨n,[],w0,S,F⟩ l H:=AX.ret0 fun a w I L=>by
 have E:=L.ren ps O V
 exact Z.retv I (hres a w I L) ⟨v,_,rfl,N,⟨E.ch,E.hold,E.bnd,E.dis,E.ref⟩⟩
theorem AE.ret {fn:Func}{w0:World}{S:List Nat}{F:Nat→Prop}{n:Nat}{R:Value→List (Nat×Res)→Prop}(ps:List (Nat×Nat))(v:Value)(hres: ∀a w,Fr a n [] l→Hp ⟨n,[],w0,S,F⟩ H w→(results fn a.tmps).run P w=.ok v w)(N:R v (A.ren H ps))(O:nod (ps.map (·.1))=true:=by rfl)(V:nod (ps.map (·.2))=true:=by rfl):
  AE r P (bodyPost P fn fun e w'=>∃v H',e=.returned v∧R v H'∧Hp ⟨0,[],w0,S,F⟩ H' w') [] .normal ⟨n,[],w0,S,F⟩ l H:=fun a w I L=>by
 have E:=L.ren ps O V
 exact Z.endv I (hres a w I L) ⟨v,_,rfl,N,⟨E.ch,E.hold,E.bnd,E.dis,E.ref⟩⟩
end
inductive Sub (H:List (Nat×Res)):List (Nat×Res)→List (Nat×Nat)→List Nat→Prop
 |nil:Sub H [] [] []
 |s (k:Nat) {k0:Nat} {r:Res} {H0:List (Nat×Res)} {ms:List (Nat×Nat)} {ls:List Nat} (h:Sub H H0 ms ls) (h1:hk H k=some r:=by rfl) (hb:r.bl=[]:=by rfl) (hr:r.ref=none:=by rfl):Sub H ((k0,r)::H0) ms ls
 |o (k:Nat) {k0:Nat} {t:Ty} {e:TypeId} {A:Option Addr} {c:Nat} {xs:List t.den} {H0:List (Nat×Res)} {ms:List (Nat×Nat)} {ls:List Nat} (h:Sub H H0 ms ls) (h1:hk H k=some (.own t e A c xs):=by rfl):Sub H ((k0,.ln t A c xs)::H0) ms (k::ls)
 |l (k:Nat) {k0:Nat} {t:Ty} {A:Option Addr} {c:Nat} {xs:List t.den} {H0:List (Nat×Res)} {ms:List (Nat×Nat)} {ls:List Nat} (h:Sub H H0 ms ls) (h1:hk H k=some (.sh (.slice t) [.slice A xs.length c] xs):=by rfl):Sub H ((k0,.ln t A c xs)::H0) ms ls
 |nl {k0:Nat} {t:Ty} {H0:List (Nat×Res)} {ms:List (Nat×Nat)} {ls:List Nat} (h:Sub H H0 ms ls):Sub H ((k0,.ln t none 0 [])::H0) ms ls
 |ns {k0:Nat} {t:Ty} {H0:List (Nat×Res)} {ms:List (Nat×Nat)} {ls:List Nat} (h:Sub H H0 ms ls):Sub H ((k0,.sh (.slice t) [.slice none 0 0] [])::H0) ms ls
 |b (k:Nat) {k0:Nat} {g:Nat} {e:TypeId} {cs:List Value} {H0:List (Nat×Res)} {ms:List (Nat×Nat)} {ls:List Nat} (h:Sub H H0 ms ls) (h1:hk H k=some (.blk g e cs):=by rfl):Sub H ((k0,.el none g 0 cs)::H0) ms (k::ls)
 |lm (k:Nat) {k0:Nat} {κ:Type} {enc:κ→Value} {t:Ty} {agg:Bool} {b:Nat} {m:List (κ×t.den)} {H0:List (Nat×Res)} {ms:List (Nat×Nat)} {ls:List Nat} (h:Sub H H0 ms ls) (h1:hk H k=some (.mp κ enc t agg b m):=by rfl):Sub H ((k0,.lmp κ enc t agg b m)::H0) ms (k::ls)
 |m (k:Nat) {k0:Nat} {r:Res} {H0:List (Nat×Res)} {ms:List (Nat×Nat)} {ls:List Nat} (h:Sub H H0 ms ls) (h1:hk H k=some r:=by rfl) (hr:r.ref=none:=by rfl):Sub H ((k0,r)::H0) ((k0,k)::ms) ls
def blks (H:List (Nat×Res)):List (Nat×Nat)→List Nat
 | []=>[]
 |(_,k)::ms=>match hk H k with
  |some r=>r.bl++blks H ms
  |none=>blks H ms
theorem Qdj {H:List (Nat×Res)}{b:Nat}: ∀{ms:List (Nat×Nat)},b∈blks H ms↔∃p,p∈ms∧Bk H p.2 b
 | []=>by simp[blks]
 |(i,k)::ms=>by
  unfold blks
  cases N:hk H k with
  |none=>
   simp only[]
   rw[Qdj]
   exact⟨fun⟨p,E,I⟩=>⟨p,Qb _ E,I⟩,fun⟨p,E,I⟩=>by
    rcases Qg.1 E with rfl|E
    ·obtain⟨r,L,_⟩:=I;rw[N]at L;cases L
    ·exact⟨p,E,I⟩⟩
  |some r=>
   simp only[Qu]
   rw[Qdj]
   constructor
   ·rintro(h|⟨p,E,I⟩)
    ·exact⟨(i,k),Qf ..,r,N,h⟩
    ·exact⟨p,Qb _ E,I⟩
   ·rintro⟨p,E,I⟩
    rcases Qg.1 E with rfl|E
    ·obtain⟨V,L,O⟩:=I;rw[N]at L;injection L with L;subst L;exact .inl O
    ·exact .inr ⟨p,E,I⟩
theorem Sub.hp {C:Cx}{H:List (Nat×Res)}{w:World}(hh:Hp C H w){H0:List (Nat×Res)}{ms:List (Nat×Nat)}{ls:List Nat}(h:Sub H H0 ms ls)(V:nod (H0.map (·.1))=true)(h2:nod (ms.map (·.2))=true)(h3:ls.all (fun k=> !(ms.map (·.2)).any (Nat.beq k))=true):
  Hp ⟨0,[],w,blks H ms,Fh C H⟩ H0 w:=by
 have hvis: ∀{H0:List (Nat×Res)} {k:Nat} {r:Res},hk H0 k=some r→(k,r)∈H0:=by
  intro H0
  induction H0 with
  |nil=>intro k r h;cases h
  |cons p q L=>
   obtain⟨d,u⟩:=p
   intro k r h
   rw[Qaa]at h
   split at h
   ·rename_i e;subst e;injection h with h;subst h;exact Qf ..
   ·exact Qb _ (L h)
 have hmoved: ∀{H0:List (Nat×Res)} {ms:List (Nat×Nat)} {ls:List Nat},Sub H H0 ms ls→∀k r,(k,r)∈H0→r.ref=none∧∀b,b∈r.bl→∃j,(k,j)∈ms∧hk H j=some r:=by
  intro H0 ms ls h
  induction h with
  |nil=>intro k r E;cases E
  |s k _ V I hr L=>
   intro k r E
   rcases Qg.1 E with e|E
   ·injection e with e1 e2;subst e1;subst e2;exact⟨hr,fun b hb2=>by rw[I]at hb2;cases hb2⟩
   ·exact L k r E
  |m k _ V hr L=>
   intro k r E
   rcases Qg.1 E with e|E
   ·injection e with e1 e2;subst e1;subst e2;exact⟨hr,fun b hb2=>⟨_,Qf ..,V⟩⟩
   ·obtain⟨N,W⟩:=L k r E
    exact⟨N,fun b I=>by obtain⟨j,h6,h7⟩:=W b I;exact⟨j,Qb _ h6,h7⟩⟩
  |_=>
   rename_i L
   intro k r E
   rcases Qg.1 E with e|E
   ·injection e with e1 e2;subst e1;subst e2;exact⟨rfl,fun b hb2=>by cases hb2⟩
   ·exact L k r E
 have hbk: ∀k b,Bk H0 k b→∃j,(k,j)∈ms∧Bk H j b:=fun k b ⟨r,N,W⟩=>by
  obtain⟨j,h6,h7⟩:=(hmoved h k r (hvis N)).2 b W
  exact⟨j,h6,r,h7,W⟩
 have hnb: ∀b,(∀k,¬Bk H k b)→∀k,¬Bk H0 k b:=fun b hB k hk=>by obtain⟨j,_,N⟩:=hbk k b hk;exact hB j N
 have hF: ∀b,Fh C H b→Fh ⟨0,[],w,blks H ms,Fh C H⟩ H0 b:=fun b I=>⟨hnb b I.1,.inl I⟩
 have hholds: ∀{H1:List (Nat×Res)} {ms1:List (Nat×Nat)} {ls1:List Nat},Sub H H1 ms1 ls1→(∀k,k∈ls1→∀p,p∈ms→p.2≠k)→∀k r,(k,r)∈H1→r.holds w (Fh ⟨0,[],w,blks H ms,Fh C H⟩ H0) (Bk H0):=by
  intro H1 ms1 ls1 h
  have go: ∀k r,hk H k=some r→r.ref=none→r.holds w (Fh ⟨0,[],w,blks H ms,Fh C H⟩ H0) (Bk H0):=fun k r N W=>
   Res.to (hh.hold k r N) (S:=[]) (Ch.refl w) (fun b I _=>⟨by simp,hF b I⟩) (fun b I _=>⟨by simp,hnb b I⟩) (fun i b hi _=>by rw[W]at hi;cases hi) (by simp)
  induction h with
  |nil=>intro _ k r E;cases E
  |s k _ V I hr L=>
   intro O k r E
   rcases Qg.1 E with e|E
   ·injection e with e1 e2;subst e1;subst e2;exact go _ _ V hr
   ·exact L O k r E
  |m k _ V hr L=>
   intro O k r E
   rcases Qg.1 E with e|E
   ·injection e with e1 e2;subst e1;subst e2;exact go _ _ V hr
   ·exact L O k r E
  |o k _ V L=>
   intro O k' r E
   rcases Qg.1 E with e|E
   ·injection e with e1 e2;subst e1;subst e2
    obtain⟨G,N,W⟩:=rowO V w hh
    refine Row.to N (S:=[]) (Ch.refl w) (fun b I _=>⟨by simp,hF b I⟩) fun b I _=>⟨by simp,fun k2 hk2=>?_⟩
    obtain⟨j,h6,h7⟩:=hbk k2 b hk2
    exact O k (Qf ..) _ h6 (hh.dis j k b h7 (W b I))
   ·exact L (fun k hk=>O k (Qb _ hk)) k' r E
  |b k _ V L=>
   intro O k' r E
   rcases Qg.1 E with e|E
   ·injection e with e1 e2;subst e1;subst e2
    have hB:Blk w _ _ _:=hh.hold k _ V
    refine⟨fun j u hu=>?_,hB.lt,fun k2 hk2=>?_⟩
    ·rw[Addr.add_lit,Ws,hB.cell];exact hu
    ·obtain⟨j,h6,h7⟩:=hbk k2 _ hk2
     exact O k (Qf ..) _ h6 (hh.dis j k _ h7 ⟨_,V,by simp[Res.bl]⟩)
   ·exact L (fun k hk=>O k (Qb _ hk)) k' r E
  |lm k _ V L=>
   intro O k' r E
   rcases Qg.1 E with e|E
   ·injection e with e1 e2;subst e1;subst e2
    have hB:Mt _ _ _ w (Fh C H) _ _:=hh.hold k _ V
    refine⟨Mt.to hB (S:=[]) (Ch.refl w) (by simp) fun b I _=>⟨by simp,hF b I⟩,fun k2 hk2=>?_⟩
    obtain⟨j,h6,h7⟩:=hbk k2 _ hk2
    exact O k (Qf ..) _ h6 (hh.dis j k _ h7 ⟨_,V,by simp[Res.bl]⟩)
   ·exact L (fun k hk=>O k (Qb _ hk)) k' r E
  |l k _ V L=>
   intro O k' r E
   rcases Qg.1 E with e|E
   ·injection e with e1 e2;subst e1;subst e2
    obtain⟨G,N,W⟩:=rowS V w hh
    exact Row.to N (S:=[]) (Ch.refl w) (fun b I _=>⟨by simp,hF b I⟩) fun b I _=>⟨by simp,hnb b (W b I)⟩
   ·exact L O k' r E
  |nl _ L=>
   intro O k' r E
   rcases Qg.1 E with e|E
   ·injection e with e1 e2;subst e1;subst e2
    exact⟨Qq _,by simp[maxLen],[],by simp,.inl rfl,fun i x hi=>by simp at hi⟩
   ·exact L O k' r E
  |ns _ L=>
   intro O k' r E
   rcases Qg.1 E with e|E
   ·injection e with e1 e2;subst e1;subst e2;exact Qfo _
   ·exact L O k' r E
 have hls: ∀k,k∈ls→∀p,p∈ms→p.2≠k:=fun k hk p hp e=>by
  have N:=Q7.1 h3 k hk
  simp only[Ym,List.any_map,Y5]at N
  exact N p hp (by simp[Function.comp,e])
 refine⟨Ch.refl' _ _,fun k r hk1=>hholds h hls k r (hvis hk1),fun k b I=>?_,fun k k' b I hb'=>?_,fun k r j hk1 hr=>?_⟩
 ·obtain⟨j,N,W⟩:=hbk k b I
  exact⟨.inr (Qdj.2 ⟨_,N,W⟩),(hh.bnd j b W).2⟩
 ·obtain⟨j,N,W⟩:=hbk k b I
  obtain⟨j',h6,h7⟩:=hbk k' b hb'
  exact Qjf (f:=fun p:Nat×Nat=>p.2) (g:=fun p:Nat×Nat=>p.1) h2 (k,j) (k',j') N h6 (hh.dis j j' b W h7)
 ·rw[(hmoved h k r (hvis hk1)).1]at hr;cases hr
def kill:List Nat→List (Nat×Res)→List (Nat×Res)
 | [],H=>H
 |k::ks,H=>(k,.dead)::drp k (kill ks H)
theorem Qef {H:List (Nat×Res)}: ∀{ks:List Nat} {j:Nat} {r:Res},hk (kill ks H) j=some r→r=.dead∨(hk H j=some r∧j∉ks∧∀k,k∈ks→r.ref≠some k)
 | [],j,r,h=>.inr ⟨h,by simp,by simp⟩
 |k::ks,j,r,h=>by
  unfold kill at h
  rw[Qaa]at h
  split at h
  ·injection h with h;exact .inl h.symm
  ·rename_i E
   rcases Qcb k _ j r h with I|⟨I,V⟩
   ·exact .inl I
   ·rcases Qef I with L|⟨L,W,h5⟩
    ·exact .inl L
    ·refine .inr ⟨L,fun N=>?_,fun i O=>?_⟩
     ·rcases Qg.1 N with e|N
      ·exact E e.symm
      ·exact W N
     ·rcases Qg.1 O with rfl|O
      ·exact V
      ·exact h5 i O
theorem Qdv {k:Nat}: ∀{H:List (Nat×Res)} {j:Nat} {r:Res},hk H j=some r→r.ref≠some k→hk (drp k H) j=some r
 | [],_,_,h,_=>by cases h
 |(d,u)::q,j,r,E,I=>by
  unfold drp
  rw[Qaa]at E ⊢
  by_cases L:d=j
  ·rw[if_pos L]at E ⊢
   injection E with E
   subst E
   cases N:u.ref with
   |none=>rfl
   |some i=>
    simp only[]
    have:Nat.beq i k=false:=by cases O:Nat.beq i k with
     |false=>rfl
     |true=>exact absurd (by rw[N,Wj O]) I
    rw[this];rfl
  ·rw[if_neg L]at E ⊢
   exact Qdv E I
theorem Qfa {H:List (Nat×Res)}: ∀{ks:List Nat} {j:Nat} {r:Res},hk H j=some r→j∉ks→(∀k,k∈ks→r.ref≠some k)→hk (kill ks H) j=some r
 | [],_,_,h,_,_=>h
 |k::ks,j,r,h,E,I=>by
  unfold kill
  rw[Qaa,if_neg (fun e=>E (by rw[e];exact Qf ..))]
  exact Qdv (Qfa h (fun L=>E (Qb _ L)) fun i N=>I i (Qb _ N)) (I k (Qf ..))
def sft (n:Nat):List (Nat×Res)→List (Nat×Res)
 | []=>[]
 |(k,r)::H=>(k+n,r)::sft n H
theorem Qgr {n:Nat}{H0:List (Nat×Res)}: ∀{H:List (Nat×Res)} {j:Nat} {r:Res},hk (hcat (sft n H) H0) j=some r→(∃k,j=k+n∧hk H k=some r)∨(hk H0 j=some r∧∀k,j=k+n→hk H k=none)
 | [],j,r,h=>.inr ⟨h,fun _ _=>rfl⟩
 |(d,u)::H,j,r,h=>by
  replace h:hk ((d+n,u)::hcat (sft n H) H0) j=some r:=h
  rw[Qaa]at h
  split at h
  ·rename_i e;injection h with h;subst h;exact .inl ⟨d,e.symm,by rw[Qaa,if_pos rfl]⟩
  ·rename_i E
   rcases Qgr h with⟨k,I,L⟩|⟨I,L⟩
   ·exact .inl ⟨k,I,by rw[Qaa,if_neg (fun e=>E (by rw[e,I]))];exact L⟩
   ·exact .inr ⟨I,fun k hk=>by rw[Qaa,if_neg (fun e=>E (by rw[e,hk]))];exact L k hk⟩
def outs:List (Nat×Res)→Bool
 | []=>true
 |(_,r)::H=>(match r with| .ln _ _ _ _=>false| .el _ _ _ _=>false| .mit _ _ _ _ _ _=>false| .lmp _ _ _ _ _ _=>false|_=>true)&&outs H
theorem Qcd: ∀{H:List (Nat×Res)} {k:Nat} {r:Res},outs H=true→hk H k=some r→(∀t A c xs,r≠ .ln t A c xs)∧(∀k b o cs,r≠ .el k b o cs)∧r.ref=none
 | [],_,_,_,h=>by cases h
 |(d,u)::H,k,r,E,h=>by
  simp only[outs,Qk]at E
  rw[Qaa]at h
  split at h
  ·injection h with h;subst h
   cases u<;>simp_all [Res.ref]
  ·exact Qcd E.2 h
theorem outs_lmp: ∀{H:List (Nat×Res)} {k:Nat} {κ:Type} {enc:κ→Value} {t:Ty} {agg:Bool} {b:Nat} {m:List (κ×t.den)},outs H=true→hk H k=some (.lmp κ enc t agg b m)→False
 | [],_,_,_,_,_,_,_,_,h=>by cases h
 |(d,u)::H,k,_,_,_,_,_,_,E,h=>by
  simp only[outs,Qk]at E
  rw[Qaa]at h
  split at h
  ·injection h with h;subst h;exact absurd E.1 (by simp)
  ·exact outs_lmp E.2 h
def frs (n:Nat)(H:List (Nat×Res)):List (Nat×Res)→Bool
 | []=>true
 |(k,_)::H'=>(match hk H (k+n)with|none=>true|some _=>false)&&frs n H H'
theorem Hp.back {C:Cx}{H H':List (Nat×Res)}{w w':World}{ms:List (Nat×Nat)}{n:Nat}(h:Hp C H w)(h':Hp ⟨0,[],w,blks H ms,Fh C H⟩ H' w')(ho:outs H'=true)(hf:frs n H H'=true):Hp C (hcat (sft n H') (kill (ms.map (·.2)) H)) w':=by
 have hS: ∀b,b∈blks H ms→∃k,k∈ms.map (·.2)∧Bk H k b:=fun b L=>by
  obtain⟨p,I,E⟩:=Qdj.1 L;exact⟨p.2,Wh.2 ⟨p,I,rfl⟩,E⟩
 have hbk: ∀j b,Bk (hcat (sft n H') (kill (ms.map (·.2)) H)) j b→(∃k,j=k+n∧Bk H' k b)∨((∀k,j=k+n→hk H' k=none)∧Bk H j b∧j∉ms.map (·.2)):=fun j b ⟨r,I,E⟩=>by
  rcases Qgr I with⟨k,O,N⟩|⟨O,N⟩
  ·exact .inl ⟨k,O,r,N,E⟩
  ·rcases Qef O with rfl|⟨h5,h6,_⟩
   ·cases E
   ·exact .inr ⟨N,⟨r,h5,E⟩,h6⟩
 have hnew: ∀k b,Bk H' k b→(w.heap.size≤b∨b∈blks H ms)∧b<w'.heap.size:=fun k b L=>h'.bnd k b L
 have hold: ∀b,(∀k,¬Bk H k b)→b<w.heap.size→b∉blks H ms∧∀j,¬Bk (hcat (sft n H') (kill (ms.map (·.2)) H)) j b:=fun b hB V=>by
  refine⟨fun L=>by obtain⟨k,_,I⟩:=hS b L;exact hB k I,fun j hj=>?_⟩
  rcases hbk j b hj with⟨k,_,I⟩|⟨_,I,_⟩
  ·rcases(hnew k b I).1 with E|E
   ·omega
   ·obtain⟨k,_,O⟩:=hS b E;exact hB k O
  ·exact hB j I
 have W:=h'.ch
 have hsz:w.heap.size≤w'.heap.size:=W.size
 have hrefk: ∀j r i,hk H j=some r→r.ref=some i→i∉ms.map (·.2)→∀b,Bk H i b→Bk (hcat (sft n H') (kill (ms.map (·.2)) H)) i b:=fun j r i hj hr hi b L=>by
  obtain⟨r2,I,E⟩:=L
  have O:=(h.ref j r i hj hr).2 r2 I
  refine⟨r2,?_,E⟩
  have N:hk (kill (ms.map (·.2)) H) i=some r2:=Qfa I hi fun k _=>by rw[O];simp
  have h5: ∀{H':List (Nat×Res)},frs n H H'=true→hk (hcat (sft n H') (kill (ms.map (·.2)) H)) i=some r2:=by
   intro H'
   induction H' with
   |nil=>intro _;exact N
   |cons p q ih=>
    obtain⟨d,u⟩:=p
    intro hf
    simp only[frs,Qk]at hf
    show hk ((d+n,u)::hcat (sft n q) _) i=some r2
    rw[Qaa,if_neg (fun e=>by subst e;rw[I]at hf;exact absurd hf.1 (by simp))]
    exact ih hf.2
  exact h5 hf
 refine⟨?_,fun j r hj=>?_,fun j b hj=>?_,fun j j' b hj hj'=>?_,fun j r i hj hri=>?_⟩
 ·have hc0:=h.ch
  refine⟨W.os.trans hc0.os,W.tape.trans hc0.tape,W.output.trans hc0.output,Wl hc0.size W.size,fun b L hn=>?_⟩
  have hb2:b∉blks H ms:=fun hbS=>by
   obtain⟨k,_,I⟩:=hS b hbS
   rcases(h.bnd k b I).1 with E|E
   ·omega
   ·exact hn E
  rw[W.block b (Qy L hc0.size) hb2]
  exact hc0.block b L hn
 ·rcases Qgr hj with⟨k,rfl,I⟩|⟨I,_⟩
  ·obtain⟨o1,o2,o3⟩:=Qcd ho I
   have hh:=h'.hold k r I
   have hF: ∀b,Fh ⟨0,[],w,blks H ms,Fh C H⟩ H' b→b<w'.heap.size→Fh C (hcat (sft n H') (kill (ms.map (·.2)) H)) b:=fun b L V=>by
    refine⟨fun j hj=>?_,?_⟩
    ·rcases hbk j b hj with⟨k,_,E⟩|⟨_,E,O⟩
     ·exact L.1 k E
     ·rcases L.2 with N|N|N
      ·exact N.1 j E
      ·have:=(h.bnd j b E).2;have N:w.heap.size≤b:=N;omega
      ·obtain⟨k,h5,h6⟩:=hS b N;exact O (by rw[h.dis j k b E h6];exact h5)
    ·rcases L.2 with N|N|N
     ·exact N.2
     ·exact .inr (.inl (Wl h.ch.size N))
     ·obtain⟨k,_,h6⟩:=hS b N;exact .inr (h.bnd k b h6).1
   cases r with
   |ln t A c xs=>exact absurd rfl (o1 t A c xs)
   |el k b o cs=>exact absurd rfl (o2 k b o cs)
   |mit k g b n seen la=>cases o3
   |dead=>trivial
   |sh t cs x=>exact rep_to hh (S:=[]) (Ch.refl w') fun b L V=>⟨by simp,hF b L V⟩
   |own t e A c xs=>exact Own.to hh (S:=[]) (Ch.refl w') (by simp) fun b L V=>⟨by simp,hF b L V⟩
   |blk g e cs=>exact hh
   |mp κ enc t agg b m=>exact Mt.to hh (S:=[]) (Ch.refl w') (by simp) fun b L V=>⟨by simp,hF b L V⟩
   |si g s p=>exact hh
   |ob g p=>exact hh
   |lmp κ enc t agg b m=>exact(outs_lmp ho I).elim
   |mr κ enc t e b As m=>exact Mr.to hh (S:=[]) (Ch.refl w') (by simp) fun b L V=>⟨by simp,hF b L V⟩
   |gn bs p hp=>exact hp hh (S:=[]) (Ch.refl w') (by simp) fun b L V=>⟨by simp,hF b L V⟩
  ·rcases Qef I with rfl|⟨E,O,N⟩
   ·trivial
   ·refine Res.to (h.hold j r E) W (fun b L V=>⟨(hold b L.1 V).1,(hold b L.1 V).2,L.2⟩) (fun b L V=>hold b L V) (fun i b hi hB=>⟨fun hbS=>?_,?_⟩) fun b L hbS=>?_
    ·obtain⟨k,h5,h6⟩:=hS b hbS;exact N k h5 (by rw[hi,h.dis i k b hB h6])
    ·exact hrefk j r i E hi (fun hm=>N i hm hi) b hB
    ·obtain⟨k,h5,h6⟩:=hS b hbS;exact O (by rw[h.dis j k b ⟨r,E,L⟩ h6];exact h5)
 ·rcases hbk j b hj with⟨k,_,I⟩|⟨_,I,_⟩
  ·obtain⟨E,O⟩:=hnew k b I
   refine⟨?_,O⟩
   rcases E with E|E
   ·exact .inl (Wl h.ch.size E)
   ·obtain⟨k,_,h6⟩:=hS b E;exact(h.bnd k b h6).1
  ·exact⟨(h.bnd j b I).1,Qy (h.bnd j b I).2 hsz⟩
 ·have cross: ∀k j b,Bk H' k b→Bk H j b→j∉ms.map (·.2)→False:=fun k j b I E O=>by
   rcases(hnew k b I).1 with N|N
   ·have:=(h.bnd j b E).2;omega
   ·obtain⟨i,h5,h6⟩:=hS b N;exact O (by rw[h.dis j i b E h6];exact h5)
  rcases hbk j b hj with⟨k,rfl,I⟩|⟨_,I,O⟩<;>rcases hbk j' b hj' with⟨k',rfl,E⟩|⟨_,E,N⟩
  ·rw[h'.dis k k' b I E]
  ·exact(cross k j' b I E N).elim
  ·exact(cross k' j b E I O).elim
  ·exact h.dis j j' b I E
 ·rcases Qgr hj with⟨k,rfl,I⟩|⟨I,_⟩
  ·rw[(Qcd ho I).2.2]at hri;cases hri
  ·rcases Qef I with rfl|⟨E,O,N⟩
   ·cases hri
   ·obtain⟨h5,h6⟩:=h.ref j r i E hri
    refine⟨h5,fun r2 h7=>?_⟩
    rcases Qgr h7 with⟨k,rfl,h8⟩|⟨h8,_⟩
    ·exact(Qcd ho h8).2.2
    ·rcases Qef h8 with rfl|⟨h9,_⟩
     ·rfl
     ·exact h6 r2 h9
section
variable {r:Option Nat}{P:Program}{ops:Array Oper}{Q:Exit→Act→World→Prop}{rest lst:List Oper}{C:Cx}{l:List (Nat×Value)}{H:List (Nat×Res)}{d:Nat}{T:TypeId}{pos:String}{af:Array Edge}
theorem Qep {H:List (Nat×Res)}: ∀(ks:List Nat) (j:Nat),hk (kill ks H) j=bif ks.any (Nat.beq j)then some .dead else(hk H j).map fun v=>bif rin ks v.ref then .dead else v
 | [],j=>by
  show hk H j=(hk H j).map _
  cases hk H j with
  |none=>rfl
  |some v=>cases L:v.ref<;>simp[rin,L]
 |k::ks,j=>by
  show hk ((k,.dead)::drp k (kill ks H)) j=_
  rw[Qaa,Qbi,Qep ks j,Xu]
  by_cases E:k=j
  ·subst E;simp
  have I:Nat.beq j k=false:=by cases N:Nat.beq j k with
   |false=>rfl
   |true=>exact absurd (Wj N).symm E
  rw[if_neg E,I]
  revert I;intro _
  cases ks.any (Nat.beq j)<;>cases L:hk H j<;>try rfl
  rename_i v
  cases O:v.ref with
  |none=>simp[rin,O]
  |some i=>simp only[cond_false,Xd,Wb,rin,O,Xu,List.any_nil,Bool.or_false];cases N:ks.any (Nat.beq i)<;>cases V:Nat.beq i k<;>simp_all [rin,Res.ref]
def kld (js:List Nat)(H:List (Nat×Res))(ks:List Nat):List (Nat×Res):=ded ks (ded js H)
theorem hk_kld {H:List (Nat×Res)}{ks js:List Nat}(h:hng ks js H=true)(j:Nat):hk (kld js H ks) j=hk (kill ks H) j∨(hk (kld js H ks) j=some .dead∧hk (kill ks H) j=none):=by
 rw[kld,Qgu,Qgu,Qep]
 cases ks.any (Nat.beq j)with
 |true=>exact .inl rfl
 |false=>exact hng_at h j
theorem hk_hcat: ∀{A H H':List (Nat×Res)},(∀j,hk H' j=hk H j∨(hk H' j=some .dead∧hk H j=none))→∀j,hk (hcat A H') j=hk (hcat A H) j∨(hk (hcat A H') j=some .dead∧hk (hcat A H) j=none)
 | [],_,_,h,j=>h j
 |(d,u)::A,H,H',h,j=>by
  show hk ((d,u)::hcat A H') j=hk ((d,u)::hcat A H) j∨(hk ((d,u)::hcat A H') j=some .dead∧hk ((d,u)::hcat A H) j=none)
  rw[Qaa,Qaa]
  by_cases E:d=j
  ·rw[if_pos E,if_pos E];exact .inl rfl
  ·rw[if_neg E,if_neg E];exact hk_hcat (A:=A) h j
theorem AL.call (n:Nat)(js:List Nat){f:FuncId}{c:Operand}{xs:List Operand}{vs vs' first cap:List Value}{ts:Array TypeId}{H0:List (Nat×Res)}{ms:List (Nat×Nat)}{ls:List Nat}{S:List Nat}{R:Value→List (Nat×Res)→Prop}
  (E: ∀args w,(callFunc f args).run P w=.ok (.enter f args) w) (I:Ct P f vs' H0 S R) (hs:Sub H H0 ms ls)
  (h: ∀v H',R v H'→(outs H'&&frs n H H')=true∧AL r P ops Q rest C ((d,v)::l) (hcat (sft n H') (kld js H (ms.map (·.2)))))
  (V:ev l c=some (.func (.func f) first.toArray cap.toArray):=by rfl) (W:evs l xs=some vs:=by rfl) (hv:first++vs++cap=vs':=by rfl) (hS:blks H ms=S:=by rfl) (h1:nod (H0.map (·.1))=true:=by rfl) (h2:nod (ms.map (·.2))=true:=by rfl) (h3:ls.all (fun k=> !(ms.map (·.2)).any (Nat.beq k))=true:=by rfl) (hd:Nat.ble (d+1) C.n=true:=by rfl) (hj:hng (ms.map (·.2)) js H=true:=by kernel_rfl):
  AL r P ops Q (⟨some d,.call {callee:=.value c,args:=xs.toArray,argTypes:=ts},T,pos,af,none⟩::rest) C l H:=fun a w N O=>by
 subst hS;subst hv
 refine Z.call1 N hd (r_callv E N (first:=first) (cap:=cap) (vs:=vs) (xs:=xs) V W) (I w (Fh C H) (hs.hp O h1 h2 h3)) fun e w' ⟨v,H',he,hR,hh'⟩=>⟨v,he,fun a' hf'=>?_⟩
 obtain⟨L,h5⟩:=h v H' hR
 rw[Qk]at L
 exact h5 a' w' hf' ((O.back hh' L.1 L.2).ext (hk_hcat (hk_kld hj)))
end
theorem pk_kont {r:Option Nat}{P:Program}{Y:Exit→Act→World→Prop}(hp:Pq Y): ∀{K:List Kx},Pq (kont r P Y K)
 | []=>hp
 | .c _::K=>fun c a d v w h=>pk_kont hp (K:=K) c a d v w h
 | .b _::K=>fun c a d v w h=>pk_kont hp (K:=K) c a d v w h
 | .m _::K=>fun c a d v w h=>pk_kont hp (K:=K) c a d v w h
 | .s::K=>fun c a d v w h=>pk_kont hp (K:=K) c a d v w h
section
variable {r:Option Nat}{P:Program}{ops:Array Oper}{Q:Exit→Act→World→Prop}{S S':World→Prop}{m:Nat}
def gn (ops:Array Oper)(li:Array Bool)(m:Nat):Bool:=(ops[m]?).isSome&&li.getD m false
def Hem (r:Option Nat)(P:Program)(ops:Array Oper)(Q:Exit→Act→World→Prop)(S:World→Prop)(m:Nat):Nat→Array Bool→Act→World→Prop
 |0,listed,a,w=>Region.ready .any ops listed=[]∧Q .normal a w
 |f+1,listed,a,w=>(Region.ready .any ops listed=[]→Q .normal a w)∧
  ∀i∈Region.ready .any ops listed,wpOpIn (FW r) 0 P ops Q i (fun a' w'=>(gn ops (listed.setIfInBounds i true) m=false→S w')∧Hem r P ops Q S m f (listed.setIfInBounds i true) a' w') a w
theorem Hem.any: ∀(f:Nat) (listed:Array Bool) (a:Act) (w:World),Hem r P ops Q S m f listed a w→wpAnyIn (FW r) 0 P .any ops Q f listed a w
 |0,_,_,_,h=>h
 |f+1,_,_,_,h=>⟨h.1,fun i E=>wpOpIn_mono (fun a' w' h'=>Hem.any f _ a' w' h'.2) (h.2 i E)⟩
def bonf (ops:Array Oper)(i:Nat):Nat→Nat→Bool
 |0,_=>false
 |f+1,m=>match ops[m]? with
  |none=>false
  |some o=>(o.after.any fun e=>Region.binds .any e&&Nat.beq e.on i)||o.after.any fun e=>Region.binds .any e&&bonf ops i f e.on
def bon (ops:Array Oper)(m i:Nat):Bool:=match ops[m]? with
 |none=>true
 |some _=> !(Nat.beq i m)&&bonf ops i 12 m
def Clo (ops:Array Oper)(li:Array Bool):Prop:=∀k o,ops[k]?=some o→li.getD k false=true→∀e∈o.after,Region.binds .any e=true→li.getD e.on false=true
def cloB (ops:Array Oper)(li:Array Bool):Bool:=(List.range ops.size).all fun k=>match ops[k]? with
 |none=>true
 |some o=> !(li.getD k false)||o.after.all fun e=> !(Region.binds .any e)||li.getD e.on false
theorem clo_of {ops:Array Oper}{li:Array Bool}(h:cloB ops li=true):Clo ops li:=fun k o hk E e I L=>by
 have:=Q7.1 h k (List.mem_range.2 (Qn.1 hk).1)
 rw[hk]at this
 simp only[E,Wt,Xd]at this
 have N:=(Array.all_eq_true_iff_forall_mem.1 this) e I
 simpa[L] using N
theorem Qds {li:Array Bool}{j k:Nat}(h:li.getD k false=true):(li.setIfInBounds j true).getD k false=true:=by
 by_cases e:j=k
 ·subst e
  by_cases hs:j<li.size
  ·simp[hs]
  ·simp[Xz (X9 hs)]at h
 ·rw[getD_set_ne false e];exact h
theorem Clo.step {ops:Array Oper}{li:Array Bool}{j:Nat}(h:Clo ops li)(V:j∈Region.ready .any ops li):Clo ops (li.setIfInBounds j true):=fun k o hk L e N O=>by
 by_cases I:j=k
 ·subst I
  obtain⟨_,oj,E,hall⟩:=mem_ready.1 V
  rw[hk]at E;injection E with E;subst E
  exact Qds (hall e N O)
 ·rw[getD_set_ne false I]at L
  exact Qds (h k o hk L e N O)
theorem Qdr {ops:Array Oper}{li:Array Bool}{i:Nat}(O:Clo ops li): ∀(f m:Nat) {o:Oper},ops[m]?=some o→(∀e∈o.after,Region.binds .any e=true→li.getD e.on false=true)→bonf ops i f m=true→li.getD i false=true
 |0,_,_,_,_,h=>by cases h
 |f+1,m,o,W,V,h=>by
  unfold bonf at h
  rw[W]at h
  simp only[Xx,Array.any_eq_true']at h
  rcases h with⟨e,L,E⟩|⟨e,L,E⟩
  ·rw[Qk]at E
   rw[←Wj E.2];exact V e L E.1
  ·rw[Qk]at E
   have I:=E.2
   cases f with
   |zero=>cases I
   |succ f=>
    cases N:ops[e.on]? with
    |none=>unfold bonf at I;rw[N]at I;cases I
    |some o'=>exact Qdr O (f+1) e.on N (O e.on o' N (V e L E.1)) I
theorem gn_ne {li:Array Bool}{i:Nat}(h:i≠m):gn ops (li.setIfInBounds i true) m=gn ops li m:=by unfold gn;rw[getD_set_ne false h]
theorem Qfn {li:Array Bool}{j:Nat}(h:gn ops (li.setIfInBounds j true) m=false):gn ops li m=false:=by
 cases E:gn ops li m with
 |false=>rfl
 |true=>
  unfold gn at h E
  rw[Qk]at E
  rw[E.1,Qds E.2]at h;cases h
theorem bon_ne {i:Nat}{oi:Oper}(E:ops[i]?=some oi)(h:bon ops m i=true):i≠m:=fun e=>by
 subst e
 unfold bon at h
 rw[E]at h
 simp only[Qk,Xv,Wt,Qs,false_and]at h
theorem bon_gn {li:Array Bool}{i:Nat}(V:Clo ops li)(L:bon ops m i=true)(hr:i∈Region.ready .any ops li):gn ops li m=false:=by
 cases E:gn ops li m with
 |false=>rfl
 |true=>
  unfold gn at E
  rw[Qk]at E
  unfold bon at L
  cases N:ops[m]? with
  |none=>rw[N]at E;cases E.1
  |some om=>
   rw[N]at L
   simp only[Qk]at L
   have O:=Qdr V 12 m N (V m om N E.2) L.2
   have W:=(mem_ready.1 hr).1
   by_cases I:i<li.size
   ·simp[I]at W O;rw[W]at O;cases O
   ·simp[Xz (X9 I)]at O
theorem Hem.first {T:World→Prop}{i:Nat}{oi:Oper}{v:Value}(hn:Qau ops=true)(V:ops[i]?=some oi)(hs:Region.noSelect ops=true)(W:i≠m)(I:(bon ops m i=true∧∀w,S w→T w)∨∀w,T w)(hQ: ∀c a w,Q (.panic c) (a.put oi.dst v) w→Q (.panic c) a w): ∀(f:Nat) (listed:Array Bool) (a:Act) (w:World),Clo ops listed→
  (∀j oj,ops[j]?=some oj→j≠i→listed.getD j true=false→(∀e∈oj.after,Region.binds .any e=true→e.on≠i)→oi.apart ops oj=true)→i∈Region.ready .any ops listed→YieldsIf P ops T oi v a→(gn ops listed m=false→S w)→
  Hem r P ops Q S m f (listed.setIfInBounds i true) (a.put oi.dst v) w→Hem r P ops Q S m (f+1) listed a w
 |0,listed,a,w,L,_,N,hy,hS,H=>⟨fun h=>(by rw[h]at N;cases N),fun j hj=>by
   have hT:T w:=by
    rcases I with I|I
    ·exact I.2 w (hS (bon_gn L I.1 N))
    ·exact I w
   by_cases E:j=i
   ·subst E;exact Hel.op (Qbe hn V) V hy hT ⟨fun h=>hS (Qfn h),H⟩
   ·have:=ready_mono hj E;rw[H.1]at this;cases this⟩
 |f+1,listed,a,w,L,hfree,N,hy,hS,H=>⟨fun h=>(by rw[h]at N;cases N),fun j hj=>by
   have hT:T w:=by
    rcases I with I|I
    ·exact I.2 w (hS (bon_gn L I.1 N))
    ·exact I w
   by_cases E:j=i
   ·subst E;exact Hel.op (Qbe hn V) V hy hT ⟨fun h=>hS (Qfn h),H⟩
   ·have h1:=H.2 j (ready_mono hj E)
    obtain⟨hun,oj,O,hall⟩:=mem_ready.1 hj
    have hno: ∀e∈oj.after,Region.binds .any e=true→e.on≠i:=fun e he I heq=>by
     have hl:=hall e he I
     have h0:=(mem_ready.1 N).1
     rw[heq]at hl
     by_cases hsz:i<listed.size
     ·simp[hsz]at h0 hl;rw[h0]at hl;cases hl
     ·simp[Xz (X9 hsz)]at hl
    have h2:=Hel.put (Qbe hn O) O (hfree j oj O E hun hno) (fun cs b=>Region.noSelect_spec hs i oi cs b V) (fun cs b=>Region.noSelect_spec hs j oj cs b O) hQ hy h1
    refine wpOpIn_mono (fun a' w' h3=>?_) h2
    have hS':gn ops (listed.setIfInBounds j true) m=false→S w':=fun h=>h3.2.1 (by rw[Array.setIfInBounds_comm _ _ (Ne.symm E),gn_ne W];exact h)
    refine⟨hS',Hem.first hn V hs W I hQ f _ a' w' (L.step hj) (fun k ok hk hki hkun hkno=>hfree k ok hk hki ?_ hkno) (ready_mono N (Ne.symm E)) h3.1 hS' ?_⟩
    ·by_cases hjk:j=k
     ·subst hjk;exact hun
     ·rwa[getD_set_ne true hjk]at hkun
    ·rw[Array.setIfInBounds_comm _ _ E];exact h3.2.2⟩
theorem Hem.str (E: ∀w,S' w→S w): ∀(f:Nat) (li:Array Bool) (a:Act) (w:World),Hem r P ops Q S' m f li a w→Hem r P ops Q S m f li a w
 |0,_,_,_,h=>h
 |f+1,li,a,w,h=>⟨h.1,fun i I=>wpOpIn_mono (fun a' w' h'=>⟨fun L=>E w' (h'.1 L),Hem.str E f _ a' w' h'.2⟩) (h.2 i I)⟩
def HZ (r:Option Nat)(P:Program)(ops:Array Oper)(Q:Exit→Act→World→Prop)(S:World→Prop)(m fuel:Nat)(listed:Array Bool)(i:Nat):Exit→Act→World→Prop
 | .normal,a,w=>(gn ops (listed.setIfInBounds i true) m=false→S w)∧Hem r P ops Q S m fuel (listed.setIfInBounds i true) a w
 |e,a,w=>Q e a w
theorem Hem.list {a:Act}{w:World}{fuel:Nat}{listed:Array Bool}{i:Nat}{o:Oper}(N:ops[i]?=some o)(h:WL r P ops (HZ r P ops Q S m fuel listed i) [o] a w):wpOpIn (FW r) 0 P ops Q i (fun a' w'=>(gn ops (listed.setIfInBounds i true) m=false→S w')∧Hem r P ops Q S m fuel (listed.setIfInBounds i true) a' w') a w:=by
 unfold wpOpIn
 rw[N]
 simp only[]
 unfold WL wpListIn at h
 by_cases L:Region.wanted o (yielded ops a.tmps)=true
 ·rw[if_pos L]at h ⊢
  refine⟨h.1,?_⟩
  have h:=h.2
  generalize (o.semAt (FW r).round a.eval).run P w=res at h ⊢
  cases res with
  |ok x w'=>
   cases x with
   |enter f args=>exact⟨h.1,CallsIn.mono h.2 fun e w'' E=>by cases e<;>first|exact E|exact E.elim fun _ I=>I.elim fun _ I=>⟨_,_,I⟩⟩
   |row row args=>exact⟨h.1,RowsIn.mono h.2 fun _ _ E=>E⟩
   |round l f tmps assign body=>exact⟨h.1,RoundIn.mono h.2 fun e w'' E=>by cases e<;>first|exact E|exact E.elim fun _ I=>I.elim fun _ I=>⟨_,_,I⟩⟩
   |_=>exact h
  |halt x w'=>cases x<;>exact h
 ·rw[if_neg L]at h ⊢
  exact h
section
variable {K:Kn}{w:World}{n:Nat}{ds:List Deferred}
theorem Qfz {li':Array Bool}{f:Nat}(O:(Region.noSelect ops&&Qau ops)=true)(hQ: ∀c a d v w,Q (.panic c) (Act.put a d v) w→Q (.panic c) a w){bb:Nat→Bool}(I: ∀i,bb i=true→∀o,ops[i]?=some o→i≠m∧((bon ops m i=true∧∀w,S w→K.ok w)∨∀w,K.ok w)):
  ∀{is:List (Nat×Hint)} {li:Array Bool} {s s':QS} {a:Act},(gn ops li m=false→S w)→Clo ops li→is.all (fun p=>bb p.1)=true→dqs P K n ops is li s=some (li',s')→(∀p,p∈s'.c→p)→(∀p,p∈s'.q→p.1=p.2)→s.ok a n ds→(∀a',s'.ok a' n ds→Hem r P ops Q S m f li' a' w)→Hem r P ops Q S m (f+is.length) li a w
 | [],_,s,s',a,_,_,_,hq,_,_,hs,h=>by simp only[dqs,Qw,Ye]at hq;obtain⟨V,h2⟩:=hq;subst V;subst h2;exact h a hs
 |(i,g)::is,li,s,s',a,hS,L,W,hq,hc,he,hs0,h=>by
  have hn':=O
  rw[Qk]at O
  rw[W6,Qk]at W
  unfold dqs at hq
  split at hq
  ·rename_i o hi
   split at hq
   ·rename_i E
    rw[Qk]at E
    split at hq
    ·rename_i s1 V
     have N:=dqs_le hq
     obtain⟨d,v,hd,k1,k2,k3⟩:=o_bK hs0 V (fun p hp=>hc p (N.c p hp)) (fun p hp=>he p (N.q p hp))
     have hrest:Hem r P ops Q S m (f+is.length) (li.setIfInBounds i true) (a.put (some d) v) w:=Qfz hn' hQ I (fun hg=>hS (Qfn hg)) (L.step (by simpa using E.2)) W.2 hq hc he k1 h
     obtain⟨hne,hb1⟩:=I i W.1 o hi
     refine Hem.first (T:=K.ok) O.2 hi O.1 hne hb1 (fun c a w=>hQ c a _ v w) _ li a w L (Region.free_spec hi E.1) (by simpa using E.2) ?_ hS (by rw[hd];exact hrest)
     rcases k3 with⟨hw,hv⟩|⟨hw,rfl⟩
     ·exact .inl ⟨hw,hv⟩
     ·exact .inr ⟨hw,rfl⟩
    ·cases hq
   ·cases hq
  ·cases hq
end
variable {C:Cx}{l:List (Nat×Value)}{H Hq:List (Nat×Res)}{f:Nat}{li:List Bool}
abbrev AH (r:Option Nat) (P:Program) (ops:Array Oper) (Q:Exit→Act→World→Prop) (Hq:List (Nat×Res)) (m f:Nat) (li:List Bool) (C:Cx) (l:List (Nat×Value)) (H:List (Nat×Res)):Prop:=
 ∀a w,Fr a C.n C.ds l→Hp C H w→Hem r P ops Q (Hp C Hq) m f li.toArray a w
theorem Hp.drew {w w':World}(h:Hp C H w)(I:Ch [] w w'):Hp C H w':=by
 refine⟨?_,fun k r L=>?_,fun k b O=>?_,h.dis,h.ref⟩
 ·have E:=h.ch
  exact⟨I.os.trans E.os,I.tape.trans E.tape,I.output.trans E.output,Wl E.size I.size,fun b hb' V=>by rw[I.block b (Qy hb' E.size) (by simp)];exact E.block b hb' V⟩
 ·exact Res.to (h.hold k r L) I (fun b W _=>⟨by simp,W⟩) (fun b N _=>⟨by simp,N⟩) (fun i b _ N=>⟨by simp,N⟩) (by simp)
 ·exact⟨(h.bnd k b O).1,Qy (h.bnd k b O).2 I.size⟩
theorem AX.dr {Y:Exit→Act→World→Prop}{K:List Kx}{id:Nat}{lo:List Oper}(I:P.follows .mixedOrders=true)(m f:Nat)(li:List Bool)(h:AH r P lo.toArray (kont r P Y K) [] m f li C l H)(E:lo.toArray.size=f:=by rfl)(L:(Array.replicate lo.toArray.size false).toList=li:=by kernel_rfl):
  AX r P Y K (.region id lo.toArray true) C l H:=fun a w N O=>by
 subst E;subst L
 have:=h a _ N (Hp.drew O (Ch.drew w))
 rw[Wp]at this
 exact wpIn_region_any I (Hem.any _ _ _ _ this)
theorem AH.str (gs:List Nat){Hq':List (Nat×Res)}(h:AH r P ops Q Hq' m f li C l H)(e:kpH Hq' gs gs=Hq:=by kernel_rfl):AH r P ops Q Hq m f li C l H:=fun a w E I=>
 Hem.str (fun w h=>h.cov gs e) _ _ a w (h a w E I)
theorem AH.q (hQ:Pq Q)(gs qs bs es:List Nat)(li':List Bool)(f:Nat)(is:List (Nat×Hint))(ks:List Nat)(cs:List Prop)(nl:List (Nat×Value)){g:Nat}(hc:conj cs)(h:AH r P ops Q (kpH H qs qs) m f li' C (cat nl l) H)
  (hg:g=f+is.length:=by rfl) (hb:is.all (fun p=>bon ops m p.1)=true:=by kernel_rfl) (N:cloB ops li.toArray=true:=by kernel_rfl) (hn:(Region.noSelect ops&&Qau ops)=true:=by kernel_rfl)
  (hq:((dqs P ⟨knb (kpH H qs qs) bs,kne (kpH H qs qs) es⟩ C.n ops is li.toArray (q0 l)).bind fun x=>(qfin l ks x.2).map fun y=>(x.1.toList,y))=some (li',cs,nl):=by kernel_rfl)
  (L:(dqs P ⟨knb (kpH H qs qs) bs,kne (kpH H qs qs) es⟩ C.n ops is li.toArray (q0 l)).map (fun s=>s.2.q.map Prod.fst)=(dqs P ⟨knb (kpH H qs qs) bs,kne (kpH H qs qs) es⟩ C.n ops is li.toArray (q0 l)).map (fun s=>s.2.q.map Prod.snd):=by kernel_rfl)
  (e:kpH (kpH H qs qs) gs gs=Hq:=by kernel_rfl):AH r P ops Q Hq m g li C l H:=AH.str gs (e:=e) fun a w hf W=>by
 subst hg
 cases I:dqs P ⟨knb (kpH H qs qs) bs,kne (kpH H qs qs) es⟩ C.n ops is li.toArray (q0 l)with
 |none=>rw[I]at hq;cases hq
 |some x=>
  obtain⟨li1,s'⟩:=x
  rw[I]at hq L
  have hq:((qfin l ks s').map fun y=>(li1.toList,y))=some (li',cs,nl):=hq
  have L:s'.q.map Prod.fst=s'.q.map Prod.snd:=by injection L
  cases E:qfin l ks s' with
  |none=>rw[E]at hq;cases hq
  |some y=>
   obtain⟨cs1,nl1⟩:=y
   rw[E]at hq
   simp only[Wb,Qw,Ye]at hq
   obtain⟨h1,h2,h3⟩:=hq
   subst h1;subst h2;subst h3
   have O:s'.c=cs1:=by unfold qfin at E;split at E;(injection E with E;injection E);cases E
   exact Qfz hn hQ (bb:=fun i=>bon ops m i) (fun i hi o ho=>⟨bon_ne ho hi,.inl ⟨hi,fun w' h'=>o_bL h' bs es⟩⟩) (fun _=>W.keep qs) (clo_of N) hb I (by rw[O];exact Qfs hc) (Qck L) (o_bt hf) fun a' V=>by
    have:=h a' w (Qiz V (Qip (q0_inv l) I) E).1 W
    rwa[Wp]at this
theorem AH.v (W:Pq Q)(gs qs:List Nat)(i:Nat)(li':List Bool){d:Nat}{op:Op}{T:TypeId}{pos:String}{af:Array Edge}{v:Value}(I:ops[i]?=some ⟨some d,op,T,pos,af,none⟩)(hr: ∀a w,Fr a C.n C.ds l→Hp C (kpH H qs qs) w→(execOp a.eval ⟨some d,op,T,pos,af,none⟩).run P w=.ok (.value v) w)
  (h:AH r P ops Q (kpH H qs qs) m f li' C ((d,v)::l) H) (N:bon ops m i=true:=by kernel_rfl) (L:cloB ops li.toArray=true:=by kernel_rfl) (hl:(li.toArray.setIfInBounds i true).toList=li':=by kernel_rfl) (hd:Nat.ble (d+1) C.n=true:=by rfl) (hs:(Region.noSelect ops&&Qau ops)=true:=by kernel_rfl)
  (E:(Region.free .any ops li.toArray i&&(Region.ready .any ops li.toArray).contains i)=true:=by kernel_rfl) (e:kpH (kpH H qs qs) gs gs=Hq:=by kernel_rfl):AH r P ops Q Hq m (f+1) li C l H:=AH.str gs (e:=e) fun a w O V=>by
 rw[Qk]at hs E
 refine Hem.first (T:=Hp C (kpH H qs qs)) hs.2 I hs.1 (bon_ne I N) (.inl ⟨N,fun _ h=>h⟩) (fun c a w=>W c a _ _ w) f li.toArray a w (clo_of L) (Region.free_spec I E.1) (by simpa using E.2) (.inl ⟨Qbu,fun w' h'=>hr a w' O h'⟩) (fun _=>V.keep qs) ?_
 have:=h _ w (O.put (Q0 hd) v) V
 rw[←hl,Wp]at this
 exact this
theorem AH.vg (hQ:Pq Q)(gs qs:List Nat)(i:Nat)(li':List Bool){d j dj:Nat}{b:Bool}{op:Op}{T:TypeId}{pos:String}{af:Array Edge}{v:Value}(I:ops[i]?=some ⟨some d,op,T,pos,af,some (j,b)⟩)(hr: ∀a w,Fr a C.n C.ds l→Hp C (kpH H qs qs) w→(execOp a.eval ⟨some d,op,T,pos,af,none⟩).run P w=.ok (.value v) w)
  (h:AH r P ops Q (kpH H qs qs) m f li' C ((d,v)::l) H) (hj:(ops[j]?).bind (·.dst)=some dj:=by rfl) (L:lk l dj=some (.bool b):=by rfl) (V:bon ops m i=true:=by kernel_rfl) (N:cloB ops li.toArray=true:=by kernel_rfl) (hl:(li.toArray.setIfInBounds i true).toList=li':=by kernel_rfl) (hd:Nat.ble (d+1) C.n=true:=by rfl) (hs:(Region.noSelect ops&&Qau ops)=true:=by kernel_rfl)
  (E:(Region.free .any ops li.toArray i&&(Region.ready .any ops li.toArray).contains i)=true:=by kernel_rfl) (e:kpH (kpH H qs qs) gs gs=Hq:=by kernel_rfl):AH r P ops Q Hq m (f+1) li C l H:=AH.str gs (e:=e) fun a w O W=>by
 rw[Qk]at hs E
 refine Hem.first (T:=Hp C (kpH H qs qs)) hs.2 I hs.1 (bon_ne I V) (.inl ⟨V,fun _ h=>h⟩) (fun c a w=>hQ c a _ _ w) f li.toArray a w (clo_of N) (Region.free_spec I E.1) (by simpa using E.2) (.inl ⟨Qcj O hj L,fun w' h'=>hr a w' O h'⟩) (fun _=>W.keep qs) ?_
 have:=h _ w (O.put (Q0 hd) v) W
 rw[←hl,Wp]at this
 exact this
theorem AH.one (i:Nat){o:Oper}(h:AL r P ops (HZ r P ops Q (Hp C Hq) m f li.toArray i) [o] C l H)(N:ops[i]?=some o:=by rfl)(E:Region.ready .any ops li.toArray=[i]:=by kernel_rfl):AH r P ops Q Hq m (f+1) li C l H:=fun a w O V=>
 ⟨fun I=>(by rw[E]at I;cases I),fun j L=>by rw[E,Qi]at L;subst L;exact Hem.list N (h a w O V)⟩
theorem AH.two (i j:Nat){oi oj:Oper}(O:AL r P ops (HZ r P ops Q (Hp C Hq) m f li.toArray i) [oi] C l H)(V:AL r P ops (HZ r P ops Q (Hp C Hq) m f li.toArray j) [oj] C l H)(W:ops[i]?=some oi:=by rfl)(hj:ops[j]?=some oj:=by rfl)(E:Region.ready .any ops li.toArray=[i,j]:=by kernel_rfl):
  AH r P ops Q Hq m (f+1) li C l H:=fun a w I L=>
 ⟨fun N=>(by rw[E]at N;cases N),fun k hk=>by
  rw[E]at hk
  simp only[Qg,Yr,or_false]at hk
  rcases hk with rfl|rfl
  ·exact Hem.list W (O a w I L)
  ·exact Hem.list hj (V a w I L)⟩
theorem AH.nx {i:Nat}(li':List Bool)(gs:List Nat)(h:AH r P ops Q Hq m f li' C l H)(e:kpH H gs gs=Hq:=by kernel_rfl)(I:(li.toArray.setIfInBounds i true).toList=li':=by kernel_rfl):AL r P ops (HZ r P ops Q (Hp C Hq) m f li.toArray i) [] C l H:=fun a w L E=>by
 refine Z.done ?_
 show(_→Hp C Hq w)∧_
 have:=h a w L E
 rw[←I,Wp]at this
 exact⟨fun _=>E.cov gs e,this⟩
theorem AH.nm {i:Nat}(li':List Bool)(h:AH r P ops Q Hq m f li' C l H)(E:(li.toArray.setIfInBounds i true).toList=li':=by kernel_rfl)(I:gn ops li'.toArray m=true:=by kernel_rfl):AL r P ops (HZ r P ops Q (Hp C Hq) m f li.toArray i) [] C l H:=fun a w L N=>by
 refine Z.done ?_
 show(_→Hp C Hq w)∧_
 have:=h a w L N
 rw[←E,Wp]at this
 rw[←E,Wp]at I
 exact⟨fun h=>(by rw[I]at h;cases h),this⟩
theorem AH.qc (hQ:Pq Q)(hS: ∀w,Hp C H w→gn ops li.toArray m=false→Hp C Hq w)(li':List Bool)(f:Nat)(is:List (Nat×Hint))(nl:List (Nat×Value)){g:Nat}(h:AH r P ops Q Hq m f li' C (cat nl l) H)
  (hg:g=f+is.length) (hb:is.all (fun p=> !(Nat.beq p.1 m))=true) (O:cloB ops li.toArray=true) (hn:(Region.noSelect ops&&Qau ops)=true)
  (hq:((dqs P ⟨[],[]⟩ C.n ops is li.toArray (q0 l)).bind fun x=>(qfin l (nl.map Prod.fst) x.2).map fun y=>(x.1.toList,y))=some (li',[],nl))
  (N:(dqs P ⟨[],[]⟩ C.n ops is li.toArray (q0 l)).map (fun s=>s.2.q.map Prod.fst)=(dqs P ⟨[],[]⟩ C.n ops is li.toArray (q0 l)).map (fun s=>s.2.q.map Prod.snd)):AH r P ops Q Hq m g li C l H:=fun a w hf hh=>by
 subst hg
 cases I:dqs P ⟨[],[]⟩ C.n ops is li.toArray (q0 l)with
 |none=>rw[I]at hq;cases hq
 |some x=>
  obtain⟨li1,s'⟩:=x
  rw[I]at hq N
  have hq:((qfin l (nl.map Prod.fst) s').map fun y=>(li1.toList,y))=some (li',[],nl):=hq
  have N:s'.q.map Prod.fst=s'.q.map Prod.snd:=by injection N
  cases E:qfin l (nl.map Prod.fst) s' with
  |none=>rw[E]at hq;cases hq
  |some y=>
   obtain⟨cs1,nl1⟩:=y
   rw[E]at hq
   simp only[Wb,Qw,Ye]at hq
   obtain⟨h1,h2,h3⟩:=hq
   subst h1
   have L:=E
   rw[h2,h3]at L
   have V:s'.c=[]:=by rw[←h2];unfold qfin at E;split at E;(injection E with E;injection E);cases E
   have W: ∀w',Kn.ok ⟨[],[]⟩ w':=fun w'=>by refine⟨?_,?_⟩<;>intro x hx<;>cases hx
   exact Qfz hn hQ (K:=⟨[],[]⟩) (bb:=fun i=> !(Nat.beq i m)) (fun i hi o ho=>⟨fun e=>by subst e;simp at hi,.inr W⟩) (hS w hh) (clo_of O) hb I (by rw[V];intro p hp;cases hp) (Qck N) (o_bt hf) fun a' hok=>by
    have:=h a' w (Qiz hok (Qip (q0_inv l) I) L).1 hh
    rwa[Wp]at this
theorem AH.qp (I:Pq Q)(gs:List Nat)(li':List Bool)(f:Nat)(is:List (Nat×Hint))(nl:List (Nat×Value)){g:Nat}(h:AH r P ops Q Hq m f li' C (cat nl l) H)
  (L:g=f+is.length:=by rfl) (N:is.all (fun p=> !(Nat.beq p.1 m))=true:=by kernel_rfl) (E:cloB ops li.toArray=true:=by kernel_rfl) (O:(Region.noSelect ops&&Qau ops)=true:=by kernel_rfl)
  (hq:((dqs P ⟨[],[]⟩ C.n ops is li.toArray (q0 l)).bind fun x=>(qfin l (nl.map Prod.fst) x.2).map fun y=>(x.1.toList,y))=some (li',[],nl):=by kernel_rfl)
  (V:(dqs P ⟨[],[]⟩ C.n ops is li.toArray (q0 l)).map (fun s=>s.2.q.map Prod.fst)=(dqs P ⟨[],[]⟩ C.n ops is li.toArray (q0 l)).map (fun s=>s.2.q.map Prod.snd):=by kernel_rfl)
  (e:kpH H gs gs=Hq:=by kernel_rfl):AH r P ops Q Hq m g li C l H:=AH.qc I (fun w W _=>W.cov gs e) li' f is nl h L N E O hq V
theorem AH.done {Y:Exit→Act→World→Prop}{K:List Kx}(h:AE r P Y K .normal C l H)(E:Region.ready .any ops li.toArray=[]:=by kernel_rfl):AH r P ops (kont r P Y K) Hq m f li C l H:=fun a w I L=>by
 cases f with
 |zero=>exact⟨E,h a w I L⟩
 |succ f=>exact⟨fun _=>h a w I L,by rw[E];simp⟩
theorem cov {X:Act→World→Prop}{l':List (Nat×Value)}{H':List (Nat×Res)}(gs:List Nat)(h: ∀a w,Fr a C.n C.ds l'→Hp C H' w→X a w)(E:kp l (l'.map (·.1))=l':=by kernel_rfl)(I:kpH H gs gs=H':=by kernel_rfl): ∀a w,Fr a C.n C.ds l→Hp C H w→X a w:=fun a w L N=>h a w (Fr.cov L E) (N.cov gs I)
end
theorem peek {C:Cx}{H:List (Nat×Res)}{w:World}(hh:Hp C H w)(k kn:Nat){t:Ty}{A:Option Addr}{c:Nat}{xs:List t.den}{i:Int}{v:t.den}(hi:ix xs i=some v)(hrow: ∀w,Hp C H w→∃G:Nat→Prop,Row t w (Fh C H) G A c xs∧∀b,G b→∀k,¬Bk H k b)(N:nok H kn (1+lv t)=true):
  ∃ps:Lf,ps.length=lv t∧t.ok v∧∃b o,A=some ⟨b,o,none⟩∧Hp C (hcat (kx (kn+1) (rs t v ps)) ((kn,.el none b (o+i.toNat*t.size) (cl t v ps))::H)) w:=by
 obtain⟨k,rfl,hv⟩:=Qbf hi
 obtain⟨G,hR,hG⟩:=hrow w hh
 obtain⟨b,o,es,hA,hb,O,hc,hr⟩:=hR.at hv
 obtain⟨ps,hl,rfl,V⟩:=rep_cl (B:=Bk H) t (Qaf t hr)
 have L:hk H kn=none:=Qbm N (Qq _) (by omega)
 have h1:Hp C ((kn,.el none b (o+k*t.size) (cl t v ps))::H) w:=hh.add L rfl (fun j E=>by cases E) ⟨hc,O,hG b hb⟩
 have W: ∀n k',nok H k' n=true→(∀j,k'≤j→j<k'+n→j≠kn)→nok ((kn,.el none b (o+k*t.size) (cl t v ps))::H) k' n=true:=by
  intro n
  induction n with
  |zero=>intro _ _ _;rfl
  |succ n ih=>
   intro k' h2 h3
   simp only[nok,Qk]at h2 ⊢
   refine⟨?_,ih (k'+1) h2.2 fun j h4 h5=>h3 j (by omega) (by omega)⟩
   rw[Qaa,if_neg (Ne.symm (h3 k' (Qq _) (by omega)))];exact h2.1
 have hn2:nok H (kn+1) (rs t v ps).length=true:=by
  rw[Qcz t v ps hl]
  rw[Y3 1]at N
  simp only[nok,Qk]at N;exact N.2
 refine⟨ps,hl,rep_ok t hr,b,o,hA,?_⟩
 rw[Qt]
 refine h1.adds (W _ _ hn2 fun j h4 _=>by omega) fun r2 h4=>?_
 obtain⟨h5,h6,h7⟩:=V r2 h4
 have I: ∀j b',Bk ((kn,.el none b (o+k*t.size) (cl t v ps))::H) j b'↔Bk H j b':=fun j b'=>by
  by_cases E:j=kn
  ·subst E
   rw[Bk.cons_eq]
   exact⟨fun h=>by simp[Res.bl]at h,fun⟨_,h8,_⟩=>by rw[L]at h8;cases h8⟩
  ·exact Bk.cons_ne E
 exact⟨h6,h7,Res.to h5 (S:=[]) (Ch.refl w) (fun b' hF _=>⟨by simp,⟨fun j E=>hF.1.1 j ((I j b').1 E),hF.1.2⟩,hF.2⟩) (fun b' hB _=>⟨by simp,fun j E=>hB j ((I j b').1 E)⟩) (fun i b' _ hB=>⟨by simp,(I i b').2 hB⟩) (by simp)⟩
theorem Hp.blk {C:Cx}{H:List (Nat×Res)}{w:World}{g:Nat}{e:TypeId}{cs:List Value}(E:Hp C H w)(k:Nat)(h:hk H k=some (.blk g e cs):=by rfl):Blk w g e cs:=E.hold k _ h
def FU:Nat:=340282366920938463463374607431768211456
def gd {α:Type}(p:Prop)[Decidable p](x:Option α):Option α:=if p then x else none
theorem gd_some {α:Type}{p:Prop}[Decidable p]{x:Option α}{y:α}(h:gd p x=some y):p∧x=some y:=by
 unfold gd at h
 split at h
 ·exact⟨‹p›,h⟩
 ·cases h
theorem bd_some {α β:Type}{x:Option α}{f:α→Option β}{y:β}(h:x.bind f=some y): ∃v,x=some v∧f v=some y:=Y0.1 h
theorem no0 {α:Type}{y:α}{p:Prop}(h:(none:Option α)=some y):p:=by cases h
theorem ix_nat {α:Type}(xs:List α)(k:Nat):ix xs (k:Int)=xs[k]?:=by unfold ix;rw[if_neg (by omega),Qt]
instance (k:IntKind) (n:Int):Decidable (k.has n):=by unfold IntKind.has;infer_instance
theorem hasl (k:IntKind)(n:Int)(h:decide (k.has n)=true):k.has n:=of_decide_eq_true h
theorem has_len {α:Type}{xs:List α}(h:xs.length≤maxLen):IntKind.i64.has (xs.length:Int):=Z.i64_has (by simp only[maxLen]at h;omega)
theorem has_nat {n:Nat}(h:n≤maxLen):IntKind.i64.has (n:Int):=Z.i64_has (by simp only[maxLen]at h;omega)
theorem has_min {k:IntKind}{a b:Int}(E:k.has a)(I:k.has b):k.has (min a b):=by
 rcases Int.le_total a b with h|h
 ·rw[Int.min_eq_left h];exact E
 ·rw[Int.min_eq_right h];exact I
section
variable {X:Act→World→Prop}{C:Cx}{l:List (Nat×Value)}{H:List (Nat×Res)}
theorem nil (k:Nat)(t:Ty)(e:TypeId)(h: ∀a w,Fr a C.n C.ds l→Hp C ((k,.own t e none 0 [])::H) w→X a w)(E:hk H k=none:=by kernel_rfl): ∀a w,Fr a C.n C.ds l→Hp C H w→X a w:=fun a w I L=>
 h a w I (L.add E rfl (fun j N=>by cases N) (Own.nil t e 0 w _))
theorem snil (k:Nat)(t:Ty)(h: ∀a w,Fr a C.n C.ds l→Hp C ((k,.sh (.slice t) [.slice none 0 0] [])::H) w→X a w)(E:hk H k=none:=by kernel_rfl): ∀a w,Fr a C.n C.ds l→Hp C H w→X a w:=fun a w I L=>
 h a w I (L.add E rfl (fun j N=>by cases N) (Qfo t))
theorem frz (k:Nat)(js:List Nat){t:Ty}{e:TypeId}{A:Option Addr}{c:Nat}{xs:List t.den}(h: ∀a w,Fr a C.n C.ds l→Hp C ((k,.sh (.slice t) [.slice A xs.length c] xs)::ded js H) w→X a w)(E:hk H k=some (.own t e A c xs):=by rfl)(I:hng [k] js H=true:=by kernel_rfl): ∀a w,Fr a C.n C.ds l→Hp C H w→X a w:=fun a w L N=>h a w L (Hp.dd (N.frz E) I)
theorem oko (k:Nat){t:Ty}{e:TypeId}{A:Option Addr}{c:Nat}{xs:List t.den}(h:(Ty.slice t).ok xs→∀a w,Fr a C.n C.ds l→Hp C H w→X a w)(E:hk H k=some (.own t e A c xs):=by rfl): ∀a w,Fr a C.n C.ds l→Hp C H w→X a w:=fun a w N L=>by
 obtain⟨G,I,_⟩:=rowO E w L
 exact h ⟨Wl I.1 I.2.1,I.ok⟩ a w N L
theorem cst (d:Nat){v v':Value}(e:v=v')(h: ∀a w,Fr a C.n C.ds ((d,v')::l)→Hp C H w→X a w)(I:lk l d=some v:=by rfl): ∀a w,Fr a C.n C.ds l→Hp C H w→X a w:=fun a w E L=>h a w (E.cons E (by rw[I,e])) L
theorem Hp.mv {w:World}(L:Hp C H w){k k2:Nat}{r:Res}(h1:hk H k=some r)(hne:k2≠k)(h2: ∀u,hk H k2=some u→u=.dead)(hr:r.ref=none):Hp C ((k2,r)::(k,.dead)::drp k H) w:=by
 have hd:Hp C ((k,.dead)::drp k H) w:=L.upd (S:=[]) (Ch.refl w) (by simp) (by simp[Res.bl]) (fun j E=>by cases E) fun _ _ _ _ _ _ _=>trivial
 have V: ∀j b,Bk ((k2,r)::(k,.dead)::drp k H) j b→(j=k2∧b∈r.bl)∨(j≠k2∧j≠k∧Bk H j b):=fun j b ⟨r2,I,W⟩=>by
  rw[Qaa]at I
  split at I
  ·rename_i e;injection I with I;subst I;exact .inl ⟨e.symm,W⟩
  ·rename_i hn
   rw[Qaa]at I
   split at I
   ·injection I with I;subst I;cases W
   ·rename_i hn2
    rcases Qcb k H j r2 I with rfl|⟨N,_⟩
    ·cases W
    ·exact .inr ⟨Ne.symm hn,Ne.symm hn2,r2,N,W⟩
 have hnb: ∀b,(∀j,¬Bk H j b)→∀j,¬Bk ((k2,r)::(k,.dead)::drp k H) j b:=fun b hB j E=>by
  rcases V j b E with⟨_,I⟩|⟨_,_,I⟩
  ·exact hB k ⟨r,h1,I⟩
  ·exact hB j I
 refine⟨L.ch,fun j r2 E=>?_,fun j b E=>?_,fun j j' b E hj'=>?_,fun j r2 i E hri=>?_⟩
 ·rw[Qaa]at E
  split at E
  ·injection E with E;subst E
   exact Res.to (L.hold k r h1) (S:=[]) (Ch.refl w) (fun b hF _=>⟨by simp,hnb b hF.1,hF.2⟩) (fun b hB _=>⟨by simp,hnb b hB⟩) (fun i b hi _=>by rw[hr]at hi;cases hi) (by simp)
  ·rename_i hn
   rw[Qaa]at E
   split at E
   ·injection E with E;subst E;trivial
   ·rename_i hn2
    rcases Qcb k H j r2 E with rfl|⟨N,h6⟩
    ·trivial
    ·refine Res.to (L.hold j r2 N) (S:=[]) (Ch.refl w) (fun b hF _=>⟨by simp,hnb b hF.1,hF.2⟩) (fun b hB _=>⟨by simp,hnb b hB⟩) (fun i b hi hB=>⟨by simp,?_⟩) (by simp)
     obtain⟨r3,O,h8⟩:=hB
     have hik:i≠k:=fun e=>h6 (by rw[hi,e])
     have hik2:i≠k2:=fun e=>by subst e;rw[h2 _ O]at h8;cases h8
     refine⟨r3,?_,h8⟩
     rw[Qaa,if_neg (Ne.symm hik2),Qaa,if_neg (Ne.symm hik)]
     exact Qdv O (by rw[(L.ref j r2 i N hi).2 r3 O];simp)
 ·rcases V j b E with⟨_,I⟩|⟨_,_,I⟩
  ·exact L.bnd k b ⟨r,h1,I⟩
  ·exact L.bnd j b I
 ·rcases V j b E with⟨I,W⟩|⟨_,I,W⟩<;>rcases V j' b hj' with⟨N,h6⟩|⟨_,N,h6⟩
  ·rw[I,N]
  ·exact absurd (L.dis k j' b ⟨r,h1,W⟩ h6) (Ne.symm N)
  ·exact absurd (L.dis k j b ⟨r,h1,h6⟩ W) (Ne.symm I)
  ·exact L.dis j j' b W h6
 ·rw[Qaa]at E
  split at E
  ·injection E with E;subst E;rw[hr]at hri;cases hri
  ·rename_i hn
   obtain⟨N,h6⟩:=hd.ref j r2 i E hri
   refine⟨N,fun r3 O=>?_⟩
   rw[Qaa]at O
   split at O
   ·injection O with O;subst O;exact hr
   ·exact h6 r3 O
theorem mv (k L:Nat)(js:List Nat){r:Res}(h: ∀a w,Fr a C.n C.ds l→Hp C ((L,r)::(k,.dead)::ded js H) w→X a w)(E:hk H k=some r:=by rfl)(O:r.ref=none:=by rfl)(I:hk H L=none:=by kernel_rfl)(V:hng [k] js H=true:=by kernel_rfl): ∀a w,Fr a C.n C.ds l→Hp C H w→X a w:=fun a w W hh=>h a w W (Hp.dd2 (hh.mv E (fun e=>by subst e;rw[E]at I;cases I) (fun u N=>by rw[I]at N;cases N) O) V)
def gone (H:List (Nat×Res))(k:Nat):Bool:=match hk H k with
 |none=>true
 |some .dead=>true
 |_=>false
theorem mvd (k I:Nat)(js:List Nat){r:Res}(h: ∀a w,Fr a C.n C.ds l→Hp C ((I,r)::(k,.dead)::ded js H) w→X a w)(L:hk H k=some r:=by rfl)(O:r.ref=none:=by rfl)(E:Nat.beq I k=false:=by rfl)(N:gone H I=true:=by kernel_rfl)(V:hng [k] js H=true:=by kernel_rfl): ∀a w,Fr a C.n C.ds l→Hp C H w→X a w:=fun a w W hh=>h a w W (Hp.dd2 (hh.mv L (fun e=>by rw[e,Xv]at E;cases E) (fun u hu=>by
 unfold gone at N;rw[hu]at N
 cases u<;>first|rfl|cases N) O) V)
end
section
variable {r:Option Nat}{P:Program}{ops:Array Oper}{Q:Exit→Act→World→Prop}{C:Cx}{l:List (Nat×Value)}{H Hq:List (Nat×Res)}{m f:Nat}{li:List Bool}
theorem AH.cnd {ρ:Type}{A B R:Option ρ}{j:Nat}{b:Bool}(L:lk l j=some (.bool b))(E:(if b=true then A else B)=R)(O:A=R→AH r P ops Q Hq m f li C ((j,.bool true)::l) H)(V:B=R→AH r P ops Q Hq m f li C ((j,.bool false)::l) H):AH r P ops Q Hq m f li C l H:=fun a w I N=>by
 cases b with
 |true=>rw[if_pos rfl]at E;exact O E a w (I.cons I L) N
 |false=>rw[if_neg (by simp)]at E;exact V E a w (I.cons I L) N
theorem AH.cnp {ρ:Type}{A B R:Option ρ}{j:Nat}{p:Prop}[Decidable p](L:lk l j=some (.bool (decide p)))(E:(if p then A else B)=R)(O:p→A=R→AH r P ops Q Hq m f li C ((j,.bool true)::l) H)(V: ¬p→B=R→AH r P ops Q Hq m f li C ((j,.bool false)::l) H):AH r P ops Q Hq m f li C l H:=fun a w I N=>by
 by_cases hp:p
 ·rw[if_pos hp]at E;exact O hp E a w (I.cons I (by rw[L,decide_eq_true hp])) N
 ·rw[if_neg hp]at E;exact V hp E a w (I.cons I (by rw[L,decide_eq_false hp])) N
theorem AH.pks (k kn:Nat){t:Ty}{A:Option Addr}{c:Nat}{xs:List t.den}{i:Int}{v:t.den}(L:ix xs i=some v)(h:t.ok v→tele (lv t) fun ps=>∀b o,A=some ⟨b,o,none⟩→AH r P ops Q Hq m f li C l (hcat (kx (kn+1) (rs t v ps)) ((kn,.el none b (o+i.toNat*t.size) (cl t v ps))::H)))
  (E:hk H k=some (.sh (.slice t) [.slice A xs.length c] xs):=by rfl) (N:nok H kn (1+lv t)=true:=by kernel_rfl):AH r P ops Q Hq m f li C l H:=fun a w O V=>by
 obtain⟨ps,W,I,b,o,hA,h2⟩:=peek V k kn L (rowS E) N
 exact Qav (h I) ps W b o hA a w O h2
theorem AH.pkl (k kn:Nat){t:Ty}{A:Option Addr}{c:Nat}{xs:List t.den}{i:Int}{v:t.den}(L:ix xs i=some v)(h:t.ok v→tele (lv t) fun ps=>∀b o,A=some ⟨b,o,none⟩→AH r P ops Q Hq m f li C l (hcat (kx (kn+1) (rs t v ps)) ((kn,.el none b (o+i.toNat*t.size) (cl t v ps))::H)))
  (E:hk H k=some (.ln t A c xs):=by rfl) (N:nok H kn (1+lv t)=true:=by kernel_rfl):AH r P ops Q Hq m f li C l H:=fun a w O V=>by
 obtain⟨ps,W,I,b,o,hA,h2⟩:=peek V k kn L (rowL E) N
 exact Qav (h I) ps W b o hA a w O h2
theorem AH.pko (k kn:Nat){t:Ty}{e:TypeId}{A:Option Addr}{c:Nat}{xs:List t.den}{i:Int}{v:t.den}(hi:ix xs i=some v)(h:t.ok v→tele (lv t) fun ps=>∀g,A=some ⟨g,0,none⟩→AH r P ops Q Hq m f li C l (hcat (kx (kn+1) (rs t v ps)) ((kn,.el (some k) g (i.toNat*t.size) (cl t v ps))::H)))
  (I:hk H k=some (.own t e A c xs):=by rfl) (hn:nok H kn (1+lv t)=true:=by kernel_rfl):AH r P ops Q Hq m f li C l H:=fun a w hf hh=>by
 obtain⟨k',rfl,W⟩:=Qbf hi
 obtain⟨G,hR,hG⟩:=rowO I w hh
 obtain⟨b,o,es,hA,hb,hbl,hc,L⟩:=hR.at W
 have ho:o=0:=by
  obtain⟨cells,hrow,_⟩:Own t e 0 w (Fh C H) A c xs:=hh.hold k _ I
  rcases hrow.2 with⟨W,_⟩|⟨g,cap,cur,W,_⟩
  ·injection W with hA' _ _;rw[hA]at hA';cases hA'
  ·injection W with hA' _ _;rw[hA]at hA';injection hA' with hA';injection hA' with _ V _
 subst ho
 rw[Ws]at hc
 obtain⟨ps,hl,rfl,hrs⟩:=rep_cl (B:=Bk H) t (Qaf t L)
 have hnk:hk H kn=none:=Qbm hn (Qq _) (by omega)
 have h1:Hp C ((kn,.el (some k) b (k'*t.size) (cl t v ps))::H) w:=hh.add hnk rfl (fun j E r L=>by injection E with E;subst E;rw[I]at L;injection L with L;subst L;rfl) ⟨hc,hbl,hG b hb⟩
 have hn2:nok H (kn+1) (rs t v ps).length=true:=by
  rw[Qcz t v ps hl]
  rw[Y3 1]at hn
  simp only[nok,Qk]at hn;exact hn.2
 have hnn: ∀n N,nok H N n=true→(∀j,N≤j→j<N+n→j≠kn)→nok ((kn,.el (some k) b (k'*t.size) (cl t v ps))::H) N n=true:=by
  intro n
  induction n with
  |zero=>intro _ _ _;rfl
  |succ n ih=>
   intro N V h3
   simp only[nok,Qk]at V ⊢
   refine⟨?_,ih (N+1) V.2 fun j h4 h5=>h3 j (by omega) (by omega)⟩
   rw[Qaa,if_neg (Ne.symm (h3 N (Qq _) (by omega)))];exact V.1
 have V:Hp C (hcat (kx (kn+1) (rs t v ps)) ((kn,.el (some k) b (k'*t.size) (cl t v ps))::H)) w:=by
  refine h1.adds (hnn _ _ hn2 fun j h4 _=>by omega) fun r2 h4=>?_
  obtain⟨h5,h6,h7⟩:=hrs r2 h4
  have O: ∀j b',Bk ((kn,.el (some k) b (k'*t.size) (cl t v ps))::H) j b'↔Bk H j b':=fun j b'=>by
   by_cases E:j=kn
   ·subst E
    rw[Bk.cons_eq]
    exact⟨fun h=>by simp[Res.bl]at h,fun⟨_,h8,_⟩=>by rw[hnk]at h8;cases h8⟩
   ·exact Bk.cons_ne E
  exact⟨h6,h7,Res.to h5 (S:=[]) (Ch.refl w) (fun b' hF _=>⟨by simp,⟨fun j E=>hF.1.1 j ((O j b').1 E),hF.1.2⟩,hF.2⟩) (fun b' hB _=>⟨by simp,fun j E=>hB j ((O j b').1 E)⟩) (fun i b' _ hB=>⟨by simp,(O i b').2 hB⟩) (by simp)⟩
 exact Qav (h (rep_ok t L)) ps hl b hA a w hf (by rw[Qt];exact V)
theorem r_ixo {a:Act}{w:World}{d:Option Tmp}{T:TypeId}{pos:String}{af:Array Edge}{n:Nat}{ds:List Deferred}{tt e:TypeId}{x y:Operand}{A:Option Addr}{b c:Nat}{t:Ty}{xs:List t.den}{i:Int}{kd:IntKind}{v:t.den}(I:ix xs i=some v)(L:A=some ⟨b,0,none⟩)(E:Fr a n ds l)
  (N:ev l x=some (.slice A xs.length c):=by rfl) (O:ev l y=some (.int kd i):=by rfl) (V:P.underlying tt=some (.slice e):=by rfl) (hs:szB P e=some t.size:=by kernel_rfl):(execOp a.eval ⟨d,.indexAddr tt x y,T,pos,af,none⟩).run P w=.ok (.value (.pointer (some ⟨b,i.toNat*t.size,none⟩))) w:=by
 obtain⟨k,rfl,W⟩:=Qbf I
 have:=r_indexAddrA (P:=P) (w:=w) (d:=d) (T:=T) (pos:=pos) (af:=af) (gd:=none) V (Qal hs) (E.eval N) L (E.eval O) rfl (Qc.1 W).1
 rw[Addr.add_lit,Ws]at this
 exact this
theorem r_ixa {a:Act}{w:World}{d:Option Tmp}{T:TypeId}{pos:String}{af:Array Edge}{n:Nat}{ds:List Deferred}{tt e:TypeId}{x y:Operand}{A:Option Addr}{b o c:Nat}{t:Ty}{xs:List t.den}{i:Int}{kd:IntKind}{v:t.den}(I:ix xs i=some v)(L:A=some ⟨b,o,none⟩)(E:Fr a n ds l)
  (N:ev l x=some (.slice A xs.length c):=by rfl) (O:ev l y=some (.int kd i):=by rfl) (V:P.underlying tt=some (.slice e):=by rfl) (hs:szB P e=some t.size:=by kernel_rfl):(execOp a.eval ⟨d,.indexAddr tt x y,T,pos,af,none⟩).run P w=.ok (.value (.pointer (some ⟨b,o+i.toNat*t.size,none⟩))) w:=by
 obtain⟨k,rfl,W⟩:=Qbf I
 have:=r_indexAddrA (P:=P) (w:=w) (d:=d) (T:=T) (pos:=pos) (af:=af) (gd:=none) V (Qal hs) (E.eval N) L (E.eval O) rfl (Qc.1 W).1
 rw[Addr.add_lit]at this
 exact this
end
def lt {α β:Type}(x:α)(f:α→Option β):Option β:=f x
theorem lt_some {α β:Type}{x:α}{f:α→Option β}{y:β}(h:lt x f=some y): ∃v,x=v∧f v=some y:=⟨x,rfl,h⟩
theorem seen_lt: ∀{n:Nat} {sn:List Nat},sn.Nodup→(∀i∈sn,i<n)→sn.length≤n
 |0,sn,_,E=>by
  cases sn with
  |nil=>simp
  |cons a l=>exact absurd (E a (Qf ..)) (by omega)
 |n+1,sn,I,E=>by
  have L:(sn.erase n).length≤n:=seen_lt (I.erase n) fun i O=>by
   have V:=List.Nodup.mem_erase_iff I |>.1 O
   have:=E i V.2
   omega
  by_cases N:n∈sn
  ·rw[List.length_erase_of_mem N]at L;omega
  ·rw[List.erase_of_not_mem N]at L;omega
theorem seen_all {α β:Type}{m:List α}{sn:List Nat}{body:α→Option (Option β)}(h: ∀i∈sn,∀p,m[i]?=some p→body p=some none)(I: ∀i,i<m.length→i∈sn): ∀x∈m,body x=some none:=fun x L=>by
 obtain⟨i,E,rfl⟩:=Xy L
 exact h i (I i E) _ (Qe E)
theorem seen_cons {α β:Type}{m:List α}{sn:List Nat}{body:α→Option (Option β)}{i:Nat}{p:α}(h: ∀i∈sn,∀p,m[i]?=some p→body p=some none)(hp:m[i]?=some p)(L:body p=some none): ∀j∈i::sn,∀p,m[j]?=some p→body p=some none:=fun j I x E=>by
 rcases Qg.1 I with rfl|I
 ·rw[hp]at E;injection E with E;subst E;exact L
 ·exact h j I x E
theorem seen_bd {α:Type}{m:List α}{sn:List Nat}{i:Nat}{p:α}(h: ∀i∈sn,i<m.length)(hp:m[i]?=some p): ∀j∈i::sn,j<m.length:=fun j E=>by
 rcases Qg.1 E with rfl|E
 ·exact(Qc.1 hp).1
 ·exact h j E
theorem seen_f {n f:Nat}{sn:List Nat}{i:Nat}(E:sn.Nodup)(I: ∀j∈i::sn,j<n)(L:i∉sn)(N:f+sn.length=n+1):f-1<f∧(f-1)+(i::sn).length=n+1:=by
 have:=seen_lt (Q8.2 ⟨L,E⟩) I
 simp only[Qd]at this ⊢
 omega
def om {α β:Type}(x:Option α)(a:Option β)(f:α→Option β):Option β:=match x with
 |none=>a
 |some p=>f p
theorem om_n {α β:Type}{x:Option α}{a:Option β}{f:α→Option β}(h:x=none):om x a f=a:=by rw[h];rfl
theorem om_s {α β:Type}{x:Option α}{a:Option β}{f:α→Option β}{p:α}(h:x=some p):om x a f=f p:=by rw[h];rfl
def mrg {α β:Type}[DecidableEq β](body:α→Option (Option β))(rest:Option β):List α→Option β
 | []=>rest
 |x::l=>(body x).bind fun q=>match q with
  |none=>mrg body rest l
  |some y=>if l.all (fun z=>decide (body z=some none∨body z=some (some y)))then some y else none
theorem mrg_all {α β:Type}[DecidableEq β]{body:α→Option (Option β)}{rest:Option β}{r:β}: ∀{l:List α},mrg body rest l=some r→(∀x∈l,∃q,body x=some q∧(q=none∨q=some r))∧((∀x∈l,body x=some none)→rest=some r)
 | [],h=>⟨by simp,fun _=>h⟩
 |x::l,h=>by
  unfold mrg at h
  obtain⟨q,hq,h⟩:=bd_some h
  cases q with
  |none=>
   obtain⟨N,O⟩:=mrg_all (l:=l) h
   refine⟨fun z E=>?_,fun I=>O fun z E=>I z (Qb _ E)⟩
   rcases Qg.1 E with rfl|E
   ·exact⟨none,hq,.inl rfl⟩
   ·exact N z E
  |some y=>
   simp only[]at h
   split at h
   ·rename_i hall
    injection h with h
    subst h
    refine⟨fun z E=>?_,fun I=>?_⟩
    ·rcases Qg.1 E with rfl|E
     ·exact⟨some y,hq,.inr rfl⟩
     ·rcases of_decide_eq_true (Q7.1 hall z E)with L|L
      ·exact⟨_,L,.inl rfl⟩
      ·exact⟨_,L,.inr rfl⟩
    ·have:=I x (Qf ..)
     rw[hq]at this
     injection this with this
     cases this
   ·cases h
section
variable {P:Program}{w:World}
theorem Qgz {g b m:Nat}{seen:List Nat}{es:List (Value×Value)}{ty:TypeId}(hr:Rg w g b m seen)(hm:MapC w b es):
  ((∀i,i<m→i∈seen)∧(Instr.next (.pointer (some ⟨g,0,none⟩)) false ty).run P w=.ok (.tuple #[.bool false]) w)∨
  ∃i k v w',i<m∧i∉seen∧es[i]?=some (k,v)∧(Instr.next (.pointer (some ⟨g,0,none⟩)) false ty).run P w=.ok (.tuple #[.bool true,k,v]) w'∧Ch [g] w w'∧w'.heap.size=w.heap.size∧Rg w' g b m (i::seen)∧Lst w' g b k v:=by
 obtain⟨N,arr,clock,since,sb,hb,hlen,hg,hsc,hold,O,hseen⟩:=hr
 obtain⟨arr',clock',hb',hes,_,_⟩:=hm
 rw[hb]at hb'
 injection hb' with hb';injection hb' with hb' _
 have hb':=List.toArray_inj hb'
 subst hb'
 have hgl:=(Qn.1 hg).1
 have hgetg:(getObj g).run P w=.ok (.mapIter (some b) since sb.toArray since) w:=by simp[getObj,Sem.run,hg]
 have hgetb:(getObj b).run P w=.ok (.map arr.toArray clock) w:=by simp[getObj,Sem.run,hb]
 have htest:=next_test_false sb.toArray arr.toArray since since (by simpa using hold) (Qq _)
 obtain⟨L,hL⟩: ∃L,L=arr.toArray.filter fun e=> !sb.toArray.contains e.born:=⟨_,rfl⟩
 have hLm: ∀e,e∈L.toList↔e∈arr∧e.born∉sb:=fun e=>by rw[hL];simp
 have e1:L.filter (fun x=>decide (x.born<since))=L:=Array.filter_eq_self.2 (fun x hx=>by have:=(hLm x).1 (by simpa using hx);simpa using hold x this.1)
 have e2:L.filter (fun x=>decide (x.born≥since))=#[]:=by
  rw[Array.filter_eq_empty_iff]
  intro x hx
  have:=hold x ((hLm x).1 (by simpa using hx)).1
  simp;omega
 by_cases h0:L.size=0
 ·left
  have hLe:L=#[]:=Array.eq_empty_of_size_eq_zero h0
  refine⟨fun i I=>?_,?_⟩
  ·obtain⟨e,he⟩: ∃e,arr[i]?=some e:=⟨_,Qe (by omega)⟩
   refine(hseen i e he).1 (Classical.byContradiction fun hn=>?_)
   have:=(hLm e).2 ⟨Qh he,hn⟩
   rw[hLe]at this;simp at this
  ·simp only[Instr.next,Sem.run_bind,hgetg,Result.andThen_ok,hgetb,htest,Qs,if_false,←hL,e1,e2,Array.append_empty]
   rw[hLe]
   simp[Question.forced]
 ·right
  have hie:L.isEmpty=false:=by simp[Array.isEmpty,h0]
  have hj: ∃j,j<L.size∧∃E:World,(choose (.mapNext L.size)).run P w=.ok j E∧(E=w∨E=w.drew):=by
   rw[run_choose_drew]
   by_cases hfo:(Question.mapNext L.size).forced=true
   ·rw[if_pos hfo];exact⟨0,by omega,w,rfl,.inl rfl⟩
   ·rw[if_neg hfo];exact⟨_,Nat.mod_lt _ (by omega),_,rfl,.inr rfl⟩
  obtain⟨j,V,E,hch,hw1⟩:=hj
  obtain⟨e,he⟩: ∃e,L[j]?=some e:=⟨_,Wi V⟩
  have heL:e∈L.toList:=by have:=Qh (l:=L.toList) (i:=j) (by rw[X3];exact he);exact this
  obtain⟨hea,hen⟩:=(hLm e).1 heL
  obtain⟨i,I⟩:=Wm.1 hea
  have hil:=(Qc.1 I).1
  have hheap:E.heap=w.heap:=by rcases hw1 with rfl|rfl<;>rfl
  have hc1:Ch [] w E:=by rcases hw1 with rfl|rfl;exact Ch.refl _;exact Ch.drew _
  have hset:(setObj g (.mapIter (some b) since (sb.toArray.push e.born) clock)).run P E=.ok () (E.putObj g (.mapIter (some b) since (sb.toArray.push e.born) clock)):=by
   simp[setObj,Sem.run,World.putObj,hheap,hg]
  refine⟨i,e.key,e.val,E.putObj g (.mapIter (some b) since (sb.toArray.push e.born) clock),by omega,fun hs=>hen ((hseen i e I).2 hs),by rw[←hes,Qp,I];rfl,?_,hc1.then (Ch.putObj E g _),by simp[hheap],⟨N,arr,clock,since,sb++[e.born],?_,hlen,?_,hsc,hold,O,?_⟩,?_⟩
  ·simp only[Instr.next,Sem.run_bind,hgetg,Result.andThen_ok,hgetb,htest,Qs,if_false,←hL,e1,e2,hie,Array.append_empty,Array.empty_append,Array.size_map,hch,Array.getElem?_map,he,Wb,hset,Sem.run_pure]
  ·rw[World.putObj_heap_other (fun h=>N h.symm),hheap];exact hb
  ·rw[World.putObj_heap_same (by rw[hheap];exact hgl)]
   subst hsc;simp
  ·intro i' e' he'
   rw[Qu,Qi,Qg,hseen i' e' he']
   constructor
   ·rintro(h|h)
    ·exact .inr h
    ·left
     have hi'l:=(Qc.1 he').1
     have:=(List.getElem_inj O (i:=i') (j:=i) (h₀:=by simpa using hi'l) (h₁:=by simpa using hil)).1 (by
      simp only[List.getElem_map]
      rw[(Qc.1 he').2,(Qc.1 I).2];exact h)
     exact this
   ·rintro(h|h)
    ·right;subst h;rw[I]at he';injection he' with he';rw[he']
    ·exact .inl h
  ·have h1:=World.putObj_heap_same (w:=E) (r:=g) (o:=.mapIter (some b) since (sb.toArray.push e.born) clock) (by rw[hheap];exact hgl)
   have h2:(E.putObj g (.mapIter (some b) since (sb.toArray.push e.born) clock)).heap[b]?=some (.map arr.toArray clock):=by rw[World.putObj_heap_other (fun h=>N h.symm),hheap];exact hb
   have hf:arr.find? (·.born==e.born)=some e:=by
    cases W:arr.find? (·.born==e.born)with
    |none=>have:=List.find?_eq_none.1 W e hea;simp at this
    |some e2=>
     have h3:=List.find?_some W
     obtain⟨j,hj⟩:=Wm.1 (List.mem_of_find?_eq_some W)
     have V:=(Qc.1 hj).1
     have:=(List.getElem_inj O (i:=j) (j:=i) (h₀:=by simpa using V) (h₁:=by simpa using hil)).1 (by
      simp only[List.getElem_map]
      rw[(Qc.1 hj).2,(Qc.1 I).2];simpa using h3)
     subst this;rw[I]at hj;exact hj.symm
   exact⟨since,clock,e.born,sb.toArray,arr,e,h1,h2,hf,rfl,rfl⟩
end
section
variable {r:Option Nat}{P:Program}{ops:Array Oper}{Q:Exit→Act→World→Prop}{rest lst:List Oper}{C:Cx}{l:List (Nat×Value)}{H:List (Nat×Res)}{d:Nat}{op:Op}{T:TypeId}{pos:String}{af:Array Edge}
variable {κ:Type}[DecidableEq κ]{enc:κ→Value}{kt et tt:TypeId}{t:Ty}{agg:Bool}{b:Nat}{m:List (κ×t.den)}
theorem r_lkf {a:Act}{w:World}{d:Option Tmp}{x y:Operand}{z v:t.den}{zs:List Value}{ok:Bool}(k:Nat)(K:Ky P kt enc)(key:κ)(O: ∀w,(zeroValue et).run P w=.ok (vof agg zs) w)(V:Dat H t zs z)(W:mget z m key=v)(hl:lv t=0)(I:Fr a C.n C.ds l)(L:Hp C H w)
  (E:asmp (hk H k)=some (.mp κ enc t agg b m):=by rfl) (hx:ev l x=some (.map (some b)):=by rfl) (hy:ev l y=some (enc key):=by rfl) (ht:P.underlying tt=some (.map kt et):=by rfl):
  (execOp a.eval ⟨d,.lookup tt x y ok,T,pos,af,none⟩).run P w=.ok (.value (if ok then .tuple #[vof agg (cl t v []),.bool (mhas m key)]else vof agg (cl t v []))) w:=by
 subst W
 obtain⟨cs,h1,h2⟩:=run_lookup (zs:=zs) K ht O (Dat.rep L t V) (Qfr L E) rfl key ok
 obtain⟨ps,N,h4,_⟩:=rep_cl (B:=Bk H) t h2
 rw[hl]at N
 have:ps=[]:=Q6 N
 subst this
 subst h4
 exact r_lookup h1 (I.eval hx) (I.eval hy)
omit [DecidableEq κ]in
theorem AL.rgm (k kn:Nat){x:Operand}(h: ∀g,AL r P ops Q rest C ((d,.pointer (some ⟨g,0,none⟩))::l) ((kn,.mit k g b m.length [] none)::H))
  (E:hk H k=some (.mp κ enc t agg b m):=by rfl) (V:P.underlying tt=some (.map kt et):=by rfl) (W:ev l x=some (.map (some b)):=by rfl) (hd:Nat.ble (d+1) C.n=true:=by rfl) (hn:hk H kn=none:=by kernel_rfl):AL r P ops Q (⟨some d,.range tt x,T,pos,af,none⟩::rest) C l H:=fun a w hf N=>
 Z.st_rangeMt hf hd V W (N.hold k _ E) fun g w' a' hg hs hR L hf'=>h g a' w' hf' (N.new hn L (fun b' hb'=>by simp only[Res.bl,Qi]at hb';omega) (fun j O r I=>by
   simp only[Res.ref,Qw]at O;subst O;rw[E]at I;injection I with I;subst I;rfl) fun F B _ _ hB=>⟨hR,hB k b ⟨_,E,by simp[Res.bl]⟩,fun kv h=>by cases h⟩)
omit [DecidableEq κ]in
theorem AL.nxm (k ki kn:Nat){x:Operand}{g:Nat}{seen:List Nat}{la:Option (Value×Value)}
  (h1:(∀i,i<m.length→i∈seen)→AL r P ops Q rest C ((d,.tuple #[.bool false])::l) H)
  (h2: ∀i p,m[i]?=some p→i∉seen→t.ok p.2→tele (lv t) fun ps=>AL r P ops Q rest C ((d,.tuple #[.bool true,enc p.1,vof agg (cl t p.2 ps)])::l) (hcat (kx kn (rs t p.2 ps)) ((ki,.mit k g b m.length (i::seen) (some (enc p.1,vof agg (cl t p.2 ps))))::H)))
  (I:hk H k=some (.mp κ enc t agg b m):=by rfl) (E:hk H ki=some (.mit k g b m.length seen la):=by rfl) (hx:ev l x=some (.pointer (some ⟨g,0,none⟩)):=by rfl) (hd:Nat.ble (d+1) C.n=true:=by rfl)
  (hn: ∀s la,nok ((ki,.mit k g b m.length s la)::H) kn (lv t)=true:=by intro _ _;kernel_rfl) (L:hng [ki] [] H=true:=by kernel_rfl):AL r P ops Q (⟨some d,.next x false,T,pos,af,none⟩::rest) C l H:=fun a w O V=>by
 have hkk:k≠ki:=fun e=>by subst e;rw[I]at E;injection E with E;cases E
 obtain⟨es,hmc,hl,h3⟩:Mt enc t agg w (Fh C H) b m:=V.hold k _ I
 rcases Qgz (P:=P) (ty:=T) (V.hold ki _ E).1 hmc with⟨h4,h5⟩|⟨i,kv,v,w',i1,i2,W,i4,i5,i6,i7,i8⟩
 ·refine Z.val O hd ?_ fun a' hf'=>h1 h4 a' w hf' V
  simp only[execOp,O.eval hx,Sem.run_bind,h5,Result.andThen_ok,Sem.run_pure]
 ·obtain⟨p,hp⟩: ∃p,m[i]?=some p:=⟨_,Qe i1⟩
  obtain⟨cs,h6,h7⟩:=h3 i p hp
  rw[h6]at W;injection W with W;injection W with e1 e2
  subst e1;subst e2
  have hup: ∀la,(∀kv,la=some kv→Lst w' g b kv.1 kv.2)→Hp C ((ki,.mit k g b m.length (i::seen) la)::H) w':=fun la hla=>Hp.dd (js:=[]) (V.upd i5 (fun b' hb'=>⟨_,E,by simpa[Res.bl] using hb'⟩) (fun b' hb'=>.inl ⟨_,E,hb'⟩) (fun j L=>by
    simp only[Res.ref,Qw]at L;subst L
    exact⟨hkk,fun r hr=>by rw[I]at hr;injection hr with hr;subst hr;rfl⟩) fun F B _ _ _ hB _=>⟨i7,hB k b rfl ⟨_,I,by simp[Res.bl]⟩,hla⟩) L
  have hr': ∀la,t.rep w' (Fh C ((ki,.mit k g b m.length (i::seen) la)::H)) cs p.2:=fun la=>by
   refine rep_to h7 i5 fun b' hb' hl'=>⟨fun hm=>hb'.1 ki ⟨_,E,by simpa[Res.bl] using hm⟩,⟨fun j L=>?_,hb'.2⟩⟩
   by_cases N:j=ki
   ·subst N
    have h0:=Bk.cons_eq.1 L
    exact hb'.1 j ⟨_,E,h0⟩
   ·obtain⟨r2,h8,h9⟩:=(Bk.cons_ne N).1 L
    exact hb'.1 j ⟨r2,h8,h9⟩
  have hok:=rep_ok t h7
  obtain⟨ps,hl2,rfl,h9⟩:=Qej (hup (some (enc p.1,vof agg cs)) (fun kv h=>by injection h with h;subst h;exact i8)) (hr' _) kn (hn _ _)
  refine Z.valw O hd ?_ fun a' hf'=>Qav (h2 i p hp i2 hok) ps hl2 a' w' hf' h9
  simp only[execOp,O.eval hx,Sem.run_bind,i4,Result.andThen_ok,Sem.run_pure]
theorem AL.ent (ki:Nat){x:Operand}{k g b n:Nat}{seen:List Nat}{kv vv:Value}(h:AL r P ops Q rest C ((d,.tuple #[kv,vv])::l) H)
  (E:hk H ki=some (.mit k g b n seen (some (kv,vv))):=by rfl) (I:ev l x=some (.pointer (some ⟨g,0,none⟩)):=by rfl) (L:Nat.ble (d+1) C.n=true:=by rfl):AL r P ops Q (⟨some d,.entry x,T,pos,af,none⟩::rest) C l H:=
 AL.val L (fun a w N O=>by
  have:=Lst.run (P:=P) ((O.hold ki _ E).2.2 _ rfl)
  simp only[execOp,N.eval I,Sem.run_bind,this,Result.andThen_ok,Sem.run_pure]) h
theorem okm {X:Act→World→Prop}(k:Nat)(key:κ){z v:t.den}{zs:List Value}(N:Dat H t zs z)(O:mget z m key=v)(h:t.ok v→∀a w,Fr a C.n C.ds l→Hp C H w→X a w)(E:asmp (hk H k)=some (.mp κ enc t agg b m):=by rfl): ∀a w,Fr a C.n C.ds l→Hp C H w→X a w:=fun a w V I=>by
 subst O
 refine h ?_ a w V I
 cases L:mhas m key with
 |false=>rw[mget_none L];exact rep_ok t (Dat.rep I t N)
 |true=>
  obtain⟨es,_,_,W⟩:Mt enc t agg w (Fh C H) b m:=Qfr I E
  obtain⟨i,hi⟩:=Wm.1 (mget_mem (z:=z) L)
  obtain⟨cs,_,h5⟩:=W i _ hi
  exact rep_ok t h5
end
section
variable {r:Option Nat}{P:Program}{ops:Array Oper}{Q:Exit→Act→World→Prop}{rest lst:List Oper}{C:Cx}{l:List (Nat×Value)}{H:List (Nat×Res)}{d:Nat}{op:Op}{T:TypeId}{pos:String}{af:Array Edge}
end
section
variable {P:Program}{C:Cx}{l:List (Nat×Value)}{H:List (Nat×Res)}
theorem Row.none {t:Ty}{w:World}{F G:Nat→Prop}{A:Option Addr}{c:Nat}{xs:List t.den}(h:Row t w F G A c xs)(I:A.isNone=true):xs=[]:=by
 obtain⟨_,_,_,_,E,_⟩:=h
 rcases E with E|⟨b,o,rfl,_⟩
 ·exact Q6 E
 ·cases I
theorem nilL {X:Act→World→Prop}(k:Nat){t:Ty}{A:Option Addr}{c:Nat}{xs:List t.den}(L:A.isNone=true)(h:xs=[]→∀a w,Fr a C.n C.ds l→Hp C H w→X a w)(E:hk H k=some (.ln t A c xs):=by rfl): ∀a w,Fr a C.n C.ds l→Hp C H w→X a w:=fun a w N I=>by
 obtain⟨G,O,_⟩:=rowL E w I
 exact h (Row.none O L) a w N I
theorem AX.cnn {r:Option Nat}{Y:Exit→Act→World→Prop}{K:List Kx}{c:Operand}{x y:Code}{b:Bool}(L:ev l c=some (.bool b))(N:b=true→AX r P Y K x C l H)(O:b=false→AX r P Y K y C l H):AX r P Y K (.cond c x y) C l H:=fun a w E I=>Z.cond E L (fun h=>N h a w E I) (fun h=>O h a w E I)
end
section
variable {r:Option Nat}{P:Program}{ops:Array Oper}{Q:Exit→Act→World→Prop}{rest:List Oper}{C:Cx}{l:List (Nat×Value)}{H:List (Nat×Res)}{d:Nat}{T:TypeId}{pos:String}{af:Array Edge}
end
theorem szl (b:ByteArray)(h:decide (b.size≤maxLen)=true):b.size≤maxLen:=of_decide_eq_true h
end Go.A
namespace Go.Z
section
variable {P:Program}{a:Act}{w:World}
end
end Go.Z
end
section
namespace Go.A
open Go.RowKit Go.Z
def Seqk (P:Program)(gf:FuncId)(cap:List Value)(N:Nat)(E:Nat→World→World→List Value→Prop)(Dat:Nat→World→Prop):Prop:=
 ∀(lid:Nat) (w:World) (J:Nat→World→Prop) (Jx:World→Prop),(∀k W W',J k W→Ch [] W W'→J k W')→(∀W W',Jx W→Ch [] W W'→Jx W')→(∀k W,J k W→Dat k W)→J 0 w→
  (∀k W0 W args,k<N→J k W0→Ch [] W0 W→E k W0 W args→YieldAt (FW none) 0 P lid args.toArray W fun e W'=>(e=.returned (.bool true)∧J (k+1) W')∨(e=.returned (.bool false)∧Jx W'))→
  Calls P gf (.func (.yield lid) #[] #[]::cap).toArray w fun e W'=>e=.returned (.tuple #[])∧(J N W'∨Jx W')
def RK (D L:Nat)(o:Obj)(I:Nat→World→Prop)(X:Exit→World→Prop)(k:Nat)(e:Exit)(W':World):Prop:=
 W'.heap[L]?=some o∧Dfr W' D∧match e with
  | .normal=>I (k+1) W'
  | .ret=>X .ret W'
  | .exit id=>X (.exit id) W'
  |_=>False
def RQ (D L:Nat)(o:Obj)(I:Nat→World→Prop)(X:Exit→World→Prop)(k:Nat):Exit→Act→World→Prop:=fun e _ W'=>RK D L o I X k e W'
section
variable {P:Program}{Q:Exit→Act→World→Prop}{a:Act}{w:World}{n:Nat}{ds:List Deferred}{l:List (Nat×Value)}
theorem rangeK {g:Operand}{ps:List Nat}{assign body:Code}{gf:FuncId}{cap:List Value}(hf:Fr a n ds l)(hg:ev l g=some (.func (.func gf) #[] cap.toArray))
  (hcf: ∀args w,(callFunc gf args).run P w=.ok (.enter gf args) w) (N:Nat) (E:Nat→World→World→List Value→Prop) (Dat:Nat→World→Prop) (I:Nat→World→Prop) (X:Exit→World→Prop) (hseq:Seqk P gf cap N E Dat)
  (hlen: ∀k W0 W args,E k W0 W args→args.length=ps.length) (hps: ∀p,p∈ps→p<n)
  (hI0: ∀W1,(∃W',Ch [] w W'∧W'.heap.size=w.heap.size+1∧Dfr W' w.heap.size∧Ch [] W' W1∧W1.heap.size=W'.heap.size+1)→(∃o,W1.heap[w.heap.size+1]?=some o)→I 0 W1)
  (hst: ∀k W W',I k W→Ch [w.heap.size+1] W W'→I k W') (hxt: ∀e W W',X e W→Ch [w.heap.size+1] W W'→X e W') (hdat: ∀k W,I k W→Dat k W)
  (hround: ∀k W0 W args a o,k<N→I k W0→Ch [] W0 W→w.heap.size+1<W0.heap.size→E k W0 W args→args.length=ps.length→W.heap[w.heap.size+1]?=some o→Dfr W w.heap.size→Fr a n [] (Qhh ps args l)→
   WP (some (w.heap.size+1)) P assign (fun e a1 W1=>e=.normal∧W1.heap[w.heap.size+1]?=some o∧Dfr W1 w.heap.size∧∀W2 o2,Ch [w.heap.size+1] W1 W2→W2.heap[w.heap.size+1]?=some o2→Dfr W2 w.heap.size→
    WP (some (w.heap.size+1)) P body (RQ w.heap.size (w.heap.size+1) o2 I X k) a1 W2) a W)
  (hdone: ∀W a',I N W→Dfr W w.heap.size→Fr a' n (mkD w.heap.size::ds) l→Q .normal a' W)
  (hret: ∀W a',X .ret W→Dfr W w.heap.size→Fr a' n (mkD w.heap.size::ds) l→Q .ret a' W)
  (hexit: ∀id W a',X (.exit id) W→Dfr W w.heap.size→Fr a' n (mkD w.heap.size::ds) l→Q (.exit id) a' W):WP none P (Code.rangeFunc g ps.toArray assign body) Q a w:=by
 refine wpIn_rangeFunc fun fn hfn=>?_
 obtain⟨rec,hrec⟩: ∃rec:LoopState→Option Code→Loop,rec=fun st pe=>{state:=st,pending:=pe,fn,tmps:=a.tmps,params:=ps.toArray,assign,body,defers:=w.heap.size}:=⟨_,rfl⟩
 obtain⟨W1,hW1⟩: ∃W1,(w.alloc (.deferred (some []))).alloc (.loop (rec .ready none))=W1:=⟨_,rfl⟩
 have hL1:W1.heap[w.heap.size+1]?=some (.loop (rec .ready none)):=by
  rw[←hW1];have:=World.alloc_heap_new (w.alloc (.deferred (some []))) (.loop (rec .ready none));rwa[World.size_alloc]at this
 have hK1:Dfr W1 w.heap.size:=by
  rw[←hW1];exact(Below.heap_alloc _ _ _ (by simp)).trans (World.alloc_heap_new w _)
 have up: ∀{W W':World},Ch [] W W'→Ch [w.heap.size+1] W W':=fun h=>h.mono (by simp)
 have hI1:I 0 W1:=hI0 W1 ⟨_,Ch.alloc w _,World.size_alloc ..,World.alloc_heap_new w _,by rw[←hW1];exact Ch.alloc _ _,by rw[←hW1];exact World.size_alloc ..⟩ ⟨_,hL1⟩
 have hfr:a.eval g=.func (.func gf) #[] cap.toArray:=hf.eval hg
 have hcall:=hseq (w.heap.size+1) W1
  (fun k W=>I k W∧W.heap[w.heap.size+1]?=some (.loop (rec .ready none))∧Dfr W w.heap.size)
  (fun W=>∃e c,X e W∧((e=.ret∧c=Code.ret)∨∃id,e=.exit id∧c=Code.exit id)∧W.heap[w.heap.size+1]?=some (.loop (rec .done (some c)))∧Dfr W w.heap.size)
  (fun k W W' ⟨h1,V,h3⟩ L=>⟨hst k W W' h1 (up L),(L.block _ (Qn.1 V).1 (by simp)).trans V,h3.ch L (by simp)⟩)
  (fun W W' ⟨e,c,h1,h0,V,h3⟩ L=>⟨e,c,hxt e W W' h1 (up L),h0,(L.block _ (Qn.1 V).1 (by simp)).trans V,h3.ch L (by simp)⟩)
  (fun k W h=>hdat k W h.1) ⟨hI1,hL1,hK1⟩ ?_
 ·refine⟨w.heap.size+1,[mkD w.heap.size],W1,{target:=.fn (.func gf) cap.toArray,args:=#[.func (.yield (w.heap.size+1)) #[] #[]]},W1,gf,
   (.func (.yield (w.heap.size+1)) #[] #[]::cap).toArray,W1,?_,?_,fun _ _=>trivial,?_,(fun h=>by cases h),(Qik hcall).mono ?_⟩
  ·rw[←hW1,hrec];exact run_enterLoop_outer _ _ _ _ _
  ·simp only[resolve,hfr]
   simp[go_sem]
  ·simp[invoke,go_sem,hcf]
  ·have fin: ∀(W:World) (st:LoopState) (pe:Option Code),W.heap[w.heap.size+1]?=some (.loop (rec st pe))→st≠ .busy→Dfr W w.heap.size→
     ∃W',(Instr.endLoop (w.heap.size+1)).run P W=.ok pe W'∧Ch [w.heap.size+1] W W'∧Dfr W' w.heap.size:=fun W st pe hl hb hk=>by
    have:=run_endLoop (P:=P) hl (by rw[hrec];exact hb)
    rw[hrec]at this
    exact⟨_,this,Ch.putObj _ _ _,hk.ch (Ch.putObj _ _ _) (by simp)⟩
   rintro e W ⟨rfl,⟨h1,V,h3⟩|⟨e,c,h1,h0,V,h3⟩⟩
   ·obtain⟨W',hr,L,hk⟩:=fin W .ready none V (by simp) h3
    exact⟨none,W',hr,hdone W' _ (hst N W W' h1 L) hk ⟨hf.size,by show [mkD w.heap.size]++a.defers=_;rw[hf.defs];rfl,hf.get⟩⟩
   ·obtain⟨W',hr,L,hk⟩:=fin W .done (some c) V (by simp) h3
    have hfr':Fr {a with defers:=[mkD w.heap.size]++a.defers} n (mkD w.heap.size::ds) l:=⟨hf.size,by show [mkD w.heap.size]++a.defers=_;rw[hf.defs];rfl,hf.get⟩
    refine⟨some c,W',hr,?_⟩
    rcases h0 with⟨rfl,rfl⟩|⟨id,rfl,rfl⟩
    ·exact wpIn_ret (hret W' _ (hxt _ W W' h1 L) hk hfr')
    ·exact wpIn_exit (hexit id W' _ (hxt _ W W' h1 L) hk hfr')
 ·rintro k W0 W args hk ⟨h1,V,h3⟩ L hEk
  have hlt:w.heap.size+1<W0.heap.size:=(Qn.1 V).1
  have hl:W.heap[w.heap.size+1]?=some (.loop (rec .ready none)):=(L.block _ hlt (by simp)).trans V
  have hkk:Dfr W w.heap.size:=h3.ch L (by simp)
  have hlen':=hlen k W0 W args hEk
  have hy:=run_yield (P:=P) (args:=args.toArray) hl (by rw[hrec];simpa using hlen')
  refine⟨fn,_,assign,body,by rw[hrec]at hy;exact hy,roundIn_of_wpIn hfn ?_⟩
  have hfr0:Fr ⟨(ps.zip args).foldl (fun t (p,v)=>t.setIfInBounds p v) a.tmps,[]⟩ n [] (Qhh ps args l):=Qjb ps args hps ⟨hf.size,rfl,hf.get⟩
  have hzip:((rec .ready none).params.zip args.toArray).foldl (fun t (p,v)=>t.setIfInBounds p v) (rec .ready none).tmps=(ps.zip args).foldl (fun t (p,v)=>t.setIfInBounds p v) a.tmps:=by
   rw[hrec];simp
  rw[hrec]at hzip
  simp only at hzip
  rw[hzip]
  refine wpIn_mono (hround k W0 W args _ _ hk h1 L hlt hEk hlen' hl hkk hfr0) ?_
  rintro e a1 W' ⟨rfl,hl',hk',hbody⟩
  refine⟨_,run_beginRound hl' (by rw[hrec]),?_⟩
  have hltW:w.heap.size+1<W'.heap.size:=(Qn.1 hl').1
  have hc2:Ch [w.heap.size+1] W' (W'.putObj (w.heap.size+1) (.loop {rec .ready none with state:=.busy})):=Ch.putObj _ _ _
  have hl2:(W'.putObj (w.heap.size+1) (.loop {rec .ready none with state:=.busy})).heap[w.heap.size+1]?=some (.loop {rec .ready none with state:=.busy}):=World.putObj_heap_same hltW
  have hk2:=hk'.ch hc2 (by simp)
  refine wpIn_mono (hbody _ _ hc2 hl2 hk2) ?_
  have fin: ∀(jump:Option Code) (W3:World),W3.heap[w.heap.size+1]?=some (.loop {rec .ready none with state:=.busy})→Dfr W3 w.heap.size→
    ∃W4,(Instr.endRound (w.heap.size+1) jump).run P W3=.ok (.bool jump.isNone) W4∧Ch [w.heap.size+1] W3 W4∧W4.heap[w.heap.size+1]?=some (.loop (rec (if jump.isNone then .ready else .done) jump))∧Dfr W4 w.heap.size:=fun jump W3 O hk3=>by
   have hend:=run_endRound (P:=P) jump O
   rw[hrec]at hend ⊢
   exact⟨_,hend,Ch.putObj _ _ _,World.putObj_heap_same (Qn.1 O).1,hk3.ch (Ch.putObj _ _ _) (by simp)⟩
  rintro e a3 W3 ⟨O,hk3,hp⟩
  cases e with
  |normal=>
   obtain⟨W4,hr,hc4,hl4,hk4⟩:=fin none W3 O hk3
   exact⟨_,W4,hr,.inl ⟨rfl,hst _ _ _ hp hc4,hl4,hk4⟩⟩
  |ret=>
   obtain⟨W4,hr,hc4,hl4,hk4⟩:=fin (some .ret) W3 O hk3
   exact⟨_,W4,hr,.inr ⟨rfl,.ret,.ret,hxt _ _ _ hp hc4,.inl ⟨rfl,rfl⟩,hl4,hk4⟩⟩
  |exit id=>
   obtain⟨W4,hr,hc4,hl4,hk4⟩:=fin (some (.exit id)) W3 O hk3
   exact⟨_,W4,hr,.inr ⟨rfl,.exit id,.exit id,hxt _ _ _ hp hc4,.inr ⟨id,rfl,rfl⟩,hl4,hk4⟩⟩
  |goto t=>exact hp.elim
  |panic ch=>exact hp.elim
  |outgrown=>exact hp.elim
end
abbrev lpT:Obj→Prop:=fun _=>True
abbrev dfT:Obj→Prop:=fun o=>o=.deferred (some [])
def Res.hasb:Res→Bool
 | .own ..=>true
 | .blk ..=>true
 | .mp ..=>true
 | .si ..=>true
 | .ob ..=>true
 | .mr ..=>true
 | .gn ..=>true
 |_=>false
theorem Res.nob: ∀{r:Res},r.hasb=false→r.ref=none→r.bl=[]
 | .dead,_,_=>rfl
 | .sh ..,_,_=>rfl
 | .ln ..,_,_=>rfl
 | .el ..,_,_=>rfl
 | .own ..,h,_=>by cases h
 | .blk ..,h,_=>by cases h
 | .mp ..,h,_=>by cases h
 | .mit ..,_,h=>by cases h
 | .si ..,h,_=>by cases h
 | .ob ..,h,_=>by cases h
 | .lmp ..,_,_=>rfl
 | .mr ..,h,_=>by cases h
 | .gn ..,h,_=>by cases h
def mvl (H:List (Nat×Res)):List Nat→List (Nat×Nat)
 | []=>[]
 |k::ks=>match hk H k with
  |some r=>bif rok [] r.ref then(bif r.hasb then(k,k)::mvl H ks else mvl H ks)else mvl H ks
  |none=>mvl H ks
theorem Qiu {o:Option Nat}(h:rok [] o=true):o=none:=by
 cases o with
 |none=>rfl
 |some j=>simp[rok]at h
theorem Qcn (H:List (Nat×Res)): ∀ks:List Nat,Sub H (kpH H [] ks) (mvl H ks) []
 | []=>.nil
 |k::ks=>by
  unfold kpH mvl
  cases I:hk H k with
  |none=>exact Qcn H ks
  |some r=>
   simp only[]
   cases E:rok [] r.ref with
   |false=>exact Qcn H ks
   |true=>
    cases L:r.hasb with
    |false=>exact .s k (Qcn H ks) I (Res.nob L (Qiu E)) (Qiu E)
    |true=>exact .m k (Qcn H ks) I (Qiu E)
theorem Hp.nds {n n':Nat}{ds ds':List Deferred}{w0:World}{S:List Nat}{F:Nat→Prop}{H:List (Nat×Res)}{w:World}(h:Hp ⟨n,ds,w0,S,F⟩ H w):Hp ⟨n',ds',w0,S,F⟩ H w:=⟨h.ch,h.hold,h.bnd,h.dis,h.ref⟩
theorem fin_round {C:Cx}{H He:List (Nat×Res)}{W W':World}{n:Nat}{ds:List Deferred}{bs:List Nat}(E:Hp C H W)(L:Hp ⟨n,ds,W,blks H (mvl H bs),Fh C H⟩ He W')(gs:List Nat)(M:Nat)(ps:List (Nat×Nat)){Ho:List (Nat×Res)}
  (I:(outs (kpH He gs gs)&&frs M H (kpH He gs gs))=true) (N:ren (hcat (sft M (kpH He gs gs)) (kill ((mvl H bs).map (·.2)) H)) ps=Ho) (O:nod (ps.map (·.1))=true) (V:nod (ps.map (·.2))=true):Hp C Ho W':=by
 rw[Qk]at I
 subst N
 exact(E.back (L.keep gs).nds I.1 I.2).ren ps O V
abbrev HK (kd kl D L:Nat) (p:Obj→Prop) (nh H:List (Nat×Res)):List (Nat×Res):=(kl,.ob L p)::(kd,.ob D dfT)::hcat nh H
def IK (C:Cx)(kd kl D L:Nat)(J:Nat→List (Nat×Res)→Prop)(H:List (Nat×Res)):Nat→World→Prop:=fun k W=>∃nh,J k nh∧Hp C (HK kd kl D L lpT nh H) W
def XK (P:Program)(Y:Exit→Act→World→Prop)(K:List Kx)(C:Cx)(l:List (Nat×Value))(D L:Nat):Exit→World→Prop:=fun e W=>∀W',Ch [L] W W'→∀a',Fr a' C.n (mkD D::C.ds) l→kont none P Y K e a' W'
def nrf (k:Nat)(H:List (Nat×Res)):Bool:=H.all fun p=>match p.2.ref with
 |none=>true
 |some j=> !(Nat.beq j k)
theorem hk_mem: ∀{H:List (Nat×Res)} {k:Nat} {r:Res},hk H k=some r→(k,r)∈H
 | [],_,_,h=>by cases h
 |(d,u)::q,k,r,h=>by
  rw[Qaa]at h
  split at h
  ·rename_i e;subst e;injection h with h;subst h;exact Qf ..
  ·exact Qb _ (hk_mem h)
theorem nrf_spec {k:Nat}{H:List (Nat×Res)}(h:nrf k H=true){j:Nat}{r:Res}(E:hk H j=some r):r.ref≠some k:=fun e=>by
 have:=Q7.1 h _ (hk_mem E)
 simp[e]at this
theorem Hp.ob {C:Cx}{H:List (Nat×Res)}{w w':World}{k L:Nat}{p q:Obj→Prop}{o:Obj}(h:Hp C ((k,.ob L p)::H) w)(hr:nrf k H=true)(V:Ch [L] w w')(ho:w'.heap[L]?=some o)(hq:q o):Hp C ((k,.ob L q)::H) w':=by
 have hsame: ∀j b,Bk ((k,.ob L q)::H) j b↔Bk ((k,.ob L p)::H) j b:=fun j b=>by
  by_cases E:j=k
  ·subst E;rw[Bk.cons_eq,Bk.cons_eq];exact Iff.rfl
  ·rw[Bk.cons_ne E,Bk.cons_ne E]
 have hL: ∀b,(∀j,¬Bk ((k,.ob L p)::H) j b)→b∉[L]:=fun b I O=>by
  rw[Qi]at O;subst O
  exact I k (Bk.cons_eq.2 (by simp[Res.bl]))
 have hnb: ∀b,(∀j,¬Bk ((k,.ob L p)::H) j b)→∀j,¬Bk ((k,.ob L q)::H) j b:=fun b I j E=>I j ((hsame j b).1 E)
 have hLk: ∀j b,Bk ((k,.ob L p)::H) j b→j≠k→b∉[L]:=fun j b I E O=>by
  rw[Qi]at O;subst O
  exact E (h.dis j k b I (Bk.cons_eq.2 (by simp[Res.bl])))
 refine⟨?_,fun j r E=>?_,fun j b E=>?_,fun j j' b E hj'=>h.dis j j' b ((hsame j b).1 E) ((hsame j' b).1 hj'),fun j r i E hri=>?_⟩
 ·have N:=h.ch
  refine⟨V.os.trans N.os,V.tape.trans N.tape,V.output.trans N.output,Wl N.size V.size,fun b I W=>?_⟩
  rw[V.block b (Qy I N.size) (fun O=>?_)]
  ·exact N.block b I W
  ·rw[Qi]at O;subst O
   rcases(h.bnd k b (Bk.cons_eq.2 (by simp[Res.bl]))).1 with h1|h1
   ·omega
   ·exact W h1
 ·rw[Qaa]at E
  split at E
  ·injection E with E;subst E;exact⟨o,ho,hq⟩
  ·rename_i W
   have hj':hk ((k,.ob L p)::H) j=some r:=by rw[Qaa,if_neg W];exact E
   refine Res.to (h.hold j r hj') V (fun b I _=>⟨hL b I.1,hnb b I.1,I.2⟩) (fun b I _=>⟨hL b I,hnb b I⟩) (fun i b hi hB=>⟨hLk i b hB fun e=>nrf_spec hr E (by rw[hi,e]),(hsame i b).2 hB⟩) fun b I=>hLk j b ⟨r,hj',I⟩ (Ne.symm W)
 ·obtain⟨h1,h2⟩:=h.bnd j b ((hsame j b).1 E)
  exact⟨h1,Qy h2 V.size⟩
 ·rw[Qaa]at E
  split at E
  ·injection E with E;subst E;cases hri
  ·rename_i W
   obtain⟨h5,h6⟩:=h.ref j r i (by rw[Qaa,if_neg W];exact E) hri
   refine⟨h5,fun r2 h7=>?_⟩
   rw[Qaa]at h7
   split at h7
   ·injection h7 with h7;subst h7;rfl
   ·rename_i hn2;exact h6 r2 (by rw[Qaa,if_neg hn2];exact h7)
theorem Hp.obj {C:Cx}{H:List (Nat×Res)}{w w':World}{k L:Nat}{p q:Obj→Prop}{o:Obj}(h:Hp C H w)(E:hk H k=some (.ob L p))(N:Ch [L] w w')(O:w'.heap[L]?=some o)(hq:q o):Hp C ((k,.ob L q)::drp k H) w':=
 h.upd N (fun b I=>by rw[Qi]at I;subst I;exact⟨_,E,by simp[Res.bl]⟩) (fun b I=>.inl ⟨_,E,I⟩) (fun j V=>by cases V) fun F B _ _ _ _ _=>⟨o,O,hq⟩
def El (t:Ty)(ag:List Value→List Value)(xs:List t.den)(Φ:Nat→World→Nat→Prop):Nat→World→World→List Value→Prop:=fun k W0 W args=>
 ∃x cs,xs[k]?=some x∧args=ag cs∧t.rep W (fun b=>Φ k W0 b∨W0.heap.size≤b) cs x
def Sq (P:Program)(gf:FuncId)(cap:List Value)(Hc:List (Nat×Res))(t:Ty)(ag:List Value→List Value)(xs:List t.den):Prop:=
 ∀Φ:Nat→World→Nat→Prop,Seqk P gf cap xs.length (El t ag xs Φ) (fun k W=>Hp ⟨0,[],W,[],Φ k W⟩ Hc W)
theorem Qag: ∀{l:List Nat},nod l=true↔l.Nodup
 | []=>by simp[nod]
 |k::l=>by
  simp only[nod,Qk,Ym,Q8,Qag (l:=l)]
  refine and_congr ⟨fun h E=>?_,fun h=>?_⟩ Iff.rfl
  ·rw[Y5]at h;exact h k E (Xv k)
  ·rw[Y5];exact fun x I e=>h (by rw[Wj e];exact I)
theorem Qdy (H:List (Nat×Res))(all:List Nat): ∀ks:List Nat,List.Sublist ((kpH H all ks).map (·.1)) ks
 | []=>List.Sublist.refl _
 |k::ks=>by
  unfold kpH
  cases hk H k with
  |none=>exact(Qdy H all ks).cons k
  |some r=>
   simp only[]
   cases rok all r.ref with
   |false=>exact(Qdy H all ks).cons k
   |true=>exact(Qdy H all ks).cons_cons k
theorem Qcs (H:List (Nat×Res)): ∀ks:List Nat,List.Sublist ((mvl H ks).map (·.2)) ks
 | []=>List.Sublist.refl _
 |k::ks=>by
  unfold mvl
  cases hk H k with
  |none=>exact(Qcs H ks).cons k
  |some r=>
   simp only[]
   cases rok [] r.ref with
   |false=>exact(Qcs H ks).cons k
   |true=>cases r.hasb with
    |false=>exact(Qcs H ks).cons k
    |true=>exact(Qcs H ks).cons_cons k
def MF (P:Program)(D L:Nat)(o:Obj)(Yb:Obj→Exit→Act→World→Prop)(body:Code):Act→World→Prop:=fun a1 W1=>W1.heap[L]?=some o∧Dfr W1 D∧∀W2 o2,Ch [L] W1 W2→W2.heap[L]?=some o2→Dfr W2 D→WP (some L) P body (Yb o2) a1 W2
section
variable {P:Program}{Y:Exit→Act→World→Prop}{K:List Kx}{C:Cx}{l:List (Nat×Value)}{H:List (Nat×Res)}
theorem AX.rgf {g:Operand}{ps:List Nat}{assign body:Code}{gf:FuncId}{cap:List Value}{Hc:List (Nat×Res)}{t:Ty}{ag:List Value→List Value}{xs:List t.den}
  (kd kl kn:Nat) (hs gs bs:List Nat) (J:Nat→List (Nat×Res)→Prop) (nh:List (Nat×Res)) (hcf: ∀args w,(callFunc gf args).run P w=.ok (.enter gf args) w) (hseq:Sq P gf cap Hc t ag xs) (hag: ∀cs,(ag cs).length=ps.length) (hJ0:J 0 nh)
  (hsub: ∀k nh D L,J k nh→(∃ls,Sub (HK kd kl D L lpT nh (kpH H hs hs)) Hc [] ls)∧nrf kl ((kd,.ob D dfT)::hcat nh (kpH H hs hs))=true∧∀o,nok (kpH (HK kd kl D L (fun x=>x=o) nh (kpH H hs hs)) [] bs) kn (lv t)=true)
  (hround: ∀k nh x D L W o,J k nh→xs[k]?=some x→t.ok x→Hp C (HK kd kl D L (fun x=>x=o) nh (kpH H hs hs)) W→tele (lv t) fun pl=>
   AX (some L) P (fun _ _ _=>False) [.m (MF P D L o (fun o2=>RQ D L o2 (IK C kd kl D L J (kpH H hs hs)) (XK P Y K C l D L) k) body)] assign
    ⟨C.n,[],W,blks (HK kd kl D L (fun x=>x=o) nh (kpH H hs hs)) (mvl (HK kd kl D L (fun x=>x=o) nh (kpH H hs hs)) bs),Fh C (HK kd kl D L (fun x=>x=o) nh (kpH H hs hs))⟩ (Qhh ps (ag (cl t x pl)) l)
    (hcat (kx kn (rs t x pl)) (kpH (HK kd kl D L (fun x=>x=o) nh (kpH H hs hs)) [] bs)))
  (hdone: ∀nh D L,J xs.length nh→AE none P Y K .normal ⟨C.n,mkD D::C.ds,C.w0,C.S,C.F⟩ l (HK kd kl D L lpT nh (kpH H hs hs)))
  (hg:ev l g=some (.func (.func gf) #[] cap.toArray):=by rfl) (hps:ps.all (fun p=>Nat.ble (p+1) C.n)=true:=by rfl) (h0:kpH H gs gs=hcat nh (kpH H hs hs):=by kernel_rfl)
  (hn1:hk (hcat nh (kpH H hs hs)) kd=none:=by kernel_rfl) (hn2:hk (hcat nh (kpH H hs hs)) kl=none:=by kernel_rfl) (V:Nat.beq kd kl=false:=by rfl) (hbs:nod bs=true:=by rfl) (hHc:nod (Hc.map (·.1))=true:=by rfl):
  AX none P Y K (.rangeFunc g ps.toArray assign body) C l H:=fun a w hf hh=>by
 have V:kd≠kl:=fun e=>by rw[e,Xv]at V;cases V
 obtain⟨Φ,hΦ⟩: ∃Φ:Nat→World→Nat→Prop,Φ=fun k W b=>∃h:IK C kd kl w.heap.size (w.heap.size+1) J (kpH H hs hs) k W,Fh C (HK kd kl w.heap.size (w.heap.size+1) lpT (Classical.choose h) (kpH H hs hs)) b:=⟨_,rfl⟩
 have hΦe: ∀k W (h:IK C kd kl w.heap.size (w.heap.size+1) J (kpH H hs hs) k W),Φ k W=Fh C (HK kd kl w.heap.size (w.heap.size+1) lpT (Classical.choose h) (kpH H hs hs)):=fun k W h=>by
  subst hΦ;funext b;exact propext ⟨fun⟨_,h2⟩=>h2,fun h2=>⟨h,h2⟩⟩
 have hlast: ∀{k:Nat} {nh:List (Nat×Res)} {D:Nat},J k nh→nrf kl ((kd,.ob D dfT)::hcat nh (kpH H hs hs))=true:=fun h=>(hsub _ _ _ 0 h).2.1
 refine rangeK hf hg hcf xs.length _ _ (IK C kd kl w.heap.size (w.heap.size+1) J (kpH H hs hs)) (XK P Y K C l w.heap.size (w.heap.size+1)) (hseq Φ) (fun k W0 W args ⟨x,cs,_,h2,_⟩=>by rw[h2];exact hag cs) (fun p hp=>Q0 (Q7.1 hps p hp)) ?_ ?_ ?_ ?_ ?_ ?_ ?_ ?_
 ·rintro W1 ⟨W',hc1,hz1,hd,hc2,hz2⟩ ⟨o,ho⟩
  refine⟨nh,hJ0,?_⟩
  have h1:Hp C (hcat nh (kpH H hs hs)) w:=hh.cov gs h0
  have h2:Hp C ((kd,.ob w.heap.size dfT)::hcat nh (kpH H hs hs)) W':=h1.new hn1 hc1 (fun b E=>by simp only[Res.bl,Qi]at E;omega) (fun j I=>by cases I) fun F B _ _ _=>⟨_,hd,rfl⟩
  refine h2.new (by rw[Qaa,if_neg V];exact hn2) hc2 (fun b E=>by simp only[Res.bl,Qi]at E;omega) (fun j I=>by cases I) fun F B _ _ _=>⟨o,ho,trivial⟩
 ·rintro k W W' ⟨nh,N,O⟩ hc
  obtain⟨o,ho,_⟩: ∃o,W.heap[w.heap.size+1]?=some o∧lpT o:=O.hold kl (.ob (w.heap.size+1) lpT) (by rw[Qaa,if_pos rfl])
  have hlt:=Qy (Qn.1 ho).1 hc.size
  exact⟨nh,N,O.ob (hlast N) hc (Wi hlt) trivial⟩
 ·exact fun e W W' h hc W2 hc2=>h W2 (Ch.then (U:=[w.heap.size+1]) hc hc2 (by simp) (by simp))
 ·intro k W h
  rw[hΦe k W h]
  obtain⟨N,O⟩:=Yg h
  obtain⟨ls,hS⟩:=(hsub _ _ w.heap.size (w.heap.size+1) N).1
  exact hS.hp O hHc rfl (by simp)
 ·intro k W0 W args a1 o hk1 hI hc hlt ⟨x,cs,hx,hargs,hrep⟩ hlen ho hdf hfr
  rw[hΦe k W0 hI]at hrep
  obtain⟨N,O⟩:=Yg hI
  obtain⟨nh,hnh⟩: ∃nh,nh=Classical.choose hI:=⟨_,rfl⟩
  rw[←hnh]at hrep N O
  have hW1:Hp C (HK kd kl w.heap.size (w.heap.size+1) (fun x=>x=o) nh (kpH H hs hs)) W:=O.ob (hlast N) (hc.mono (by simp)) ho rfl
  have E:=(Qcn (HK kd kl w.heap.size (w.heap.size+1) (fun x=>x=o) nh (kpH H hs hs)) bs).hp hW1 (Qag.2 ((Qdy _ _ bs).nodup (Qag.1 hbs))) (Qag.2 ((Qcs _ bs).nodup (Qag.1 hbs))) (by simp)
  have hrep2:t.rep W (Fh ⟨C.n,[],W,blks (HK kd kl w.heap.size (w.heap.size+1) (fun x=>x=o) nh (kpH H hs hs)) (mvl (HK kd kl w.heap.size (w.heap.size+1) (fun x=>x=o) nh (kpH H hs hs)) bs),Fh C (HK kd kl w.heap.size (w.heap.size+1) (fun x=>x=o) nh (kpH H hs hs))⟩ (kpH (HK kd kl w.heap.size (w.heap.size+1) (fun x=>x=o) nh (kpH H hs hs)) [] bs)) cs x:=by
   have hnb: ∀b,(∀j,¬Bk (HK kd kl w.heap.size (w.heap.size+1) (fun x=>x=o) nh (kpH H hs hs)) j b)→∀j,¬Bk (kpH (HK kd kl w.heap.size (w.heap.size+1) (fun x=>x=o) nh (kpH H hs hs)) [] bs) j b:=fun b hB j ⟨r,h1,h2⟩=>hB j ⟨r,(Qbw h1).1,h2⟩
   have hpq: ∀j b,Bk (HK kd kl w.heap.size (w.heap.size+1) (fun x=>x=o) nh (kpH H hs hs)) j b→Bk (HK kd kl w.heap.size (w.heap.size+1) lpT nh (kpH H hs hs)) j b:=fun j b I=>by
    by_cases e:j=kl
    ·subst e;rw[Bk.cons_eq]at I ⊢;exact I
    ·rw[Bk.cons_ne e]at I ⊢;exact I
   refine rep_to hrep (S:=[]) (Ch.refl W) fun b E hl=>⟨by simp,?_⟩
   have:Fh C (HK kd kl w.heap.size (w.heap.size+1) (fun x=>x=o) nh (kpH H hs hs)) b:=by
    rcases E with E|E
    ·exact⟨fun j I=>E.1 j (hpq j b I),E.2⟩
    ·exact⟨fun j I=>by have:=(O.bnd j b (hpq j b I)).2;omega,.inr (.inl (Wl O.ch.size E))⟩
   exact⟨hnb b this.1,.inl this⟩
  obtain⟨pl,hpl,hcs,hb2⟩:=Qej E.nds hrep2 kn ((hsub _ _ w.heap.size (w.heap.size+1) N).2.2 o)
  subst hcs
  rw[hargs]at hfr
  refine wpIn_mono (Qav (hround k nh x w.heap.size (w.heap.size+1) W o N hx (rep_ok t hrep) hW1) pl hpl a1 W hfr hb2) fun e a2 W2 he=>?_
  cases e with
  |normal=>exact⟨rfl,he⟩
  |_=>exact False.elim he
 ·rintro W a' ⟨nh,N,O⟩ hd hf'
  exact hdone nh _ _ N a' W hf' O.nds
 ·exact fun W a' hX hd hf'=>hX W (Ch.refl' _ _) a' hf'
 ·exact fun id W a' hX hd hf'=>hX W (Ch.refl' _ _) a' hf'
theorem AE.flip {D L:Nat}{o:Obj}{Yb:Obj→Exit→Act→World→Prop}{body:Code}(kd kl:Nat)(h: ∀E,AX (some L) P (Yb E) [] body ⟨C.n,[],C.w0,C.S,C.F⟩ l ((kl,.ob L (fun x=>x=E))::H))(I:C.ds=[]:=by rfl)
  (V:hk H kl=some (.ob L (fun x=>x=o)):=by rfl) (h2:hk H kd=some (.ob D dfT):=by rfl) (hj:hng [kl] [] H=true:=by kernel_rfl):AE (some L) P Y (.m (MF P D L o Yb body)::K) .normal C l H:=fun a w W N=>by
 obtain⟨o',ho',e⟩: ∃o',w.heap[L]?=some o'∧o'=o:=N.hold kl _ V
 obtain⟨d,hd,e2⟩: ∃d,w.heap[D]?=some d∧d=.deferred (some []):=N.hold kd _ h2
 subst e;subst e2
 rw[I]at W
 exact⟨ho',hd,fun W2 E hc O _=>h E a W2 W (Hp.dd (js:=[]) (N.obj (q:=fun x=>x=E) V hc O rfl) hj).nds⟩
theorem Qgn {n:Nat}{ds:List Deferred}{W W':World}{kd kl D L M:Nat}{p:Obj→Prop}{E:Obj}{nh Hk He Ho:List (Nat×Res)}{bs gs:List Nat}{ps:List (Nat×Nat)}(I:Hp C (HK kd kl D L p nh Hk) W)(N:Hp ⟨n,ds,W,blks (HK kd kl D L p nh Hk) (mvl (HK kd kl D L p nh Hk) bs),Fh C (HK kd kl D L p nh Hk)⟩ He W')
  (O:hk He kd=some (.ob D dfT)) (V:hk He kl=some (.ob L (fun x=>x=E))) (h1:(outs (kpH He gs gs)&&frs M (HK kd kl D L p nh Hk) (kpH He gs gs))=true)
  (h2:ren (hcat (sft M (kpH He gs gs)) (kill ((mvl (HK kd kl D L p nh Hk) bs).map (·.2)) (HK kd kl D L p nh Hk))) ps=(kl,.ob L (fun x=>x=E))::Ho) (h3:nod (ps.map (·.1))=true) (h4:nod (ps.map (·.2))=true) (h5:nrf kl Ho=true):
  W'.heap[L]?=some E∧Dfr W' D∧∀W2,Ch [L] W' W2→Hp C ((kl,.ob L lpT)::Ho) W2:=by
 obtain⟨o',ho',e⟩: ∃o',W'.heap[L]?=some o'∧o'=E:=N.hold kl _ V
 obtain⟨d,hd,e2⟩: ∃d,W'.heap[D]?=some d∧d=.deferred (some []):=N.hold kd _ O
 subst e;subst e2
 refine⟨ho',hd,fun W2 hc=>?_⟩
 have:=fin_round I N gs M ps h1 h2 h3 h4
 exact this.ob h5 hc (Wi (Qy (Qn.1 ho').1 hc.size)) trivial
theorem AE.bn {X:Exit→World→Prop}{k n:Nat}{W:World}{kd kl D L:Nat}{p:Obj→Prop}{E:Obj}{nh Hk He:List (Nat×Res)}{J:Nat→List (Nat×Res)→Prop}{bs:List Nat}{S:List Nat}{F:Nat→Prop}(I:Hp C (HK kd kl D L p nh Hk) W)(gs:List Nat)(M:Nat)(ps:List (Nat×Nat))(nh':List (Nat×Res))(V:J (k+1) nh')
  (hS:S=blks (HK kd kl D L p nh Hk) (mvl (HK kd kl D L p nh Hk) bs)) (hF:F=Fh C (HK kd kl D L p nh Hk))
  (N:hk He kd=some (.ob D dfT):=by rfl) (O:hk He kl=some (.ob L (fun x=>x=E)):=by rfl) (h1:(outs (kpH He gs gs)&&frs M (HK kd kl D L p nh Hk) (kpH He gs gs))=true:=by kernel_rfl)
  (h2:ren (hcat (sft M (kpH He gs gs)) (kill ((mvl (HK kd kl D L p nh Hk) bs).map (·.2)) (HK kd kl D L p nh Hk))) ps=(kl,.ob L (fun x=>x=E))::(kd,.ob D dfT)::hcat nh' Hk:=by kernel_rfl) (h3:nod (ps.map (·.1))=true:=by rfl) (h4:nod (ps.map (·.2))=true:=by rfl) (h5:nrf kl ((kd,.ob D dfT)::hcat nh' Hk)=true:=by kernel_rfl):
  AE (some L) P (RQ D L E (IK C kd kl D L J Hk) X k) [] .normal ⟨n,[],W,S,F⟩ l He:=fun a w hf hh=>by
 subst hS;subst hF
 obtain⟨h6,h7,h8⟩:=Qgn I hh N O h1 h2 h3 h4 h5
 exact⟨h6,h7,nh',V,h8 w (Ch.refl' _ _)⟩
theorem AX.bret {Kb:List Kx}{I:Nat→World→Prop}{lo:List (Nat×Value)}{k n:Nat}{W:World}{kd kl D L:Nat}{p:Obj→Prop}{E:Obj}{nh Hk He:List (Nat×Res)}{bs:List Nat}{S:List Nat}{F:Nat→Prop}(N:Hp C (HK kd kl D L p nh Hk) W)(gs:List Nat)(M:Nat)(ps:List (Nat×Nat))(Ho:List (Nat×Res))
  (hout:AE none P Y K .ret ⟨C.n,mkD D::C.ds,C.w0,C.S,C.F⟩ lo ((kl,.ob L lpT)::Ho)) (hS:S=blks (HK kd kl D L p nh Hk) (mvl (HK kd kl D L p nh Hk) bs)) (hF:F=Fh C (HK kd kl D L p nh Hk))
  (O:hk He kd=some (.ob D dfT):=by rfl) (V:hk He kl=some (.ob L (fun x=>x=E)):=by rfl) (h1:(outs (kpH He gs gs)&&frs M (HK kd kl D L p nh Hk) (kpH He gs gs))=true:=by kernel_rfl)
  (h2:ren (hcat (sft M (kpH He gs gs)) (kill ((mvl (HK kd kl D L p nh Hk) bs).map (·.2)) (HK kd kl D L p nh Hk))) ps=(kl,.ob L (fun x=>x=E))::Ho:=by kernel_rfl) (h3:nod (ps.map (·.1))=true:=by rfl) (h4:nod (ps.map (·.2))=true:=by rfl) (h5:nrf kl Ho=true:=by kernel_rfl):
  AX (some L) P (RQ D L E I (XK P Y K C lo D L) k) Kb .ret ⟨n,[],W,S,F⟩ l He:=fun a w hf hh=>by
 subst hS;subst hF
 obtain⟨h6,h7,h8⟩:=Qgn N hh O V h1 h2 h3 h4 h5
 exact wpIn_ret (kont_ret ⟨h6,h7,fun W' hc a' hf'=>hout a' W' hf' (h8 W' hc).nds⟩)
end
def bodyQ (P:Program)(fn:Func)(R:Ending→World→Prop):Exit→Act→World→Prop
 | .normal,a,w=>bodyPostM (FW none) 0 P fn R .normal a w
 | .ret,a,w=>bodyPostM (FW none) 0 P fn R .ret a w
 |_,_,_=>False
def unob:List (Nat×Res)→List (Nat×Res)
 | []=>[]
 |(k,r)::H=>(k,match r with
  | .ob _ _=>.dead
  |r=>match r.ref with
   |none=>r
   |some _=>.dead)::unob H
theorem Qfu: ∀{H:List (Nat×Res)} {k:Nat} {r:Res},hk (unob H) k=some r→r=.dead∨(hk H k=some r∧r.ref=none∧∀g p,r≠ .ob g p)
 | [],_,_,h=>by cases h
 |(d,u)::H,k,r,h=>by
  unfold unob at h
  rw[Qaa]at h ⊢
  split at h
  ·rename_i e
   rw[if_pos e]
   injection h with h
   cases u with
   |ob g p=>exact .inl h.symm
   |el k b o cs=>cases k with
    |none=>subst h;exact .inr ⟨rfl,rfl,fun g p e=>by cases e⟩
    |some j=>exact .inl h.symm
   |mit k g b n s la=>exact .inl h.symm
   |_=>subst h;exact .inr ⟨rfl,rfl,fun g p e=>by cases e⟩
  ·rename_i e;rw[if_neg e];exact Qfu h
def okD (H:List (Nat×Res)):List Nat→List Nat→Prop
 | [],[]=>True
 |D::Ds,k::ks=>hk H k=some (.ob D dfT)∧okD H Ds ks
 |_,_=>False
theorem Qfi {H:List (Nat×Res)}: ∀{Ds ks:List Nat},okD H Ds ks→∀D,D∈Ds→∃k,k∈ks∧hk H k=some (.ob D dfT)
 | [],_,_,D,h=>by cases h
 |D::Ds,[],h,_,_=>by cases h
 |D::Ds,k::ks,h,E,I=>by
  rcases Qg.1 I with rfl|I
  ·exact⟨k,Qf ..,h.1⟩
  ·obtain⟨j,L,N⟩:=Qfi h.2 E I;exact⟨j,Qb _ L,N⟩
theorem Qia {C:Cx}{H:List (Nat×Res)}{w:World}(I:Hp C H w): ∀{Ds ks:List Nat},okD H Ds ks→ks.Nodup→Ds.Nodup
 | [],_,_,_=>Xq
 |D::Ds,[],h,_=>by cases h
 |D::Ds,k::ks,h,E=>by
  rw[Q8]at E ⊢
  refine⟨fun L=>?_,Qia I h.2 E.2⟩
  obtain⟨j,N,O⟩:=Qfi h.2 D L
  have:=I.dis k j D ⟨_,h.1,by simp[Res.bl]⟩ ⟨_,O,by simp[Res.bl]⟩
  exact E.1 (this▸N)
theorem Hp.unob {C:Cx}{H:List (Nat×Res)}{w w':World}{Ds:List Nat}(h:Hp C H w)(hD: ∀D,D∈Ds→∃k,hk H k=some (.ob D dfT))(V:Ch Ds w w'):Hp C (A.unob H) w':=by
 have E: ∀j b,Bk (A.unob H) j b→Bk H j b∧b∉Ds:=fun j b ⟨r,h1,h2⟩=>by
  rcases Qfu h1 with rfl|⟨h3,_,h4⟩
  ·cases h2
  ·refine⟨⟨r,h3,h2⟩,fun hm=>?_⟩
   obtain⟨k,O⟩:=hD b hm
   have:=h.dis j k b ⟨r,h3,h2⟩ ⟨_,O,by simp[Res.bl]⟩
   subst this
   rw[h3]at O;injection O with O;exact h4 _ _ O
 have hfree: ∀b,(∀k,¬Bk H k b)→b∉Ds∧∀k,¬Bk (A.unob H) k b:=fun b I=>⟨fun hm=>by obtain⟨k,O⟩:=hD b hm;exact I k ⟨_,O,by simp[Res.bl]⟩,fun j N=>I j (E j b N).1⟩
 refine⟨?_,fun j r N=>?_,fun j b N=>?_,fun j j' b N hj'=>h.dis j j' b (E j b N).1 (E j' b hj').1,fun j r i N W=>?_⟩
 ·have L:=h.ch
  refine⟨V.os.trans L.os,V.tape.trans L.tape,V.output.trans L.output,Wl L.size V.size,fun b I hn=>?_⟩
  rw[V.block b (Qy I L.size) (fun hm=>?_)]
  ·exact L.block b I hn
  ·obtain⟨k,O⟩:=hD b hm
   rcases(h.bnd k b ⟨_,O,by simp[Res.bl]⟩).1 with h1|h1
   ·omega
   ·exact hn h1
 ·rcases Qfu N with rfl|⟨h3,h4,O⟩
  ·trivial
  ·exact Res.to (h.hold j r h3) V (fun b I _=>⟨(hfree b I.1).1,(hfree b I.1).2,I.2⟩) (fun b I _=>hfree b I) (fun i b hi _=>by rw[h4]at hi;cases hi) fun b I=>(E j b ⟨r,N,I⟩).2
 ·exact⟨(h.bnd j b (E j b N).1).1,Qy (h.bnd j b (E j b N).1).2 V.size⟩
 ·rcases Qfu N with rfl|⟨_,h4,_⟩
  ·cases W
  ·rw[h4]at W;cases W
section
variable {r:Option Nat}{P:Program}{K:List Kx}{l:List (Nat×Value)}{H:List (Nat×Res)}
theorem Ct.enterM {f:FuncId}{fn:Func}{c:Code}{vs:List Value}{n:Nat}{S:List Nat}{R:Value→List (Nat×Res)→Prop}(E:P.funcs[f]?=some fn)(I:fn.body=some c)(L:fn.ntmps=n)(N:Nat.ble vs.length n=true)
  (h: ∀w F,AX none P (bodyQ P fn fun e w'=>∃v H',e=.returned v∧R v H'∧Hp ⟨0,[],w,S,F⟩ H' w') [] c ⟨n,[],w,S,F⟩ (argl vs 0) H):Ct P f vs H S R:=fun w F O=>
 Z.enterM E I L (Q0 N) fun a hf'=>wpIn_mono (h w F a w hf' O.nds) fun e a w h=>(by cases e<;>first|exact h|exact False.elim h)
theorem AE.rtM {fn:Func}{w0:World}{S:List Nat}{F:Nat→Prop}{n:Nat}{R:Value→List (Nat×Res)→Prop}{Ds:List Nat}{ds:List Deferred}(kds:List Nat)(ps:List (Nat×Nat))(v:Value)(I:okD H Ds kds)(hres: ∀a w,Fr a n ds l→Hp ⟨n,ds,w0,S,F⟩ (A.unob H) w→(results fn a.tmps).run P w=.ok v w)(W:R v (A.ren (A.unob H) ps))(L:marks Ds=ds:=by rfl)(hk:nod kds=true:=by rfl)(h1:nod (ps.map (·.1))=true:=by rfl)(h2:nod (ps.map (·.2))=true:=by rfl):
  AE r P (bodyQ P fn fun e w'=>∃v H',e=.returned v∧R v H'∧Hp ⟨0,[],w0,S,F⟩ H' w') K .ret ⟨n,ds,w0,S,F⟩ l H:=fun a w V N=>by
 subst L
 refine kont_ret (retM V (fun D O=>?_) (Qia N I (Qag.1 hk)) fun w' hc _=>?_)
 ·obtain⟨k,_,E⟩:=Qfi I D O
  obtain⟨d,hd,e2⟩: ∃d,w.heap[D]?=some d∧d=.deferred (some []):=N.hold k _ E
  subst e2;exact hd
 ·have E:=N.unob (fun D O=>by obtain⟨k,_,E⟩:=Qfi I D O;exact⟨k,E⟩) hc
  exact⟨v,hres a w' V E,v,_,rfl,W,(E.ren ps h1 h2).nds⟩
theorem AX.rtM {fn:Func}{w0:World}{S:List Nat}{F:Nat→Prop}{n:Nat}{R:Value→List (Nat×Res)→Prop}{Ds:List Nat}{ds:List Deferred}(kds:List Nat)(ps:List (Nat×Nat))(v:Value)(I:okD H Ds kds)(hres: ∀a w,Fr a n ds l→Hp ⟨n,ds,w0,S,F⟩ (A.unob H) w→(results fn a.tmps).run P w=.ok v w)(L:R v (A.ren (A.unob H) ps))(E:marks Ds=ds:=by rfl)(hk:nod kds=true:=by rfl)(N:nod (ps.map (·.1))=true:=by rfl)(O:nod (ps.map (·.2))=true:=by rfl):
  AX r P (bodyQ P fn fun e w'=>∃v H',e=.returned v∧R v H'∧Hp ⟨0,[],w0,S,F⟩ H' w') K .ret ⟨n,ds,w0,S,F⟩ l H:=fun a w V W=>wpIn_ret (AE.rtM kds ps v I hres L E hk N O a w V W)
end
structure Yl (P:Program) (lid:Nat) (J:Nat→World→Prop) (Jx:World→Prop) (Φ:Nat→World→Nat→Prop) (Hc:List (Nat×Res)) (t:Ty) (ag:List Value→List Value) (xs:List t.den):Prop where
 js: ∀k W W',J k W→Ch [] W W'→J k W'
 jx: ∀W W',Jx W→Ch [] W W'→Jx W'
 dat: ∀k W,J k W→Hp ⟨0,[],W,[],Φ k W⟩ Hc W
 y: ∀k W0 W args,k<xs.length→J k W0→Ch [] W0 W→El t ag xs Φ k W0 W args→YieldAt (FW none) 0 P lid args.toArray W fun e W'=>(e=.returned (.bool true)∧J (k+1) W')∨(e=.returned (.bool false)∧Jx W')
def Rem {α:Type}(xs:List α)(k:Nat)(rs:List α):Prop:=xs.drop k=rs∧k≤xs.length
theorem Rem.zero {α:Type}(xs:List α):Rem xs 0 xs:=⟨rfl,Xe _⟩
theorem Rem.nil {α:Type}{xs:List α}{k:Nat}(h:Rem xs k []):k=xs.length:=by
 have:=List.drop_eq_nil_iff.1 h.1;have:=h.2;omega
theorem Rem.at {α:Type}{xs rs:List α}{k:Nat}{x:α}(h:Rem xs k (x::rs)):xs[k]?=some x:=by
 have E:=h.1
 have:(xs.drop k)[0]?=some x:=by rw[E];rfl
 rw[Xh]at this;simpa using this
theorem Rem.next {α:Type}{xs rs:List α}{k:Nat}{x:α}(h:Rem xs k (x::rs)):Rem xs (k+1) rs:=by
 refine⟨?_,?_⟩
 ·rw[←Y6,h.1];rfl
 ·exact(Qc.1 h.at).1
def cns {α:Type}(x:α)(r:Option (List α)):Option (List α):=r.map (x:: ·)
theorem cns_some {α:Type}{x:α}{r:Option (List α)}{rs:List α}(h:cns x r=some rs): ∃rs',rs=x::rs'∧r=some rs':=by
 cases r with
 |none=>cases h
 |some l=>exact⟨l,(Wz h).symm,rfl⟩
abbrev CY (n:Nat) (Φ:Nat→World→Nat→Prop) (i:Nat×World):Cx:=⟨n,[],i.2,[],Φ i.1 i.2⟩
section
variable {P:Program}{lid:Nat}{J:Nat→World→Prop}{Jx:World→Prop}{Φ:Nat→World→Nat→Prop}{Hc:List (Nat×Res)}{t:Ty}{ag:List Value→List Value}{xs:List t.den}{n:Nat}
theorem Sq.enter {gf:FuncId}{fn:Func}{c:Code}{cap:List Value}(L:P.funcs[gf]?=some fn)(N:fn.body=some c)(O:fn.ntmps=n)(V:Nat.ble (cap.length+1) n=true)
  (h: ∀lid w J Jx Φ,Yl P lid J Jx Φ Hc t ag xs→J 0 w→AX none P (bodyPost P fn fun e W'=>e=.returned (.tuple #[])∧(J xs.length W'∨Jx W')) [] c (CY n Φ (0,w)) (argl (.func (.yield lid) #[] #[]::cap) 0) Hc):Sq P gf cap Hc t ag xs:=fun Φ lid w J Jx W h2 E I h5=>
 Z.enter L N O (Q0 V) fun a hf'=>h lid w J Jx Φ ⟨W,h2,E,h5⟩ I a w hf' (E 0 w I).nds
theorem AL.yield {ops:Array Oper}{Q:Exit→Act→World→Prop}{rest:List Oper}{l:List (Nat×Value)}{H:List (Nat×Res)}{d:Nat}{T:TypeId}{pos:String}{af:Array Edge}{c:Operand}{ass:List Operand}{ts:Array TypeId}{vs:List Value}{k:Nat}{w0:World}{x:t.den}{rs:List t.den}
  (N:Yl P lid J Jx Φ Hc t ag xs) (V:J k w0) (I:Rem xs k (x::rs)) (cs:List Value) (W:Dat H t cs x)
  (ht: ∀w',J (k+1) w'→Rem xs (k+1) rs→AL none P ops Q rest (CY n Φ (k+1,w')) ((d,.bool true)::l) Hc)
  (he: ∀w',Jx w'→AL none P ops Q rest ⟨n,[],w',[],no⟩ ((d,.bool false)::l) [])
  (hc:ev l c=some (.func (.yield lid) #[] #[]):=by rfl) (hx:evs l ass=some vs:=by rfl) (hv:ag cs=vs:=by rfl) (hd:Nat.ble (d+1) n=true:=by rfl):
  AL none P ops Q (⟨some d,.call {callee:=.value c,args:=ass.toArray,argTypes:=ts},T,pos,af,none⟩::rest) (CY n Φ (k,w0)) l H:=fun a w hf O=>by
 subst hv
 have L:k<xs.length:=(Qc.1 I.at).1
 refine callY hf hd hc hx (N.y k w0 w _ L V O.ch ⟨x,cs,I.at,rfl,Qev (Dat.rep O t W) fun b hb hl=>?_⟩) ?_
 ·rcases hb.2 with E|E|E
  ·exact .inl E
  ·exact .inr E
  ·cases E
 ·rintro e w' (⟨rfl,E⟩|⟨rfl,E⟩)
  ·exact⟨_,rfl,fun a' hf'=>ht w' E I.next a' w' hf' (N.dat _ _ E).nds⟩
  ·exact⟨_,rfl,fun a' hf'=>he w' E a' w' hf' ⟨Ch.refl' _ _,fun k r h=>(by cases h),fun k b ⟨_,h,_⟩=>(by cases h),fun k k' b ⟨_,h,_⟩=>(by cases h),fun k r j h=>(by cases h)⟩⟩
theorem AE.rtY {fn:Func}{l:List (Nat×Value)}{H:List (Nat×Res)}{k:Nat}{w0:World}(E:Yl P lid J Jx Φ Hc t ag xs)(I:J k w0)(L:Rem xs k [])(h:fn.results=#[]:=by rfl):AE none P (bodyPost P fn fun e W'=>e=.returned (.tuple #[])∧(J xs.length W'∨Jx W')) [] .normal (CY n Φ (k,w0)) l H:=fun a w N O=>
 Z.endv N (Z.res0 h w) ⟨rfl,.inl (L.nil▸E.js _ _ _ I O.ch)⟩
theorem AX.rtX {fn:Func}{K:List Kx}{l:List (Nat×Value)}{H:List (Nat×Res)}{w0:World}{F:Nat→Prop}(E:Yl P lid J Jx Φ Hc t ag xs)(I:Jx w0)(h:fn.results=#[]:=by rfl):AX none P (bodyPost P fn fun e W'=>e=.returned (.tuple #[])∧(J xs.length W'∨Jx W')) K .ret ⟨n,[],w0,[],F⟩ l H:=AX.ret0 fun a w L N=>
 Z.retv L (Z.res0 h w) ⟨rfl,.inr (E.jx _ _ I N.ch)⟩
end
section
variable {r:Option Nat}{P:Program}{Y:Exit→Act→World→Prop}{K:List Kx}{C:Cx}{l:List (Nat×Value)}{H:List (Nat×Res)}{ι:Type}{Cf:ι→Cx}
abbrev StC (Cf:ι→Cx) (l:List (Nat×Value)) (H:List (Nat×Res)) (ks hs:List Nat) (J:ι→List (Nat×Value)→List (Nat×Res)→Prop):Act→World→Prop:=fun a w=>∃i nl nh,J i nl nh∧Fr a (Cf i).n (Cf i).ds (cat nl (kp l ks))∧Hp (Cf i) (hcat nh (kpH H hs hs)) w
theorem AE.jC {l':List (Nat×Value)}{H':List (Nat×Res)}{ks hs:List Nat}{J:ι→List (Nat×Value)→List (Nat×Res)→Prop}(i:ι)(gs:List Nat)(nl:List (Nat×Value))(nh:List (Nat×Res))(E:J i nl nh)(I:kp l ((cat nl (kp l' ks)).map (·.1))=cat nl (kp l' ks):=by kernel_rfl)(L:kpH H gs gs=hcat nh (kpH H' hs hs):=by kernel_rfl):
  AE r P Y (.m (StC Cf l' H' ks hs J)::K) .normal (Cf i) l H:=fun a w N O=>⟨i,nl,nh,E,Fr.cov N I,O.cov gs L⟩
theorem AX.loopC (Cf:ι→Cx)(E:ι)(ks hs gs:List Nat)(J:Nat→ι→List (Nat×Value)→List (Nat×Res)→Prop)(m:Nat)(nl:List (Nat×Value))(nh:List (Nat×Res)){x:Code}(I:J m E nl nh)
  (h: ∀f i nl nh,J f i nl nh→AX r P Y (.m (StC Cf l H ks hs fun i nl nh=>∃f',f'<f∧J f' i nl nh)::K) x (Cf i) (cat nl (kp l ks)) (hcat nh (kpH H hs hs)))
  (V:kp l ((cat nl (kp l ks)).map (·.1))=cat nl (kp l ks):=by kernel_rfl) (W:kpH H gs gs=hcat nh (kpH H hs hs):=by kernel_rfl):AX r P Y K (.loop x) (Cf E) l H:=fun a w L N=>by
 refine Z.loop (fun f a w=>StC Cf l H ks hs (J f) a w) m ⟨E,nl,nh,I,Fr.cov L V,N.cov gs W⟩ fun f a w ⟨i,nl,nh,I,L,N⟩=>?_
 refine wpIn_mono (h f i nl nh I a w L N) fun e a w hq=>?_
 cases e with
 |normal=>obtain⟨i,nl,nh,⟨f',O,hJ'⟩,hf',hh'⟩:=hq;exact⟨f',O,i,nl,nh,hJ',hf',hh'⟩
 |_=>exact hq
end
theorem drop_at {α:Type}{xs:List α}{k:Nat}{x:α}(h:xs[k]?=some x):xs.drop k=x::xs.drop (k+1):=by
 obtain⟨E,rfl⟩:=Qc.1 h
 exact Yw E
section
variable {P:Program}{kt et tt:TypeId}{κ:Type}[DecidableEq κ]{enc:κ→Value}{w:World}{b:Nat}
theorem Qhm {arr:List MapEntry}{clock:Nat}{ks:List κ}{z:Value}(K:Ky P kt enc)(ht:P.underlying tt=some (.map kt et))(hz: ∀w,(zeroValue et).run P w=.ok z w)(W:w.heap[b]?=some (.map arr.toArray clock))(hk:arr.map (·.key)=ks.map enc)(I: ∀e,e∈arr→e.born<clock)(O:(arr.map (·.born)).Nodup)(k:κ):
  ∃(arr1:List MapEntry) (clock1 i:Nat) (e1:MapEntry),(Instr.mapEntry tt (.map (some b)) (enc k)).run P w=.ok (.tuple #[e1.val,goInt e1.born]) (w.putObj b (.map arr1.toArray clock1))∧arr1[i]?=some e1∧e1.key=enc k∧(∀e,e∈arr1→e.born<clock1)∧(arr1.map (·.born)).Nodup∧
   ((loc k ks=some i∧arr1=arr)∨(loc k ks=none∧i=arr.length∧arr1=arr++[e1]∧e1.val=z)):=by
 have hfind:=Qam K k w arr ks hk
 have hget:(getObj b).run P w=.ok (.map arr.toArray clock) w:=by simp[getObj,Sem.run,W]
 cases hloc:loc k ks with
 |none=>
  rw[hloc]at hfind
  refine⟨arr++[{key:=enc k,val:=z,born:=clock}],clock+1,arr.length,{key:=enc k,val:=z,born:=clock},?_,by simp,rfl,?_,?_,.inr ⟨rfl,rfl,rfl,rfl⟩⟩
  ·simp only[Instr.mapEntry,Sem.run_bind,run_underlying ht,Result.andThen_ok,hget,K.check,hfind,X8,hz,MapC.set W,Sem.run_pure,List.push_toArray]
  ·intro e E
   rcases Qu.1 E with E|E
   ·have:=I e E;omega
   ·simp at E;subst E;simp
  ·rw[Xb,Wr]
   refine⟨O,by simp,fun x hx y hy=>?_⟩
   simp at hy;subst hy
   obtain⟨e,E,rfl⟩:=Wh.1 hx
   have:=I e E;omega
 |some i=>
  rw[hloc]at hfind
  have hi:i<ks.length:=by
   have: ∀(ks:List κ) (i:Nat),loc k ks=some i→i<ks.length∧ks[i]?=some k:=by
    intro ks
    induction ks with
    |nil=>intro i h;cases h
    |cons a r ih=>
     intro i h
     unfold loc at h
     split at h
     ·rename_i e;injection h with h;subst h;subst e;exact⟨by simp,rfl⟩
     ·cases L:loc k r with
      |none=>rw[L]at h;cases h
      |some j=>rw[L]at h;injection h with h;subst h;have:=ih j L;exact⟨by simp;omega,by simpa using this.2⟩
   exact(this ks i hloc).1
  have hks:ks[i]?=some k:=by
   have: ∀(ks:List κ) (i:Nat),loc k ks=some i→ks[i]?=some k:=by
    intro ks
    induction ks with
    |nil=>intro i h;cases h
    |cons a r ih=>
     intro i h
     unfold loc at h
     split at h
     ·rename_i e;injection h with h;subst h;subst e;rfl
     ·cases L:loc k r with
      |none=>rw[L]at h;cases h
      |some j=>rw[L]at h;injection h with h;subst h;simpa using ih j L
   exact this ks i hloc
  have hlen:arr.length=ks.length:=by have:=congrArg List.length hk;simpa using this
  obtain⟨e,E⟩: ∃e,arr[i]?=some e:=⟨_,Qe (by omega)⟩
  have N:e.key=enc k:=by
   have h6:(arr.map (·.key))[i]?=some e.key:=by rw[Qp,E];rfl
   rw[hk,Qp,hks]at h6
   simpa using h6.symm
  have hstay:(Instr.keyThatStays (enc k) (enc k)).run P w=.ok (enc k) w:=by simp[Instr.keyThatStays,K.bits]
  have hsame:(arr.toArray.modify i fun e=>{e with key:=enc k})=arr.toArray:=by
   have:(arr.toArray.modify i fun e=>{e with key:=enc k})=(arr.modify i fun e=>{e with key:=enc k}).toArray:=by simp
   rw[this]
   refine congrArg List.toArray (Wx fun j=>?_)
   rw[Wa]
   by_cases V:i=j
   ·subst V;rw[E];simp[←N]
   ·simp[V]
  refine⟨arr,clock,i,e,?_,E,N,I,O,.inl ⟨rfl,rfl⟩⟩
  simp only[Instr.mapEntry,Sem.run_bind,run_underlying ht,Result.andThen_ok,hget,K.check,hfind,Qa,E,Wb,Wy,Ys,N,hstay,hsame,MapC.set W,Sem.run_pure]
theorem run_entryStore {arr:List MapEntry}{clock i:Nat}{e1:MapEntry}(N:w.heap[b]?=some (.map arr.toArray clock))(W:arr[i]?=some e1)(E:(arr.map (·.born)).Nodup)(v:Value):
  (Instr.entryStore tt (.map (some b)) (goInt e1.born) v).run P w=.ok () (w.putObj b (.map (arr.modify i fun e=>{e with val:=v}).toArray clock)):=by
 have hget:(getObj b).run P w=.ok (.map arr.toArray clock) w:=by simp[getObj,Sem.run,N]
 have hidx:arr.toArray.findIdx? (fun e=>(e.born:Int)==(e1.born:Int))=some i:=by
  rw[Array.findIdx?_eq_some_iff_getElem]
  obtain⟨O,V⟩:=Qc.1 W
  refine⟨by simpa using O,by simp[V],fun j hj=>?_⟩
  have I:j<arr.length:=by omega
  have hne:arr[j].born≠e1.born:=fun h=>by
   have:=(List.getElem_inj E (i:=j) (j:=i) (h₀:=by simpa using I) (h₁:=by simpa using O)).1 (by simp[V,h])
   omega
  simp only[List.getElem_toArray,beq_iff_eq]
  omega
 have L:(asIntOf (Value.int IntKind.i64 (e1.born:Int))).run P w=.ok (.i64,(e1.born:Int)) w:=by simp[asIntOf]
 simp only[Instr.entryStore,Sem.run_bind,hget,Result.andThen_ok,goInt,asInt,L,hidx,MapC.set N,Sem.run_pure,List.modify_toArray]
end
section
variable {P:Program}{kt et tt st ty:TypeId}{κ:Type}[DecidableEq κ]{enc:κ→Value}{w:World}{b:Nat}{t:Ty}{e:TypeId}{F G:Nat→Prop}{As:List (Option Addr×Nat)}{m:List (κ×List t.den)}
theorem Mr.asF {F':Nat→Prop}(h:Mr enc t e w F b As m)(E: ∀x,F x→x<w.heap.size→F' x):Mr enc t e w F' b As m:=h.to (S:=[]) (Ch.refl w) (by simp) fun x I L=>⟨by simp,E x I L⟩
theorem Qbr {i:Nat}{a a':Option Addr×Nat}(h:As[i]?=some a): ∀x,x∈rbl (As.set i a')→x∈rbl As∨x∈obl a'.1:=fun x L=>by
 obtain⟨y,I,E⟩:=Xn.1 L
 rcases List.mem_or_eq_of_mem_set I with I|rfl
 ·exact .inl (Xn.2 ⟨y,I,E⟩)
 ·exact .inr E
theorem Qhk {i j:Nat}{a c:Option Addr×Nat}(V:(rbl As).Nodup)(I:As[i]?=some a)(L:As[j]?=some c)(N:i≠j): ∀x,x∈obl a.1→x∉obl c.1:=by
 induction As generalizing i j with
 |nil=>simp at I
 |cons y r W=>
  have hn':(obl y.1++rbl r).Nodup:=V
  rw[Wr]at hn'
  cases i with
  |zero=>
   cases j with
   |zero=>exact absurd rfl N
   |succ j=>
    simp only[W9,Qw]at I;subst I
    simp only[Wc]at L
    exact fun x O E=>hn'.2.2 x O x (Qaq L E) rfl
  |succ i=>
   simp only[Wc]at I
   cases j with
   |zero=>
    simp only[W9,Qw]at L;subst L
    exact fun x O E=>hn'.2.2 x E x (Qaq I O) rfl
   |succ j=>
    simp only[Wc]at L
    exact W hn'.2.1 I L (by omega)
theorem Qbx {i:Nat}{a a':Option Addr×Nat}(V:(rbl As).Nodup)(h:As[i]?=some a)(W:(obl a'.1).Nodup)(O: ∀x,x∈obl a'.1→x∈obl a.1∨x∉rbl As):(rbl (As.set i a')).Nodup:=by
 induction As generalizing i with
 |nil=>simp at h
 |cons y r ih=>
  have hn':(obl y.1++rbl r).Nodup:=V
  rw[Wr]at hn'
  cases i with
  |zero=>
   simp only[W9,Qw]at h;subst h
   show(obl a'.1++rbl r).Nodup
   rw[Wr]
   refine⟨W,hn'.2.1,fun x I z N e=>?_⟩
   subst e
   rcases O x I with E|E
   ·exact hn'.2.2 x E x N rfl
   ·exact E (Wg _ N)
  |succ i=>
   simp only[Wc]at h
   show(obl y.1++rbl (r.set i a')).Nodup
   rw[Wr]
   refine⟨hn'.1,ih hn'.2.1 h fun x I=>?_,fun x I z N e=>?_⟩
   ·rcases O x I with E|E
    ·exact .inl E
    ·exact .inr fun L=>E (Wg _ L)
   ·subst e
    rcases Qbr h x N with E|E
    ·exact hn'.2.2 x I x E rfl
    ·rcases O x E with L|L
     ·exact hn'.2.2 x I x (Qaq h L) rfl
     ·exact L (We _ I)
theorem Mr.keys {arr:List MapEntry}{es:List (Value×Value)}(I:arr.map (fun e=>(e.key,e.val))=es)(N:es.length=m.length)(O:As.length=m.length)(L: ∀(i:Nat) (p:κ×List t.den) (a:Option Addr×Nat),m[i]?=some p→As[i]?=some a→es[i]?=some (enc p.1,.slice a.1 p.2.length a.2)∧Own t e 0 w F a.1 a.2 p.2):arr.map (·.key)=(m.map Prod.fst).map enc:=by
 have e1:arr.map (·.key)=es.map Prod.fst:=by rw[←I,List.map_map];rfl
 rw[e1]
 refine Wx fun i=>?_
 simp only[Qp]
 cases E:m[i]? with
 |none=>
  have:=Yv.1 E
  rw[Wk (by omega)];rfl
 |some p=>
  have V:=(Qc.1 E).1
  rw[(L i p As[i] E (Qe (by omega))).1];rfl
theorem Qby (A:Option Addr):(obl A).Nodup:=by cases A<;>simp[obl]
theorem Mr.app {i:TypeInfo}{z:Value}{bytes:Nat}(K:Ky P kt enc)(ht:P.underlying tt=some (.map kt et))(hz0: ∀w,(zeroValue et).run P w=.ok (.slice none 0 0) w)(hst:P.underlying st=some (.slice e))(hi:P.info? e=some i)(hz:i.zero=some z)(hsize:i.size=t.size)(hby:i.bytes=bytes)(hzs:z.cells.size=t.size)(hbp:0<bytes)
  (hm:Mr enc t e w F b As m) (hF: ∀x,F x→x∉b::rbl As) (hFl: ∀x,F x→x<w.heap.size) {A2:Option Addr} {c2:Nat} {ys:List t.den} (hr:Row t w F G A2 c2 ys) (hG: ∀x,G x→x≠b) (k:κ) (h63:((mget [] m k).length+ys.length)*bytes≤140737488355328):
  ∃A c n w1 A' c' O w3,(Instr.mapEntry tt (.map (some b)) (enc k)).run P w=.ok (.tuple #[.slice A (mget [] m k).length c,goInt n]) w1∧(Builtin.append_ #[st,st] ty #[.slice A (mget [] m k).length c,.slice A2 ys.length c2]).run P w1=.ok (.slice A' ((mget [] m k).length+ys.length) c') O∧
   (Instr.entryStore tt (.map (some b)) (goInt n) (.slice A' ((mget [] m k).length+ys.length) c')).run P O=.ok () w3∧Ch (b::rbl As) w w3∧∃As',Mr enc t e w3 F b As' (mins m k (mget [] m k++ys))∧∀x,x∈rbl As'→x∈rbl As∨(w.heap.size≤x∧x<w3.heap.size):=by
 obtain⟨es,⟨arr,clock,hb,h1,hlt,hnd⟩,hl,hA,V,W,he⟩:=hm
 have hblt:=(Qn.1 hb).1
 rw[Q8]at V
 have hk:=Mr.keys h1 hl hA he
 have hlen:arr.length=m.length:=by rw[←hl,←h1,Qr]
 obtain⟨arr1,clock1,N,e1,hrun,hi1,hek,hlt1,hnd1,hcase⟩:=Qhm K ht hz0 hb hk hlt hnd k
 have hc1:=Ch.putObj w b (.map arr1.toArray clock1)
 have hrow: ∃A c,e1.val=.slice A (mget [] m k).length c∧Own t e 0 w F A c (mget [] m k)∧(∀x,x∈obl A→x∈rbl As)∧((loc k (m.map Prod.fst)=some N∧arr1=arr∧As[N]?=some (A,c))∨(loc k (m.map Prod.fst)=none∧N=arr.length∧arr1=arr++[e1]∧obl A=[])):=by
  rcases hcase with⟨hloc,rfl⟩|⟨hloc,hi0,harr,hv⟩
  ·have hmi:=Qbv hloc []
   have hil:=(Qc.1 hmi).1
   have hAi:As[N]?=some As[N]:=Qe (by omega)
   obtain⟨I,h3⟩:=he N _ _ hmi hAi
   rw[←h1,Qp,hi1]at I
   injection I with I;injection I with _ I
   exact⟨_,_,I,h3,fun x E=>Qaq hAi E,.inl ⟨hloc,rfl,hAi⟩⟩
  ·have hg:mget [] m k=[]:=mget_none ((Qgc m k).1 hloc)
   rw[hg]
   exact⟨none,0,hv,Own.nil t e 0 w F,(fun x E=>by cases E),.inr ⟨hloc,hi0,harr,rfl⟩⟩
 obtain⟨A,c,hval,hO,hOb,hcase2⟩:=hrow
 rw[hval]at hrun
 have hO1:Own t e 0 (w.putObj b (.map arr1.toArray clock1)) F A c (mget [] m k):=Own.to hO hc1 (fun x E _ _=>by rw[Qi];rintro rfl;exact V.1 (hOb x E)) fun x E _=>⟨by rw[Qi];rintro rfl;exact hF x E (Qf ..),E⟩
 have hR1:Row t (w.putObj b (.map arr1.toArray clock1)) F G A2 c2 ys:=Row.to hr hc1 (fun x E _=>⟨by rw[Qi];rintro rfl;exact hF x E (Qf ..),E⟩) fun x E _=>⟨by rw[Qi];exact hG x E,E⟩
 obtain⟨A',c',O,happ,hO2,hc2,hnew⟩:=run_appendR (P:=P) (ty:=ty) hst hi hz hsize hby hzs hO1 hR1 h63 hbp (fun x E hxA=>hF x E (Qb _ (hOb x hxA))) (Xe _)
 have hbA:b∉obl A:=fun E=>V.1 (hOb b E)
 have hb1:(w.putObj b (.map arr1.toArray clock1)).heap[b]?=some (.map arr1.toArray clock1):=World.putObj_heap_same hblt
 have hb2:O.heap[b]?=some (.map arr1.toArray clock1):=(hc2.block b (by simpa using hblt) hbA).trans hb1
 have hstore:=run_entryStore (P:=P) (tt:=tt) hb2 hi1 hnd1 (.slice A' ((mget [] m k).length+ys.length) c')
 have hsz1:(w.putObj b (.map arr1.toArray clock1)).heap.size=w.heap.size:=by simp
 have hsz2:w.heap.size≤O.heap.size:=by rw[←hsz1];exact hc2.size
 have hlt2: ∀x,x∈obl A'→x<O.heap.size:=fun x E=>(hO2.lt x E).2
 have hnew': ∀x,x∈obl A'→x∈obl A∨x∉rbl As:=fun x E=>by
  rcases hnew x E with I|I
  ·exact .inl I
  ·exact .inr fun h3=>by have:=W x h3;omega
 have hc3:=Ch.putObj O b (.map (arr1.modify N fun e=>{e with val:=.slice A' ((mget [] m k).length+ys.length) c'}).toArray clock1)
 have hall:Ch (b::rbl As) w (O.putObj b (.map (arr1.modify N fun e=>{e with val:=.slice A' ((mget [] m k).length+ys.length) c'}).toArray clock1)):=
  ((hc1.mono (by simp)).then (U:=b::rbl As) (hc2.mono fun x E=>.inl (hOb x E)) (fun x E=>.inl E) (fun x E=>.inl (Qb _ E))).then (U:=b::rbl As) hc3 (fun x E=>.inl E) (fun x E=>.inl (by rw[Qi]at E;subst E;exact Qf ..))
 refine⟨A,c,e1.born,_,A',c',O,_,hrun,happ,hstore,hall,?_⟩
 obtain⟨v,hv⟩: ∃v,v=Value.slice A' ((mget [] m k).length+ys.length) c':=⟨_,rfl⟩
 rw[←hv]at hc3 ⊢
 have hb3:(O.putObj b (.map (arr1.modify N fun e=>{e with val:=v}).toArray clock1)).heap[b]?=some (.map (arr1.modify N fun e=>{e with val:=v}).toArray clock1):=World.putObj_heap_same (Qy hblt hsz2)
 have hborn: ∀x,x∈arr1.modify N (fun e=>{e with val:=v})→x.born<clock1:=fun x E=>by
  obtain⟨j,hj⟩:=Wm.1 E
  rw[Wa]at hj
  cases L:arr1[j]? with
  |none=>rw[L]at hj;simp at hj
  |some e0=>
   rw[L]at hj
   have hb0:=hlt1 e0 (Qh L)
   simp only[Xg,Wb,Qw]at hj
   subst hj
   split<;>exact hb0
 have hborns:(arr1.modify N fun e=>{e with val:=v}).map (·.born)=arr1.map (·.born):=by
  refine Wx fun j=>?_
  simp only[Qp,Wa]
  cases arr1[j]? with
  |none=>rfl
  |some e0=>simp only[Xg,Wb,Qw];split<;>rfl
 have hO3:Own t e 0 (O.putObj b (.map (arr1.modify N fun e=>{e with val:=v}).toArray clock1)) F A' c' (mget [] m k++ys):=Own.to hO2 hc3 (fun x E _ _=>by
   rw[Qi];rintro rfl
   rcases hnew x E with I|I
   ·exact hbA I
   ·omega) fun x E _=>⟨by rw[Qi];rintro rfl;exact hF x E (Qf ..),E⟩
 have hOj: ∀(j:Nat) (p:κ×List t.den) (a:Option Addr×Nat),m[j]?=some p→As[j]?=some a→(∀x,x∈obl a.1→x∉obl A)→Own t e 0 (O.putObj b (.map (arr1.modify N fun e=>{e with val:=v}).toArray clock1)) F a.1 a.2 p.2:=fun j p a hp L hdis=>by
  have I:=(he j p a hp L).2
  have h3:Own t e 0 (w.putObj b (.map arr1.toArray clock1)) F a.1 a.2 p.2:=Own.to I hc1 (fun x E _ _=>by rw[Qi];rintro rfl;exact V.1 (Qaq L E)) fun x E _=>⟨by rw[Qi];rintro rfl;exact hF x E (Qf ..),E⟩
  have h4:Own t e 0 O F a.1 a.2 p.2:=Own.to h3 hc2 (fun x E _ _=>hdis x E) fun x E _=>⟨fun hxA=>hF x E (Qb _ (hOb x hxA)),E⟩
  exact Own.to h4 hc3 (fun x E _ _=>by rw[Qi];rintro rfl;exact V.1 (Qaq L E)) fun x E _=>⟨by rw[Qi];rintro rfl;exact hF x E (Qf ..),E⟩
 have hsz3:(O.putObj b (.map (arr1.modify N fun e=>{e with val:=v}).toArray clock1)).heap.size=O.heap.size:=by simp
 have hbA':b∉obl A':=fun E=>by
  rcases hnew b E with I|I
  ·exact hbA I
  ·omega
 have hnew2: ∀x,x∈obl A'→x∈rbl As∨(w.heap.size≤x∧x<(O.putObj b (.map (arr1.modify N fun e=>{e with val:=v}).toArray clock1)).heap.size):=fun x E=>by
  rcases hnew x E with I|I
  ·exact .inl (hOb x I)
  ·exact .inr ⟨by omega,by rw[hsz3];exact hlt2 x E⟩
 rcases hcase2 with⟨hloc,rfl,hAi⟩|⟨hloc,hi0,harr,hA0⟩
 ·refine⟨As.set N (A',c'),⟨_,⟨_,_,hb3,rfl,hborn,by rw[hborns];exact hnd1⟩,?_,?_,?_,?_,?_⟩,?_⟩
  ·rw[Qak,hloc];simp[hlen]
  ·rw[Qak,hloc];simp[hA]
  ·rw[Q8]
   refine⟨fun E=>?_,Qbx V.2 hAi (Qby A') hnew'⟩
   rcases Qbr hAi b E with I|I
   ·exact V.1 I
   ·exact hbA' I
  ·intro x E
   rw[hsz3]
   rcases Qbr hAi x E with I|I
   ·exact Qy (W x I) hsz2
   ·exact hlt2 x I
  ·intro j p a hp L
   rw[Qak,hloc]at hp
   simp only[Wa]at hp
   rw[X6]at L
   have hil:=(Qc.1 hAi).1
   by_cases hij:N=j
   ·subst hij
    rw[Qbv hloc []]at hp
    simp only[if_true,hil]at L
    injection L with L;subst L
    simp only[if_true,Xg,Wb,Qw]at hp
    subst hp
    refine⟨?_,hO3⟩
    rw[Qp,Wa,hi1]
    simp[hek,hv]
   ·simp only[hij,if_false]at L hp
    simp only[Xg,id_map']at hp
    have hp':m[j]?=some p:=by cases hmj:m[j]?<;>rw[hmj]at hp<;>simp at hp ⊢;exact hp
    refine⟨?_,hOj j p a hp' L (Qhk V.2 L hAi (Ne.symm hij))⟩
    have I:=(he j p a hp' L).1
    rw[←h1,Qp]at I
    rw[Qp,Wa]
    simp only[hij,if_false]
    cases harj:arr1[j]? with
    |none=>rw[harj]at I;cases I
    |some e0=>rw[harj]at I;simpa using I
  ·intro x E
   rcases Qbr hAi x E with I|I
   ·exact .inl I
   ·exact hnew2 x I
 ·have hmod:(arr1.modify N fun e=>{e with val:=v})=arr++[{e1 with val:=v}]:=by
   rw[harr,hi0]
   refine Wx fun j=>?_
   rw[Wa]
   rcases Y7 j arr.length with I|I|I
   ·rw[Q5 I,Q5 I];have hne:arr.length≠j:=by omega
    simp[hne]
   ·subst I;simp
   ·rw[Wk (by simp;omega),Wk (by simp;omega)];rfl
  have hdis: ∀x,x∈obl A'→x∉rbl As:=fun x E hx2=>by
   rcases hnew x E with I|I
   ·rw[hA0]at I;cases I
   ·have:=W x hx2;omega
  have hrbl:rbl (As++[(A',c')])=rbl As++obl A':=by simp[rbl]
  refine⟨As++[(A',c')],⟨_,⟨_,_,hb3,rfl,hborn,by rw[hborns];exact hnd1⟩,?_,?_,?_,?_,?_⟩,?_⟩
  ·rw[Qak,hloc,hmod];simp[hlen]
  ·rw[Qak,hloc];simp[hA]
  ·rw[hrbl,Q8,Qu,Wr]
   exact⟨fun I=>I.elim V.1 hbA',V.2,Qby A',fun x E y hy e=>hdis y hy (e▸E)⟩
  ·intro x E
   rw[hsz3]
   rw[hrbl,Qu]at E
   rcases E with I|I
   ·exact Qy (W x I) hsz2
   ·exact hlt2 x I
  ·intro j p a hp L
   rw[Qak,hloc]at hp
   rcases Y7 j m.length with I|I|I
   ·rw[Q5 I]at hp
    rw[Q5 (by omega)]at L
    refine⟨?_,hOj j p a hp L fun x E hx2=>by rw[hA0]at hx2;cases hx2⟩
    have h3:=(he j p a hp L).1
    rw[←h1,Qp]at h3
    rw[hmod,Qp,Q5 (by omega)]
    exact h3
   ·subst I
    rw[Q1 (Qq _)]at hp
    rw[Q1 (by omega)]at L
    simp[hA]at hp L
    subst hp;subst L
    refine⟨?_,hO3⟩
    rw[hmod,Qp,Q1 (by omega)]
    simp[hlen,hek,hv]
   ·rw[Wk (by simp;omega)]at hp;cases hp
  ·intro x E
   rw[hrbl,Qu]at E
   rcases E with I|I
   ·exact .inl I
   ·exact hnew2 x I
end
section
variable {r:Option Nat}{P:Program}{ops:Array Oper}{Q:Exit→Act→World→Prop}{rest:List Oper}{C:Cx}{l:List (Nat×Value)}{H:List (Nat×Res)}
theorem lk_hd (d:Nat)(v:Value)(l:List (Nat×Value)):lk ((d,v)::l) d=some v:=by simp[lk]
theorem AL.mkmr {d:Nat}{T tt:TypeId}{pos:String}{af:Array Edge}(k:Nat)(κ:Type)(enc:κ→Value)(t:Ty)(e:TypeId)(h: ∀b,AL r P ops Q rest C ((d,.map (some b))::l) ((k,.mr κ enc t e b [] [])::H))(I:Nat.ble (d+1) C.n=true:=by rfl)(L:hk H k=none:=by kernel_rfl):
  AL r P ops Q (⟨some d,.makeMap tt none,T,pos,af,none⟩::rest) C l H:=fun a w N O=>by
 refine Z.valw (w':=w.alloc (.map #[] 0)) (v:=.map (some w.heap.size)) N I (by simp[execOp,Instr.makeMap]) fun a' hf'=>h _ a' _ hf' (O.new L (Ch.alloc w _) (fun x E=>?_) (fun j V=>by cases V) fun F B _ _ _=>?_)
 ·simp[Res.bl,rbl]at E;subst E;simp
 ·exact⟨[],⟨[],0,heap_alloc_new w _,rfl,by simp,by simp⟩,rfl,rfl,by simp[rbl],by simp[rbl],fun i p a hp=>by simp at hp⟩
theorem frzM {X:Act→World→Prop}(k:Nat)(js:List Nat){κ:Type}{enc:κ→Value}{t:Ty}{e:TypeId}{b:Nat}{As:List (Option Addr×Nat)}{m:List (κ×List t.den)}(h: ∀a w,Fr a C.n C.ds l→Hp C ((k,.mp κ enc (.slice t) false b m)::ded js H) w→X a w)(E:hk H k=some (.mr κ enc t e b As m):=by rfl)(N:hng [k] js H=true:=by kernel_rfl): ∀a w,Fr a C.n C.ds l→Hp C H w→X a w:=fun a w hf V=>by
 refine h a w hf (Hp.dd (V.upd (S:=[]) (Ch.refl w) (by simp) (fun x I=>.inl ⟨_,E,by simp[Res.bl]at I ⊢;exact .inl I⟩) (fun j N=>by cases N) fun F B h1 h2 _ _ _=>?_) N)
 obtain⟨es,c1,c2,c3,c4,c5,c6⟩:Mr enc t e w (Fh C H) b As m:=V.hold k _ E
 refine⟨es,c1,c2,fun i p hp=>?_⟩
 have W:=(Qc.1 hp).1
 have O:As[i]?=some As[i]:=Qe (by omega)
 obtain⟨c7,cells,hr,o1,o2⟩:=c6 i p _ hp O
 refine⟨[.slice As[i].1 p.2.length As[i].2],c7,?_⟩
 have hO':Own t e 0 w F As[i].1 As[i].2 p.2:=⟨cells,hr,o1,fun i x W=>Qev (o2 i x W) fun b hb hl=>h1 b hb hl⟩
 refine hO'.rep (fun _ h=>h) fun x I=>h2 x ⟨_,E,by simp only[Res.bl];exact Qb _ (Qaq O I)⟩ fun L=>?_
 simp only[Res.bl,Qi]at L
 subst L
 exact(Q8.1 c4).1 (Qaq O I)
theorem AL.mapp {κ:Type}[DecidableEq κ]{enc:κ→Value}{kt et tt st e:TypeId}{t:Ty}{b d1 d2 d3 d4 n2:Nat}{As:List (Option Addr×Nat)}{m:List (κ×List t.den)}{mx kx y:Operand}{i:TypeInfo}{z:Value}{bytes sz:Nat}{A2:Option Addr}{c2:Nat}{ys:List t.den}
  {T1 T2 T3 T4 T5:TypeId} {p1 p2 p3 p4 p5:String} {f1 f2 f3 f4 f5:Array Edge} (k ky:Nat) (js:List Nat) (K:Ky P kt enc) (key:κ) (hz0: ∀w,(zeroValue et).run P w=.ok (.slice none 0 0) w)
  (hinf:P.info? e=some i∧i.zero=some z∧i.size=sz∧i.bytes=bytes∧z.cells.size=sz) (h63:((mget [] m key).length+ys.length)*bytes≤140737488355328)
  (h: ∀As' O v2 v3 v4,AL r P ops Q rest C ((d4,v4)::(d3,v3)::(d2,v2)::(d1,O)::l) ((k,.mr κ enc t e b As' (mins m key (mget [] m key++ys)))::ded js H))
  (hk1:hk H k=some (.mr κ enc t e b As m):=by rfl) (hk2:hk H ky=some (.own t e A2 c2 ys):=by rfl) (L:Nat.beq k ky=false:=by rfl) (E:ev l mx=some (.map (some b)):=by rfl) (hy:ev l kx=some (enc key):=by rfl) (hyy:ev l y=some (.slice A2 n2 c2):=by rfl) (hn2:n2=ys.length:=by rfl) (hsz:sz=t.size:=by rfl) (hbp:Nat.ble 1 bytes=true:=by rfl)
  (ht:P.underlying tt=some (.map kt et):=by rfl) (hst:P.underlying st=some (.slice e):=by rfl) (hd1:Nat.ble (d1+1) C.n=true:=by rfl) (hd2:Nat.ble (d2+1) C.n=true:=by rfl) (hd3:Nat.ble (d3+1) C.n=true:=by rfl) (hd4:Nat.ble (d4+1) C.n=true:=by rfl)
  (hl: ∀O v2 v3 v4,ev ((d2,v2)::(d1,O)::l) y=ev l y∧ev ((d4,v4)::(d3,v3)::(d2,v2)::(d1,O)::l) mx=ev l mx∧lk ((d3,v3)::(d2,v2)::(d1,O)::l) d1=some O∧lk ((d4,v4)::(d3,v3)::(d2,v2)::(d1,O)::l) d3=some v3:=by exact fun _ _ _ _=>⟨rfl,rfl,rfl,rfl⟩) (hj:hng [k] js H=true:=by kernel_rfl):
  AL r P ops Q (⟨some d1,.mapEntry tt mx kx,T1,p1,f1,none⟩::⟨some d2,.extract (.tmp d1) 0,T2,p2,f2,none⟩::⟨some d3,.call {callee:=.builtin .append,args:=#[.tmp d2,y],argTypes:=#[st,st]},T3,p3,f3,none⟩::⟨some d4,.extract (.tmp d1) 1,T4,p4,f4,none⟩::⟨none,.entryStore tt mx (.tmp d4) (.tmp d3),T5,p5,f5,none⟩::rest) C l H:=fun a w hf hh=>by
 subst hn2;subst hsz
 obtain⟨hi,hz,hsize,hby,hzs⟩:=hinf
 have L:k≠ky:=fun e=>by rw[e,Xv]at L;cases L
 have hM:Mr enc t e w (Fh C H) b As m:=hh.hold k _ hk1
 have hM2:Mr enc t e w (fun x=>Fh C H x∧x<w.heap.size) b As m:=by
  obtain⟨es,c1,c2,c3,c4,c5,c6⟩:=hM
  refine⟨es,c1,c2,c3,c4,c5,fun i p a hp ha=>?_⟩
  obtain⟨c7,cells,hr,o1,o2⟩:=c6 i p a hp ha
  exact⟨c7,cells,hr,o1,fun i x hi=>Qaf t (o2 i x hi)⟩
 obtain⟨G,hR,hG⟩:=rowO hk2 w hh
 have hR2:Row t w (fun x=>Fh C H x∧x<w.heap.size) G A2 c2 ys:=by
  obtain⟨r1,r2,cs,r3,r4,r5⟩:=hR
  exact⟨r1,r2,cs,r3,r4,fun i x hi=>Qaf t (r5 i x hi)⟩
 have I: ∀x,x∈b::rbl As→Bk H k x:=fun x E=>⟨_,hk1,E⟩
 obtain⟨A,c,n,w1,A',c',w2,w3,e1,e2,e3,hch,As',hM3,hnew⟩:=hM2.app (ty:=T3) K ht hz0 hst hi hz hsize hby hzs (Q0 hbp) (fun x E V=>E.1.1 k (I x V)) (fun x E=>E.2) hR2 (fun x hgx V=>L (hh.dis k ky b (I b (Qf ..)) (V▸hG x hgx))) key h63
 refine Z.valw (w':=w1) (v:=.tuple #[.slice A (mget [] m key).length c,goInt n]) hf hd1 ?_ fun a1 hf1=>?_
 ·simp only[execOp,Sem.run_bind,hf.eval E,hf.eval hy,e1,Result.andThen_ok,Sem.run_pure]
 refine Z.val (v:=.slice A (mget [] m key).length c) hf1 hd2 (Z.r_extract (hf1.eval (x:=.tmp d1) (lk_hd _ _ _)) rfl) fun a2 W=>?_
 obtain⟨q1,_,_,_⟩:=hl (.tuple #[.slice A (mget [] m key).length c,goInt n]) (.slice A (mget [] m key).length c) undef undef
 refine Z.valw (w':=w2) (v:=.slice A' ((mget [] m key).length+ys.length) c') W hd3 ?_ fun a3 hf3=>?_
 ·simp only[execOp,resolve,invoke,builtin,Sem.run_bind,Sem.run_pure,Result.andThen_ok,Xt,Qv,W8,W.eval (x:=.tmp d2) (v:=.slice A (mget [] m key).length c) (lk_hd _ _ _),W.eval (q1.trans hyy),e2]
 obtain⟨_,_,q3,_⟩:=hl (.tuple #[.slice A (mget [] m key).length c,goInt n]) (.slice A (mget [] m key).length c) (.slice A' ((mget [] m key).length+ys.length) c') undef
 refine Z.val (v:=goInt n) hf3 hd4 (Z.r_extract (hf3.eval (x:=.tmp d1) q3) rfl) fun a4 N=>?_
 obtain⟨_,q2,_,q4⟩:=hl (.tuple #[.slice A (mget [] m key).length c,goInt n]) (.slice A (mget [] m key).length c) (.slice A' ((mget [] m key).length+ys.length) c') (goInt n)
 refine Z.skipw (w':=w3) N ?_ fun a5 hf5=>h As' _ _ _ _ a5 w3 hf5 (Hp.dd (hh.upd hch I (fun x E=>?_) (fun j hj=>by cases hj) fun F B hF _ _ _ _=>hM3.asF fun x E _=>hF x E.1 E.2) hj)
 ·simp only[execOp,Sem.run_bind,N.eval (q2.trans E),N.eval (x:=.tmp d4) (v:=goInt n) (lk_hd _ _ _),N.eval (x:=.tmp d3) q4,e3,Result.andThen_ok,Sem.run_pure]
 ·simp only[Res.bl]at E
  rcases Qg.1 E with rfl|E
  ·exact .inl (I _ (Qf ..))
  ·rcases hnew x E with h2|h2
   ·exact .inl (I _ (Qb _ h2))
   ·exact .inr h2
end
end Go.A
end
section
namespace Go.A
open Go.RowKit Go.Z Go.Shelf Go.Proofs Go.Lib
def tabF:List Value:=(List.range 256).map fun c=>.int .u8 (firstT c)
def tabA:List Value:=(List.range 32).map fun j=>.int .u8 (if j%2=0 then accLo (j / 2)else accHi (j / 2))
theorem tabs_of {w:World}{E I:Nat}(N:Cells w ⟨E,0,none⟩ tabF)(L:Cells w ⟨I,0,none⟩ tabA):Lib.Utf8Tabs E I w:=by
 refine⟨fun c O=>?_,fun i hi=>⟨?_,?_⟩⟩
 ·have:=N c (.int .u8 (firstT c)) (by simp[tabF,O])
  rw[Addr.add_lit,Ws]at this;exact this
 ·have:=L (2*i) (.int .u8 (accLo i)) (by
   have:2*i<32:=by omega
   simp[tabA,this])
  rw[Addr.add_lit,Ws]at this;exact this
 ·have:=L (2*i+1) (.int .u8 (accHi i)) (by
   have V:2*i+1<32:=by omega
   have W:(2*i+1)%2=1:=by omega
   have h5:(2*i+1) / 2=i:=by omega
   simp[tabA,V,W,h5])
  rw[Addr.add_lit,Ws]at this;exact this
theorem Ct.valid {P:Program}{ρ:Ren}{f I N:Nat}(L:Lays.n196 P ρ)(V:ρ.f 196=f)(W:ρ.g 3=I)(h4:ρ.g 4=N)(s:ByteArray)(hs:s.size≤maxLen)(r:Bool)(E:some (Lib.validD s.data.toList)=some r):
  Ct P f [.string s] [(0,.el none I 0 tabF),(1,.el none N 0 tabA)] [] (fun v H'=>v=.bool r∧H'=[]):=fun w F O=>by
 subst V;subst W;subst h4
 have E:=Wz E
 subst E
 have h1:Cells w ⟨ρ.g 3,0,none⟩ tabF:=(O.hold 0 (.el none (ρ.g 3) 0 tabF) rfl).1
 have h2:Cells w ⟨ρ.g 4,0,none⟩ tabA:=(O.hold 1 (.el none (ρ.g 4) 0 tabA) rfl).1
 refine(Any.utf8_ValidString L s w (by simp only[maxLen]at hs;omega) (tabs_of h1 h2)).mono ?_
 rintro e w' ⟨rfl,hb⟩
 exact⟨_,[],rfl,⟨rfl,rfl⟩,(Ch.of_below hb),fun k r h=>(by cases h),fun k b ⟨_,h,_⟩=>(by cases h),fun k k' b ⟨_,h,_⟩=>(by cases h),fun k r j h=>(by cases h)⟩
end Go.A
end
section
namespace Go.A
open Go.RowKit
abbrev i (x:Int):Value:=.int .i64 x
abbrev h6:=IntKind.i64.has
abbrev ti:=Z.Ty.int .i64
abbrev TI:=Z.Ty.slice ti
theorem si{α:Type}{a b:α}(h:some a=some b):a=b:=Wz h
end Go.A
end
section
namespace Go.Proofs.YtlhiofnikdppeaaGreatDoor
open Go.RowKit Go.Shelf Go.Lib
def Tryz.laysValid_ren:Go.Shelf.Ren:=⟨fun|196=>141|259=>169|n=>n,fun|9=>9|4=>4|3=>3|5=>5|12=>12|119=>211|0=>0|46=>120|139=>214|138=>213|53=>152|n=>n,fun|3=>0|4=>1|n=>n⟩
theorem Tryz.laysValid:Go.Proofs.Lays.n196 Tryz.prog Tryz.laysValid_ren where
 mixed:=by kernel_rfl
 f196:=Tryz.func141.trans (congrArg some (by kernel_rfl))
 f259:=Tryz.func169.trans (congrArg some (by kernel_rfl))
 t0:=Tryz.underlying0
 a0:=Tryz.isAgg0
 z0:=Tryz.sizeOf0
 v0:=Tryz.zeroValue0
 t3:=Tryz.underlying3
 a3:=Tryz.isAgg3
 z3:=Tryz.sizeOf3
 v3:=Tryz.zeroValue3
 t4:=Tryz.underlying4
 a4:=Tryz.isAgg4
 z4:=Tryz.sizeOf4
 v4:=Tryz.zeroValue4
 t5:=Tryz.underlying5
 a5:=Tryz.isAgg5
 z5:=Tryz.sizeOf5
 v5:=Tryz.zeroValue5
 t9:=Tryz.underlying9
 a9:=Tryz.isAgg9
 z9:=Tryz.sizeOf9
 v9:=Tryz.zeroValue9
 t12:=Tryz.underlying12
 a12:=Tryz.isAgg12
 z12:=Tryz.sizeOf12
 v12:=Tryz.zeroValue12
 t46:=Tryz.underlying120
 a46:=Tryz.isAgg120
 z46:=Tryz.sizeOf120
 v46:=Tryz.zeroValue120
 t53:=Tryz.underlying152
 a53:=Tryz.isAgg152
 z53:=Tryz.sizeOf152
 v53:=Tryz.zeroValue152
 t119:=Tryz.underlying211
 a119:=Tryz.isAgg211
 z119:=Tryz.sizeOf211
 t138:=Tryz.underlying213
 a138:=Tryz.isAgg213
 z138:=Tryz.sizeOf213
 v138:=Tryz.zeroValue213
 t139:=Tryz.underlying214
 a139:=Tryz.isAgg214
 z139:=Tryz.sizeOf214
 v139:=Tryz.zeroValue214
 g3:=by kernel_rfl
 g4:=by kernel_rfl
def F.aJ (h:ByteArray):Option Bool:=some (Lib.validD h.data.toList)
theorem o_m (h:ByteArray)(h1:h.size≤maxLen)(r:Bool)(k:F.aJ h=some r):
  A.Ct Tryz.prog 141 [.string h] [(0,.el none 0 0 A.tabF),(1,.el none 1 0 A.tabA)] [] (fun v H'=>v=.bool r∧H'=[]):=
 A.Ct.valid Tryz.laysValid rfl rfl rfl h h1 r k
end Go.Proofs.YtlhiofnikdppeaaGreatDoor
end
section
namespace Go.A
open Go.RowKit Go.Z
def mb:Nat→Nat→List Bool
 |0,_=>[]
 |n+1,m=>Nat.beq (m%2) 1::mb n (m / 2)
def nxs:Nat→Option Code→List Kx→Option (Option Code×List Kx)
 |0,c,K=>some (c,K)
 |n+1,some (.seq x y),K=>nxs n (some x) (.c y::K)
 |n+1,some (.block id c),K=>nxs n (some c) (.b id::K)
 |n+1,some .skip,K=>nxs n none K
 |n+1,some (.label _),K=>nxs n none K
 |n+1,some (.exit id),K=>match popx id K with
  |some K'=>nxs n none K'
  |none=>none
 |n+1,none,.c y::K=>nxs n (some y) K
 |n+1,none,.b _::K=>nxs n none K
 |n+1,none,.s::K=>nxs n none K
 |_+1,_,_=>none
section
variable {r:Option Nat}{P:Program}{Y:Exit→Act→World→Prop}{C:Cx}{l:List (Nat×Value)}{H:List (Nat×Res)}{K K':List Kx}{c c':Code}
def GX (r:Option Nat)(P:Program)(Y:Exit→Act→World→Prop)(C:Cx)(l:List (Nat×Value))(H:List (Nat×Res)):Option Code→List Kx→Prop
 |some c,K=>AX r P Y K c C l H
 |none,K=>AE r P Y K .normal C l H
theorem o_aR: ∀{n:Nat} {c c':Option Code} {K K':List Kx},nxs n c K=some (c',K')→GX r P Y C l H c' K'→GX r P Y C l H c K:=by
 intro n;induction n with
 |zero=>intro c c' K K' e h;injection e with e;injection e with e1 e2;subst e1;subst e2;exact h
 |succ n E=>
  intro c c' K K' e h
  unfold nxs at e
  split at e
  ·injection e with e;injection e with e1 e2;subst e1;subst e2;exact h
  ·rename_i e0;cases e0;exact AX.seq (E e h)
  ·rename_i e0;cases e0;exact AX.block (E e h)
  ·rename_i e0;cases e0;exact AX.skip (E e h)
  ·rename_i e0;cases e0;exact AX.label (E e h)
  ·rename_i e0
   cases e0
   split at e
   ·rename_i hp;exact AX.exit hp (E e h)
   ·cases e
  ·rename_i e0;cases e0;exact AE.c (E e h)
  ·rename_i e0;cases e0;exact AE.b (E e h)
  ·rename_i e0;cases e0;exact AE.s (E e h)
  ·cases e
theorem xx (n:Nat)(h:AX r P Y K' c' C l H)(e:nxs n (some c) K=some (some c',K'):=by rfl):AX r P Y K c C l H:=o_aR (c:=some c) (c':=some c') e h
theorem xe (n:Nat)(h:AE r P Y K' .normal C l H)(e:nxs n (some c) K=some (none,K'):=by rfl):AX r P Y K c C l H:=o_aR (c:=some c) (c':=none) e h
theorem ex (n:Nat)(h:AX r P Y K' c' C l H)(e:nxs n none K=some (some c',K'):=by rfl):AE r P Y K .normal C l H:=o_aR (c:=none) (c':=some c') e h
theorem ee (n:Nat)(h:AE r P Y K' .normal C l H)(e:nxs n none K=some (none,K'):=by rfl):AE r P Y K .normal C l H:=o_aR (c:=none) (c':=none) e h
theorem xl (n:Nat){id:Nat}{lo:List Oper}(h:AL r P lo.toArray (kont r P Y K') lo C l H)(e:nxs n (some c) K=some (some (.region id lo.toArray false),K'):=by rfl):AX r P Y K c C l H:=xx n (AX.reg h) e
theorem el (n:Nat){id:Nat}{lo:List Oper}(h:AL r P lo.toArray (kont r P Y K') lo C l H)(e:nxs n none K=some (some (.region id lo.toArray false),K'):=by rfl):AE r P Y K .normal C l H:=ex n (AX.reg h) e
theorem dl (n:Nat){ops:Array Oper}{id:Nat}{lo:List Oper}(h:AL r P lo.toArray (kont r P Y K') lo C l H)(e:nxs n none K=some (some (.region id lo.toArray false),K'):=by rfl):AL r P ops (kont r P Y K) [] C l H:=AL.done (el n h e)
theorem dx (n:Nat){ops:Array Oper}(h:AX r P Y K' c' C l H)(e:nxs n none K=some (some c',K'):=by rfl):AL r P ops (kont r P Y K) [] C l H:=AL.done (ex n h e)
theorem de (n:Nat){ops:Array Oper}(h:AE r P Y K' .normal C l H)(e:nxs n none K=some (none,K'):=by rfl):AL r P ops (kont r P Y K) [] C l H:=AL.done (ee n h e)
end
section
variable {r:Option Nat}{P:Program}{ops:Array Oper}{Q:Exit→Act→World→Prop}{lst rest:List Oper}{C:Cx}{l:List (Nat×Value)}{H:List (Nat×Res)}{T:TypeId}{pos:String}{af:Array Edge}
theorem q0 (bs es:List Nat)(hs:List Hint)(nl:List (Nat×Value))(h:AL r P ops Q (lst.drop hs.length) C (cat nl l) H)
  (hq:((qs P ⟨knb H bs,kne H es⟩ C.n ops hs lst (Z.q0 l)).bind (qfin l (nl.map Prod.fst)))=some ([],nl):=by kernel_rfl)
  (E:(qs P ⟨knb H bs,kne H es⟩ C.n ops hs lst (Z.q0 l)).map (fun s=>s.q.map Prod.fst)=(qs P ⟨knb H bs,kne H es⟩ C.n ops hs lst (Z.q0 l)).map (fun s=>s.q.map Prod.snd):=by kernel_rfl):AL r P ops Q lst C l H:=
 AL.q bs es hs (nl.map Prod.fst) [] nl trivial h hq E
theorem q (bs es:List Nat)(hs:List Hint)(cs:List Prop)(nl:List (Nat×Value))(E:conj cs)(h:AL r P ops Q (lst.drop hs.length) C (cat nl l) H)
  (hq:((qs P ⟨knb H bs,kne H es⟩ C.n ops hs lst (Z.q0 l)).bind (qfin l (nl.map Prod.fst)))=some (cs,nl):=by kernel_rfl)
  (I:(qs P ⟨knb H bs,kne H es⟩ C.n ops hs lst (Z.q0 l)).map (fun s=>s.q.map Prod.fst)=(qs P ⟨knb H bs,kne H es⟩ C.n ops hs lst (Z.q0 l)).map (fun s=>s.q.map Prod.snd):=by kernel_rfl):AL r P ops Q lst C l H:=
 AL.q bs es hs (nl.map Prod.fst) cs nl E h hq I
theorem sw (k:Nat)(js:List Nat)(new:List Value){t bt:TypeId}{x y:Operand}{g o m:Nat}{cs:List Value}{v:Value}(h:AL r P ops Q rest C l ((k,.blk g bt new)::ded js H))
  (E:hk H k=some (.blk g bt cs):=by rfl) (I:ev l x=some (.pointer (some ⟨g,o,none⟩)):=by rfl) (L:ev l y=some v:=by rfl) (N:szB P t=some m:=by kernel_rfl)
  (O:v.cells=new.toArray:=by rfl) (V:new.length=m:=by rfl) (W:Nat.ble (o+m) cs.length=true:=by rfl) (h1:new.all (fun u=>u.oneCell')=true:=by rfl) (hc:cs.take o++new++cs.drop (o+m)=new:=by rfl) (hj:hng [k] js H=true:=by kernel_rfl):
  AL r P ops Q (⟨none,.store t x y,T,pos,af,none⟩::rest) C l H:=AL.store k js h E I L N O V W h1 hc hj
end
section
variable {r:Option Nat}{P:Program}{Y:Exit→Act→World→Prop}{K:List Kx}{C:Cx}{l:List (Nat×Value)}{H:List (Nat×Res)}
theorem j {l':List (Nat×Value)}{H':List (Nat×Res)}{ks hs:List Nat}{J:List (Nat×Value)→List (Nat×Res)→Prop}{nl:List (Nat×Value)}{nh:List (Nat×Res)}(E:J nl nh)(I:kp l ((cat nl (kp l' ks)).map (·.1))=cat nl (kp l' ks):=by kernel_rfl)(L:kpH H (nh.map (·.1)++hs) (nh.map (·.1)++hs)=hcat nh (kpH H' hs hs):=by kernel_rfl):
  AE r P Y (.m (St C l' H' ks hs J)::K) .normal C l H:=AE.j (nh.map (·.1)++hs) nl nh E I L
theorem lp_ (ks hs:List Nat)(J:Nat→List (Nat×Value)→List (Nat×Res)→Prop){nl:List (Nat×Value)}{nh:List (Nat×Res)}{x:Code}(E:J FU nl nh)
  (h: ∀f nl nh,J f nl nh→AX r P Y (.m (St C l H ks hs fun nl nh=>∃f',f'<f∧J f' nl nh)::K) x C (cat nl (kp l ks)) (hcat nh (kpH H hs hs)))
  (I:kp l ((cat nl (kp l ks)).map (·.1))=cat nl (kp l ks):=by kernel_rfl) (L:kpH H (nh.map (·.1)++hs) (nh.map (·.1)++hs)=hcat nh (kpH H hs hs):=by kernel_rfl):AX r P Y K (.loop x) C l H:=
 AX.loop ks hs (nh.map (·.1)++hs) J FU nl nh E h I L
end
section
variable {r:Option Nat}{P:Program}{ops:Array Oper}{Q:Exit→Act→World→Prop}{Hq:List (Nat×Res)}{m g:Nat}{li:List Bool}{C:Cx}{l:List (Nat×Value)}{H:List (Nat×Res)}
theorem hq (I:Pq Q)(gs qs bs es:List Nat)(li':List Bool)(f:Nat)(is:List (Nat×Hint))(nl:List (Nat×Value))(h:AH r P ops Q (kpH H qs qs) m f li' C (cat nl l) H)
  (L:g=f+is.length:=by rfl) (N:is.all (fun p=>bon ops m p.1)=true:=by kernel_rfl) (E:cloB ops li.toArray=true:=by kernel_rfl) (O:(Region.noSelect ops&&Qau ops)=true:=by kernel_rfl)
  (hq:((dqs P ⟨knb (kpH H qs qs) bs,kne (kpH H qs qs) es⟩ C.n ops is li.toArray (Z.q0 l)).bind fun x=>(qfin l (nl.map Prod.fst) x.2).map fun y=>(x.1.toList,y))=some (li',[],nl):=by kernel_rfl)
  (V:(dqs P ⟨knb (kpH H qs qs) bs,kne (kpH H qs qs) es⟩ C.n ops is li.toArray (Z.q0 l)).map (fun s=>s.2.q.map Prod.fst)=(dqs P ⟨knb (kpH H qs qs) bs,kne (kpH H qs qs) es⟩ C.n ops is li.toArray (Z.q0 l)).map (fun s=>s.2.q.map Prod.snd):=by kernel_rfl)
  (e:kpH (kpH H qs qs) gs gs=Hq:=by kernel_rfl):AH r P ops Q Hq m g li C l H:=AH.q I gs qs bs es li' f is (nl.map Prod.fst) [] nl trivial h L N E O hq V e
end
section
variable {r:Option Nat}{P:Program}{l:List (Nat×Value)}{H:List (Nat×Res)}{fn:Func}{K:List Kx}{w0:World}{S:List Nat}{F:Nat→Prop}{n:Nat}{R:Value→List (Nat×Res)→Prop}
theorem rt1 (ps:List (Nat×Nat)){t:Nat}{v:Value}(E:R v (A.ren H ps))(I:fn.results=#[.tmp t]:=by rfl)(L:lk l t=some v:=by rfl)(N:nod (ps.map (·.1))=true:=by rfl)(O:nod (ps.map (·.2))=true:=by rfl):
  AX r P (bodyPost P fn fun e w'=>∃v H',e=.returned v∧R v H'∧Hp ⟨0,[],w0,S,F⟩ H' w') K .ret ⟨n,[],w0,S,F⟩ l H:=AX.ret ps v (fun a w h V=>Z.resv1 I (Z.rv_t h L)) E N O
theorem rt2 (ps:List (Nat×Nat)){t u:Nat}{v E:Value}(I:R (.tuple #[v,E]) (A.ren H ps))(L:fn.results=#[.tmp t,.tmp u]:=by rfl)(N:lk l t=some v:=by rfl)(O:lk l u=some E:=by rfl)(V:nod (ps.map (·.1))=true:=by rfl)(W:nod (ps.map (·.2))=true:=by rfl):
  AX r P (bodyPost P fn fun e w'=>∃v H',e=.returned v∧R v H'∧Hp ⟨0,[],w0,S,F⟩ H' w') K .ret ⟨n,[],w0,S,F⟩ l H:=AX.ret ps (.tuple #[v,E]) (fun a w h hh=>Z.resv2 L (Z.rv_t h N) (Z.rv_t h O)) I V W
end
theorem pb {r:Option Nat}{P:Program}{fn:Func}{R:Ending→World→Prop}{K:List Kx}:Pq (kont r P (bodyPost P fn R) K):=pk_kont (Z.Pq.body _ _ _)
section
variable {P:Program}{C:Cx}{l:List (Nat×Value)}{H:List (Nat×Res)}
theorem cutp {X:Act→World→Prop}(k kn:Nat){t:Ty}{A:Option Addr}{c:Nat}{xs:List t.den}(v:Nat)(V:v≤xs.length)(h: ∀a w,Fr a C.n C.ds l→Hp C ((kn,.sh (.slice t) [.slice A (xs.take v).length c] (xs.take v))::H) w→X a w)
  (E:hk H k=some (.sh (.slice t) [.slice A xs.length c] xs):=by rfl) (W:hk H kn=none:=by kernel_rfl): ∀a w,Fr a C.n C.ds l→Hp C H w→X a w:=fun a w hf O=>by
 have hr:(Ty.slice t).rep w (Fh C H) [.slice A xs.length c] xs:=O.hold k _ E
 have I:(xs.take v).length=v:=by rw[Qz];omega
 have L:=rep_take hr V
 have N:(Ty.slice t).rep w (Fh C H) [.slice A (xs.take v).length c] (xs.take v):=by rw[I];exact L
 exact h a w hf (O.add W rfl (fun j hj=>by cases hj) (Qaf _ N))
theorem r_cuth (k:Nat){a:Act}{w:World}{t:Ty}{tt e:TypeId}{x N:Operand}{A:Option Addr}{c:Nat}{xs:List t.den}{V:IntKind}{q:Int}{v:Nat}{d:Option Tmp}{T:TypeId}{pos:String}{af:Array Edge}{gd:Option (Nat×Bool)}(O:Fr a C.n C.ds l)(W:Hp C H w)(hq:q=(v:Int))(h2:v≤xs.length)
  (E:hk H k=some (.sh (.slice t) [.slice A xs.length c] xs):=by rfl) (hx:ev l x=some (.slice A xs.length c):=by rfl) (I:ev l N=some (.int V q):=by rfl) (hS:szB P e=some t.size:=by kernel_rfl)
  (ht:P.underlying tt=some (.slice e):=by rfl):(execOp a.eval ⟨d,.slice tt x none (some N) none,T,pos,af,gd⟩).run P w=.ok (.value (.slice A (xs.take v).length c)) w:=by
 have hr:(Ty.slice t).rep w (Fh C H) [.slice A xs.length c] xs:=W.hold k _ E
 have hlen:=rep_slice_len hr
 have L:(xs.take v).length=v:=by rw[Qz];omega
 rw[L]
 exact Qee ht (Qal hS) (O.eval hx) (O.eval I) hq (by omega)
end
end Go.A
end
section
namespace Go.Z
open Go.RowKit
section
variable {κ:Type}[DecidableEq κ]{α:Type}
def mdel:List (κ×α)→κ→List (κ×α)
 | [],_=>[]
 |(a,y)::r,k=>if k=a then r else(a,y)::mdel r k
theorem Qim {β γ:Type}(f:β→γ): ∀(l:List β) (i:Nat),(l.eraseIdx i).map f=(l.map f).eraseIdx i
 | [],_=>rfl
 |_::_,0=>rfl
 |a::l,i+1=>by simp only[List.eraseIdx_cons_succ,Qv,Qim f l i]
theorem mdel_loc {m:List (κ×α)}{k:κ}:mdel m k=match loc k (m.map Prod.fst)with
  |some i=>m.eraseIdx i
  |none=>m:=by
 induction m with
 |nil=>simp[mdel,loc]
 |cons p r E=>
  obtain⟨a,y⟩:=p
  simp only[Qv,loc,mdel]
  by_cases hk:k=a
  ·subst hk;simp
  ·rw[if_neg hk,if_neg hk,E]
   cases loc k (r.map Prod.fst)<;>simp
theorem mdel_ne (z:α)(m:List (κ×α))(k j:κ)(h:j≠k):mget z (mdel m k) j=mget z m j∧mhas (mdel m k) j=mhas m j:=by
 induction m with
 |nil=>exact⟨rfl,rfl⟩
 |cons p r E=>
  obtain⟨a,y⟩:=p
  unfold mdel
  by_cases hk:k=a
  ·subst hk;simp[mget,mhas,h]
  ·rw[if_neg hk];simp only[mget,mhas,E.1,E.2,and_self]
theorem mdel_keys (m:List (κ×α))(k x:κ)(h:x∈(mdel m k).map Prod.fst):x∈m.map Prod.fst:=by
 induction m with
 |nil=>exact h
 |cons p r E=>
  obtain⟨a,y⟩:=p
  unfold mdel at h
  by_cases hk:k=a
  ·rw[if_pos hk]at h;exact Qb _ h
  ·rw[if_neg hk,Qv]at h
   rcases Qg.1 h with h|h
   ·rw[h];exact Qf ..
   ·exact Qb _ (E h)
theorem mdel_nodup {m:List (κ×α)}(h:(m.map Prod.fst).Nodup)(k:κ):((mdel m k).map Prod.fst).Nodup∧mhas (mdel m k) k=false:=by
 induction m with
 |nil=>exact⟨Xq,rfl⟩
 |cons p r E=>
  obtain⟨a,y⟩:=p
  rw[Qv,Q8]at h
  unfold mdel
  by_cases hk:k=a
  ·subst hk;rw[if_pos rfl]
   refine⟨h.2,?_⟩
   cases I:mhas r k with
   |false=>rfl
   |true=>exact absurd ((mhas_iff _ _).1 I) h.1
  ·rw[if_neg hk,Qv,Q8]
   refine⟨⟨fun L=>h.1 (mdel_keys r k a L),(E h.2).1⟩,?_⟩
   simp only[mhas,if_neg hk];exact(E h.2).2
end
section
variable {r:Option Nat}{P:Program}{ops:Array Oper}{Q:Exit→Act→World→Prop}{a:Act}{w:World}{rest:List Oper}{n:Nat}{ds:List Deferred}{l:List (Nat×Value)}{d:Nat}{T:TypeId}{pos:String}{af:Array Edge}
variable {κ:Type}[DecidableEq κ]{enc:κ→Value}{kt et tt kt2:TypeId}{t:Ty}{agg:Bool}{F:Nat→Prop}{b:Nat}{m:List (κ×t.den)}
theorem valw0 {op:Op}{v:Value}{w':World}(E:Fr a n ds l)(I:(execOp a.eval ⟨none,op,T,pos,af,none⟩).run P w=.ok (.value v) w')
  (h: ∀a',Fr a' n ds l→WL r P ops Q rest a' w'):WL r P ops Q (⟨none,op,T,pos,af,none⟩::rest) a w:=
 stepw rfl I (fun _ h=>by cases h) fun _ L=>L _ _ (h _ (E.put_none v))
theorem run_mapDelete {ty:TypeId}(K:Ky P kt enc)(ht:P.underlying tt=some (.map kt et))(hm:Mt enc t agg w F b m)(k:κ)(hF: ∀b',F b'→b'≠b):
  ∃w',(Builtin.delete_ #[tt,kt2] ty #[.map (some b),enc k]).run P w=.ok (.tuple #[]) w'∧Ch [b] w w'∧w'.heap.size=w.heap.size∧Mt enc t agg w' F b (mdel m k):=by
 have I:=hm.lt
 obtain⟨es,⟨arr,clock,W,N,h4,h5⟩,O,V⟩:=hm
 have hk:=Qij N O V
 have hfind:=Qam K k w arr (m.map Prod.fst) hk
 have hget:(getObj b).run P w=.ok (.map arr.toArray clock) w:=by simp[getObj,Sem.run,W]
 have hlen:arr.length=m.length:=by rw[←O,←N,Qr]
 have step: ∀o,∀cs' x,t.rep w F cs' x→t.rep (w.putObj b o) F cs' x:=fun o cs' x h=>rep_to h (Ch.putObj w b o) fun b' hb' _=>⟨by simp only[Qi];exact hF b' hb',hb'⟩
 cases hloc:loc k (m.map Prod.fst)with
 |none=>
  rw[hloc]at hfind
  refine⟨w.putObj b (.map arr.toArray clock),?_,Ch.putObj w b _,by simp,?_⟩
  ·simp only[Builtin.delete_,Wy,W9,Wc,Sem.run_bind,run_underlying ht,Result.andThen_ok,hget,K.check,hfind,X8,MapC.set W,Sem.run_pure]
  ·rw[mdel_loc,hloc]
   exact⟨es,⟨arr,clock,World.putObj_heap_same (o:=.map arr.toArray clock) I,N,h4,h5⟩,O,fun i p hp=>by obtain⟨cs,h6,L⟩:=V i p hp;exact⟨cs,h6,step _ _ _ L⟩⟩
 |some i=>
  rw[hloc]at hfind
  have hil:i<m.length:=by
   have: ∀(ks:List κ) i,loc k ks=some i→i<ks.length:=by
    intro ks
    induction ks with
    |nil=>intro i h;simp[loc]at h
    |cons x r ih=>
     intro i h
     simp only[loc]at h
     by_cases hx:k=x
     ·rw[if_pos hx]at h;injection h with h;subst h;simp
     ·rw[if_neg hx,X1]at h
      obtain⟨j,hj,rfl⟩:=h
      have:=ih j hj;simp;omega
   have:=this _ _ hloc;rwa[Qr]at this
  obtain⟨e,he⟩: ∃e,arr[i]?=some e:=⟨_,Qe (by omega)⟩
  have hera:(arr.toArray.eraseIdxIfInBounds i)=(arr.eraseIdx i).toArray:=by
   rw[Array.eraseIdxIfInBounds,dif_pos (by simp;omega)];simp
  refine⟨w.putObj b (.map (arr.toArray.eraseIdxIfInBounds i) clock),?_,Ch.putObj w b _,by simp,?_⟩
  ·simp only[Builtin.delete_,Wy,W9,Wc,Sem.run_bind,run_underlying ht,Result.andThen_ok,hget,K.check,hfind,Qa,he,Wb,MapC.set W,Sem.run_pure]
  ·rw[mdel_loc,hloc]
   refine⟨es.eraseIdx i,⟨arr.eraseIdx i,clock,?_,?_,fun e he=>h4 e (List.mem_of_mem_eraseIdx he),?_⟩,?_,fun j p hp=>?_⟩
   ·rw[←hera];exact World.putObj_heap_same (o:=.map (arr.toArray.eraseIdxIfInBounds i) clock) I
   ·rw[←N,Qim]
   ·rw[Qim];exact h5.sublist (List.eraseIdx_sublist ..)
   ·rw[List.length_eraseIdx,List.length_eraseIdx,O]
   ·rw[List.getElem?_eraseIdx]at hp
    rw[List.getElem?_eraseIdx]
    split at hp
    ·rename_i E
     obtain⟨cs,h6,L⟩:=V j p hp
     exact⟨cs,by rw[if_pos E];exact h6,step _ _ _ L⟩
    ·rename_i E
     obtain⟨cs,h6,L⟩:=V _ p hp
     exact⟨cs,by rw[if_neg E];exact h6,step _ _ _ L⟩
end
end Go.Z
namespace Go.A
open Go.RowKit Go.Z
section
variable {r:Option Nat}{P:Program}{ops:Array Oper}{Q:Exit→Act→World→Prop}{rest lst:List Oper}{C:Cx}{l:List (Nat×Value)}{H:List (Nat×Res)}{d:Nat}{op:Op}{T:TypeId}{pos:String}{af:Array Edge}
variable {κ:Type}[DecidableEq κ]{enc:κ→Value}{kt et tt kt2:TypeId}{t:Ty}{agg:Bool}{b:Nat}{m:List (κ×t.den)}
theorem AL.mdl (k:Nat)(js:List Nat){x y:Operand}(K:Ky P kt enc)(key:κ)(h:AL r P ops Q rest C l ((k,.mp κ enc t agg b (mdel m key))::ded js H))
  (E:hk H k=some (.mp κ enc t agg b m):=by rfl) (hx:ev l x=some (.map (some b)):=by rfl) (hy:ev l y=some (enc key):=by rfl) (ht:P.underlying tt=some (.map kt et):=by rfl) (I:hng [k] js H=true:=by kernel_rfl):
  AL r P ops Q (⟨none,.call {callee:=.builtin .delete,args:=#[x,y],argTypes:=#[tt,kt2]},T,pos,af,none⟩::rest) C l H:=fun a w L W=>by
 have hm:Mt enc t agg w (Fh C H) b m:=W.hold k _ E
 have hm':Mt enc t agg w (fun b=>Fh C H b∧b<w.heap.size) b m:=by
  obtain⟨es,N,O,h3⟩:=hm
  refine⟨es,N,O,fun i p hp=>?_⟩
  obtain⟨cs,V,h5⟩:=h3 i p hp
  exact⟨cs,V,Qaf t h5⟩
 obtain⟨w',N,O,h3,V⟩:=run_mapDelete (kt2:=kt2) (ty:=T) K ht hm' key (fun b' hb' e=>hb'.1.1 k ⟨_,E,by rw[e];simp[Res.bl]⟩)
 refine Z.valw0 (w':=w') (v:=.tuple #[]) L ?_ fun a' hf'=>h a' w' hf' (Hp.dd (W.upd O (fun b' hb'=>⟨_,E,hb'⟩) (fun b' hb'=>.inl ⟨_,E,hb'⟩) (fun j I=>by cases I) fun F B hF _ _ _ _=>?_) I)
 ·simp only[execOp,resolve,invoke,builtin,Sem.run_bind,Sem.run_pure,Result.andThen_ok,Xt,Qv,W8,L.eval hx,L.eval hy,N]
 ·exact V.to (Ch.refl w') (by simp) fun b' hb' _=>⟨by simp,hF b' hb'.1 hb'.2⟩
end
section
variable {r:Option Nat}{P:Program}{ops:Array Oper}{Q:Exit→Act→World→Prop}{rest lst:List Oper}{C:Cx}{l:List (Nat×Value)}{H:List (Nat×Res)}{d:Nat}{op:Op}{T T2:TypeId}{pos pos2:String}{af af2:Array Edge}
end
end Go.A
end
section
namespace Go.Z
open Go.RowKit
section
variable {r:Option Nat}{P:Program}{ops:Array Oper}{Q:Exit→Act→World→Prop}{a:Act}{w:World}{rest:List Oper}{n:Nat}{ds:List Deferred}{l:List (Nat×Value)}{d:Nat}{T:TypeId}{pos:String}{af:Array Edge}
end
end Go.Z
namespace Go.A
open Go.RowKit Go.Z
section
variable {P:Program}{a:Act}{w:World}{d:Option Tmp}{T tt ty e:TypeId}{pos:String}{af:Array Edge}{n:Nat}{ds:List Deferred}{l:List (Nat×Value)}{x y:Operand}{A:Option Addr}
end
section
variable {C:Cx}{l:List (Nat×Value)}{H:List (Nat×Res)}{X:Act→World→Prop}
end
section
variable {r:Option Nat}{P:Program}{ops:Array Oper}{Q:Exit→Act→World→Prop}{rest lst:List Oper}{C:Cx}{l:List (Nat×Value)}{H:List (Nat×Res)}{d:Nat}{T:TypeId}{pos:String}{af:Array Edge}
end
section
variable {r:Option Nat}{P:Program}{ops:Array Oper}{Q:Exit→Act→World→Prop}{rest lst:List Oper}{C:Cx}{l:List (Nat×Value)}{H:List (Nat×Res)}{d:Nat}{T:TypeId}{pos:String}{af:Array Edge}
end
end Go.A
end
section
set_option linter.tactic.unusedName false
namespace Go.Dr
open Go
def R {α:Type}(n:Nat):Result α→Prop
 | .ok _ w=>n≤w.drawn
 | .halt _ w=>n≤w.drawn
theorem ask {α:Type}: ∀(a:Ask α) (w:World),w.drawn≤(w.ask a).2.drawn
 | .done a,w=>Qq _
 | .ask what range k,w=>by
  unfold World.ask
  dsimp only
  split
  ·exact ask _ w
  ·exact Wl (Nat.le_succ _) (ask _ {w with drawn:=w.drawn+1})
theorem sys (w:World)(c:Sys):w.drawn≤(w.sys c).2.drawn:=by
 unfold World.sys
 have h:=ask (Kernel.perform c w.os) w
 split
 ·exact Qq _
 ·rename_i e;rw[e]at h;exact h
def EP {ε α:Type}(P:α→Prop)(x:Except ε α):Prop:=∀a,x=.ok a→P a
theorem eb {ε α β:Type}{P:β→Prop}{x:Except ε α}{f:α→Except ε β}(h: ∀a,EP P (f a)):EP P (x >>= f):=fun b E=>by
 cases x with
 |error e=>cases E
 |ok a=>exact h a b E
theorem et {α:Type}{P:α→Prop}{e:String}:EP P (MonadExcept.throw e:Except String α):=fun _ h=>by cases h
theorem ep {ε α:Type}{P:α→Prop}{a:α}(h:P a):EP P (pure a:Except ε α):=fun b E=>by injection E with E;subst E;exact h
theorem vs0 (w:World)(p:Program)(at_:Addr)(u:TypeId)(a:Addr)(v:Value)(b:Bool):EP (fun r=>r.1.drawn=w.drawn) (w.viewStore p at_ u a v b):=by
 unfold World.viewStore
 dsimp only
 repeat' first|exact et|exact ep rfl|(refine eb fun _=>?_)|split|dsimp only
theorem vs {w w':World}{p:Program}{at_:Addr}{u:TypeId}{a:Addr}{v:Value}{b:Bool}{l:List Addr}(h:w.viewStore p at_ u a v b=.ok (w',l)):w'.drawn=w.drawn:=vs0 w p at_ u a v b _ h
theorem fs {w w':World}{p:Program}{a:Addr}{v:Value}{b:Bool}{l:List Addr}(h:w.farStore p a v b=.ok (w',l)):w'.drawn=w.drawn:=by
 unfold World.farStore at h
 split at h
 ·split at h
  ·rename_i e;injection h with h;subst h;exact vs e
  ·cases h
 ·cases h
theorem run {α:Type}(p:Program)(n:Nat): ∀(s:Sem α) (w:World),n≤w.drawn→R n (s.run p w):=by
 intro s
 induction s with
 |pure a=>intro w h;exact h
 |load m a k E=>
  intro w h;unfold Sem.run
  split
  ·exact E _ w h
  ·(split)
   ·exact E _ w h
   ·exact h
 |store m a v k E=>
  intro w h
  cases v
  all_goals
   unfold Sem.run
   first|exact h|skip
  all_goals
   split
   ·(split)
    ·exact h
    ·exact E _ h
   ·(split)
    ·rename_i e;exact E _ (by rw[fs e];exact h)
    ·exact h
 |choose q k E=>
  intro w h;unfold Sem.run
  split
  ·exact E _ w h
  ·exact E _ _ (Nat.le_succ_of_le h)
 |sys c k E=>intro w h;unfold Sem.run;exact E _ _ (Wl h (sys w c))
 |new o k E=>intro w h;unfold Sem.run;exact E _ _ h
 |shape r k E=>intro w h;unfold Sem.run;exact E _ _ h
 |freeze a n k E=>intro w h;unfold Sem.run;refine E _ ?_;unfold World.freeze;((repeat' split)<;>(exact h))
 |frozen a k E=>intro w h;unfold Sem.run;exact E _ _ h
 |getObj r k E=>intro w h;unfold Sem.run;((repeat' split)<;>(first|exact h|exact E _ _ h))
 |setObj r o k E=>intro w h;unfold Sem.run;((repeat' split)<;>(first|exact h|exact E _ h))
 |program k E=>intro w h;unfold Sem.run;exact E _ _ h
 |mark m k E=>intro w h;unfold Sem.run;exact E _ h
 |halt x=>intro w h;exact h
theorem runT {α:Type}(p:Program)(n:Nat)(s:Sem α)(w:World)(es:Array Event)(h:n≤w.drawn):R n (s.runT p w es).1:=by
 induction s generalizing w es with
 |pure a=>exact h
 |halt x=>exact h
 |choose q k E=>
  unfold Sem.runT
  split
  ·exact E _ w _ h
  ·exact E _ _ _ (Nat.le_succ_of_le h)
 |sys c k E=>unfold Sem.runT;exact E _ _ _ (Wl h (sys w c))
 |freeze a n k E=>unfold Sem.runT;refine E _ _ ?_;unfold World.freeze;((repeat' split)<;>(exact h))
 |store m a v k E=>
  cases v
  all_goals
   unfold Sem.runT
   first|exact h|skip
  all_goals
   split
   ·(split)
    ·exact h
    ·exact E _ _ h
   ·(split)
    ·rename_i e;exact E _ _ (by rw[fs e];exact h)
    ·exact h
 |_=>
  unfold Sem.runT
  repeat' split
  all_goals first|exact h|(rename_i E;exact E _ _ _ h)|(rename_i E;exact E _ _ h)|(rename_i E _;exact E _ _ _ h)|(rename_i E _;exact E _ _ h)|(rename_i E _ _;exact E _ _ _ h)|(rename_i E _ _;exact E _ _ h)|(rename_i E _ _ _;exact E _ _ _ h)|(rename_i E _ _ _;exact E _ _ h)|(rename_i E _ _ _ _;exact E _ _ _ h)|(rename_i E _ _ _ _;exact E _ _ h)|(rename_i E _ _ _ _ _;exact E _ _ _ h)|(rename_i E _ _ _ _ _ _;exact E _ _ _ h)
def G (n:Nat):GStep→Prop
 | .go _ w _| .comm _ _ _ _ w _| .spawn _ _ w _| .count _ w _| .timer _ _ w _| .alone _ _ w _| .newcoro _ _ _ w _| .coroswitch _ _ _ w _| .collect _ w _| .watch _ w _=>n≤w.drawn
 | .ended _ _ _=>True
theorem after {n:Nat}{es:Array Event}{g:GStep}(h:G n g):G n (g.after es):=by cases g<;>exact h
variable {p:Program}{n:Nat}{w:World}
theorem ro {α:Type}{s:Sem α}{v:α}{w':World}(e:s.run p w=.ok v w')(h:n≤w.drawn):n≤w'.drawn:=by have:=run p n s w h;rw[e]at this;exact this
theorem rh {α:Type}{s:Sem α}{v:Halt}{w':World}(e:s.run p w=.halt v w')(h:n≤w.drawn):n≤w'.drawn:=by have:=run p n s w h;rw[e]at this;exact this
theorem gi {c:Prop}[Decidable c]{a b:GStep}(E:G n a)(I:G n b):G n (if c then a else b):=by split<;>assumption
theorem rto {α:Type}{s:Sem α}{v:α}{w':World}{es es':Array Event}(e:s.runT p w es=(.ok v w',es'))(h:n≤w.drawn):n≤w'.drawn:=by have:=runT p n s w es h;rw[e]at this;exact this
theorem rtr {α:Type}{s:Sem α}{r:Result α}{es es':Array Event}(e:s.runT p w es=(r,es'))(h:n≤w.drawn):R n r:=by have:=runT p n s w es h;rw[e]at this;exact this
theorem rth {α:Type}{s:Sem α}{v:Halt}{w':World}{es es':Array Event}(e:s.runT p w es=(.halt v w',es'))(h:n≤w.drawn):n≤w'.drawn:=by have:=runT p n s w es h;rw[e]at this;exact this
theorem endThrow (fr:Frame)(m:String)(h:n≤w.drawn):G n (Go.endThrow fr m w):=h
theorem endPrinting (fr:Frame)(v:Value)(h:n≤w.drawn):G n (Go.endPrinting p fr v w):=by
 unfold Go.endPrinting;dsimp only;split
 ·exact h
 ·trivial
theorem endWith (fd:Nat)(t:ByteArray)(o:Outcome):G n (Go.endWith w fd t o):=by
 unfold Go.endWith;dsimp only;((repeat' split)<;>(trivial))
theorem endFatal (fr:Frame)(cs:List Frame)(d:Option Dying)(m:String)(h:n≤w.drawn):G n (Go.endFatal p fr cs d m w):=by
 unfold Go.endFatal;extract_lets
 split
 ·rename_i e;exact ro e h
 ·trivial
 ·trivial
theorem writeOn (fr:Frame)(d:Dying)(f:Fatal)(h:n≤w.drawn):G n (Go.writeOn p fr d f w):=by
 unfold Go.writeOn;extract_lets
 split
 ·trivial
 ·extract_lets
  split
  all_goals first|trivial|(rename_i e;exact rto e h)|(rename_i e;exact rth e h)
theorem die (fr:Frame)(d:Dying)(h:n≤w.drawn):G n (Go.die p fr d w):=by
 unfold Go.die
 split
 ·exact writeOn _ _ _ h
 ·(split)
  ·(split)
   ·exact h
   ·exact endWith _ _ _
  ·extract_lets d2
   split
   ·exact h
   ·(split)
    ·rename_i e;exact ro e h
    ·trivial
   ·rename_i t recv name _
    have E:=runT p n (invoke (.fn (.method name) #[]) #[.iface t recv]) w #[] h
    split
    rename_i r es e
    rw[e]at E
    refine after ?_
    split
    all_goals first|trivial|exact E|exact endPrinting _ _ E
   ·trivial
theorem doReturn (main:Bool)(fr:Frame)(cs:List Frame)(d:Option Dying)(v:Value)(h:n≤w.drawn):G n (Go.doReturn p main fr cs d v w):=by
 unfold Go.doReturn
 repeat' split
 all_goals first|trivial|exact h
theorem callDeferred (fr:Frame)(cs:List Frame)(dy:Option Dying)(d:Deferred)(h:n≤w.drawn):G n (Go.callDeferred p fr cs dy d w):=by
 unfold Go.callDeferred
 refine gi trivial ?_
 ·have E:=runT p n (invoke d.target d.args) w #[] h
  split
  rename_i r es e
  rw[e]at E
  extract_lets
  refine after ?_
  split
  all_goals first|trivial|exact E|exact endFatal _ _ _ _ E|exact endThrow _ _ E|(split<;>first|trivial|exact E)
theorem unwind (main:Bool)(fr:Frame)(cs:List Frame)(dy:Option Dying)(h:n≤w.drawn):G n (Go.unwind p main fr cs dy w):=by
 unfold Go.unwind
 split
 ·rename_i block _ _ _
  have E:=runT p n (Instr.takeDeferred block) w #[] h
  split
  rename_i r es e
  rw[e]at E
  refine after ?_
  split
  ·exact E
  ·trivial
 ·exact callDeferred _ _ _ _ h
 ·(split)
  ·trivial
  ·(split)
   ·trivial
   ·(split)
    ·exact h
    ·(split)
     ·(split)
      ·exact h
      ·(split)
       ·rename_i e;exact ro e h
       ·trivial
       ·trivial
     ·(split)
      ·exact endPrinting _ _ h
      ·trivial
  ·(split)
   ·exact doReturn _ _ _ _ _ h
   ·rename_i fn _
    have E:=runT p n (results fn fr.tmps) w #[] h
    split
    rename_i r es e
    rw[e]at E
    refine after ?_
    split
    ·exact doReturn _ _ _ _ _ E
    ·trivial
    ·trivial
theorem early (fr:Frame)(cs:List Frame)(dy:Option Dying)(g:Nat)(h:n≤w.drawn):G n (Go.early p fr cs dy g w):=by
 unfold Go.early;extract_lets refuse notYet
 have I: ∀w:World,n≤w.drawn→G n (notYet w):=fun w h=>by
  show G n (match w.heap[g]? with|some (.pending c elem)=>_|_=>_)
  split
  ·exact h
  ·trivial
 split
 ·exact I w h
 ·(split)
  ·trivial
  ·extract_lets there
   have E: ∀w:World,n≤w.drawn→G n (there w):=fun w h=>h
   repeat' split
   all_goals first|trivial|exact I w h|exact E w h|(rename_i e;exact I _ (ro e h))|(rename_i e;exact E _ (ro e h))|(rename_i e _;exact E _ (ro e h))|(rename_i _ e;exact E _ (ro e h))
theorem oe {α:Type}{o:Option α}{a:GStep}{f:α→GStep}(E:G n a)(I: ∀x,G n (f x)):G n (o.elim a f):=by cases o with
 |none=>exact E
 |some x=>exact I x
theorem app (listen:Bool)(fr:Frame)(cs:List Frame)(dy:Option Dying)(s:Sem Next)(h:n≤w.drawn):G n (Go.stepG.apply p listen fr cs dy s w):=by
 unfold Go.stepG.apply
 extract_lets
 have E:R n (if listen=true then s.runT p w #[]else(s.run p w,#[])).1:=by
  split
  ·exact runT p n s w #[] h
  ·exact run p n s w h
 split
 rename_i r es e
 rw[e]at E
 extract_lets
 refine after ?_
 split
 all_goals first|trivial|exact E|exact endFatal _ _ _ _ E|exact endThrow _ _ E|exact early _ _ _ _ E|(split<;>first|trivial|exact E|(exact gi (endThrow _ _ E) E))|exact gi (endThrow _ _ E) E
theorem oper (listen:Bool)(fr:Frame)(cs:List Frame)(dy:Option Dying)(h:n≤w.drawn):G n (Go.stepG.oper p listen fr cs dy w):=by
 unfold Go.stepG.oper
 repeat' split
 all_goals first|trivial|exact app _ _ _ _ _ h
theorem exec (main listen:Bool)(fr:Frame)(cs:List Frame)(dy:Option Dying)(h:n≤w.drawn):G n (Go.stepG.exec p main listen fr cs dy w):=by
 unfold Go.stepG.exec
 extract_lets go tgo lost leave
 have L: ∀fr w,n≤w.drawn→G n (go fr w):=fun _ _ h=>h
 have E: ∀k,G n (tgo k):=fun k=>h
 have hlost: ∀k,G n (lost k):=fun k=>trivial
 have hleave: ∀j,G n (leave j):=fun j=>by
  unfold leave
  split
  ·refine gi h trivial
  ·(split)
   rename_i r es e
   have I:=rtr e h
   refine after ?_
   split
   ·exact doReturn _ _ _ _ _ I
   ·trivial
 split
 case h_1=>exact hleave none
 case h_2=>exact hleave (some .ret)
 case h_13=>exact oe (hleave (some (.exit _))) E
 case h_14=>exact oe (hleave (some (.goto _))) E
 all_goals first
  |exact E _|trivial|exact app _ _ _ _ _ h|exact hlost _
  |(split<;>first|exact E _|exact hlost _)
  |(refine gi (E _) ?_;split<;>first|trivial|(rename_i e;exact ro e h))
  |(refine gi (oper _ _ _ _ h) ?_;exact h)
  |exact oe (hlost _) fun _=>app _ _ _ _ _ h
  |(split;rename_i r es e;have I:=rtr e h;refine after ?_;split<;>first|trivial|exact I|exact app _ _ _ _ _ I)
theorem stepG (main listen:Bool)(g:Goroutine)(h:n≤w.drawn):G n (Go.stepG p main g w listen):=by
 unfold Go.stepG
 split
 split
 ·exact die _ _ h
 ·exact exec _ _ _ _ _ h
 ·exact unwind _ _ _ _ h
def S (n:Nat):Stepped→Prop
 | .next m=>n≤m.world.drawn
 | .ended _ _=>True
theorem si {c:Prop}[Decidable c]{a b:Stepped}(E:S n a)(I:S n b):S n (if c then a else b):=by split<;>assumption
theorem si1 {α:Type}{c:Prop}[Decidable c]{a b:Stepped×α}(E:S n a.1)(I:S n b.1):S n (if c then a else b).1:=by split<;>assumption
theorem waitingAt {rest:Rest}{cs:Array CommCase}{w w':World}(h:Go.waitingAt rest cs w=some w'):w'.drawn=w.drawn:=by
 unfold Go.waitingAt at h
 split at h
 ·split at h
  ·injection h with h;subst h;rfl
  ·cases h
 ·injection h with h;subst h;rfl
theorem comm (rest:Rest)(gs:Array Goroutine)(i:Nat)(g:Goroutine)(cases:Array CommCase)(b:Bool)(sh:CommShape)(h:n≤w.drawn):S n (communicate p rest gs i g cases b sh w).1:=by
 unfold communicate
 extract_lets put
 refine si1 trivial ?_
 extract_lets ready
 refine si1 ?_ ?_
 ·refine si1 ?_ h
  split
  ·rename_i e;show n≤World.drawn _;rw[waitingAt e];exact h
  ·trivial
 ·extract_lets pick
  split
  ·trivial
  ·rename_i e
   have E:=ro e h
   extract_lets r
   split
   ·(split)
    ·rename_i e2;exact rh e2 E
    ·trivial
   ·exact E
   ·exact E
   ·extract_lets v buf
    split
    ·exact E
    ·(split)
     ·rename_i e3;have I:=ro e3 E;exact I
     ·trivial
   ·exact E
   ·exact E
   ·trivial
theorem look (gs:Array Goroutine)(rest:Rest)(h:n≤w.drawn):S n (Go.look p gs rest w):=by
 unfold Go.look
 split
 ·(split)
  extract_lets
  refine si trivial ?_
  extract_lets
  split
  ·trivial
  ·extract_lets
   split
   ·rename_i e;have E:=ro e h;exact E
   ·trivial
   ·trivial
 ·trivial
theorem drain (w:World)(c:Nat):(Go.drain w c).2.drawn=w.drawn:=by
 unfold Go.drain;split<;>rfl
theorem retime (m:Machine)(k:Nat)(t:Timer)(a b:Nat):(Go.retime m k t a b).2.world.drawn=m.world.drawn:=by
 unfold Go.retime
 split
 rename_i e
 split at e
 ·rename_i c _
  have:=drain m.world c
  rw[e]at this;exact this
 ·injection e with _ e;subst e;rfl
theorem named (m:Machine)(v:Addr)(f:Nat→Timer→Value×Machine){d:Nat}(E: ∀k t,(f k t).2.world.drawn=d){r:Value×Machine}(e:timerOp.named m v f=.ok r):r.2.world.drawn=d:=by
 unfold timerOp.named at e
 split at e
 ·injection e with e;subst e;exact E _ _
 ·cases e
theorem opened {m m':Machine}{v:Addr}(e:timerOp.opened m v=some m'):m'.world.drawn=m.world.drawn:=by
 unfold timerOp.opened at e
 split at e
 ·split at e
  ·injection e with e;subst e;rfl
  ·cases e
 ·injection e with e;subst e;rfl
theorem timer (m:Machine)(op:TimerOp){r:Value×Machine}(e:timerOp m op=.ok r):r.2.world.drawn=m.world.drawn:=by
 unfold timerOp at e
 split at e
 ·split at e
  ·injection e with e;subst e;rfl
  ·split at e
   ·split at e
    ·cases e
    ·injection e with e;subst e;rfl
   ·cases e
 ·exact named _ _ _ (fun _ _=>retime _ _ _ _ _) e
 ·split at e
  ·rename_i E e1
   exact(named _ _ _ (fun _ _=>retime _ _ _ _ _) e).trans (opened e1)
  ·cases e
 ·injection e with e;subst e;rfl
theorem commr {rest:Rest}{gs:Array Goroutine}{i:Nat}{g:Goroutine}{cases:Array CommCase}{b:Bool}{sh:CommShape}{r:Stepped}{ops:Array MemOp}(e:communicate p rest gs i g cases b sh w=(r,ops))(h:n≤w.drawn):S n r:=by have:=comm (p:=p) rest gs i g cases b sh h;rw[e]at this;exact this
theorem et1 {fr:Frame}{m:String}{g:GStep}(e:Go.endThrow fr m w=g)(h:n≤w.drawn):G n g:=e▸endThrow fr m h
theorem runM (m:Machine)(i:Nat)(listen:Bool)(h:n≤m.world.drawn):S n (Go.runT p m i listen).1:=by
 unfold Go.runT
 extract_lets rest world
 split
 extract_lets wake fn pos s ops done
 have E: ∀r,(done r).1=r:=fun _=>rfl
 have hs:G n s:=stepG _ _ _ h
 clear_value s
 split
 ·trivial
 ·(split)
  rename_i e
  exact commr e hs
 all_goals first|exact hs|exact si trivial hs|exact look _ _ hs|skip
 ·rw[E]
  split
  ·exact hs
  ·(split)
   ·rename_i e;exact et1 e hs
   ·trivial
  ·trivial
 ·rw[E]
  split
  ·rename_i e;have I:=timer _ _ e;exact Wl hs (Nat.le_of_eq I.symm)
  ·(split)
   ·rename_i e;exact et1 e hs
   ·trivial
  ·trivial
  ·trivial
theorem serve (m:Machine)(k:Nat)(h:n≤m.world.drawn):S n (Go.serve p m k):=by
 unfold Go.serve
 split
 ·trivial
 ·exact h
 ·extract_lets
  split
  ·trivial
  ·exact h
def M (n:Nat):Move→Prop
 | .goroutine m _=>n≤m.world.drawn
 | .machine s _=>S n s
theorem askOn (m:Machine)(h:n≤m.world.drawn):M n (Go.askOn p m):=by
 unfold Go.askOn
 extract_lets mono rs ds pick
 have hp: ∀m:Machine,n≤m.world.drawn→M n (pick m):=fun m h=>by
  simp only[pick]
  split
  ·trivial
  ·rename_i e;have E:=ro e h
   split
   ·exact E
   ·(split)
    ·trivial
    ·rename_i e2;exact ro e2 E
 clear_value pick
 split
 ·trivial
 ·rename_i e;have E:=ro e h
  extract_lets L
  clear_value rs
  split
  ·exact serve _ _ E
  ·cases rs with
   |nil=>
    dsimp only
    split
    ·exact E
    ·(split)
     ·exact E
     ·split<;>trivial
   |cons a l=>
    dsimp only
    split
    ·exact hp _ E
    ·(split)
     ·trivial
     ·rename_i e3;exact hp _ (ro e3 E)
     ·rename_i e3;have I:=ro e3 E;exact I
     ·rename_i e3;have I:=ro e3 E;exact hp _ I
theorem ask2 (m:Machine)(h:n≤m.world.drawn):M n (Go.ask p m):=by
 unfold Go.ask
 split
 ·(split)
  ·trivial
  ·rename_i e;have E:=look (p:=p) m.gs m.rest (ro e h)
   split
   ·rename_i e2;rw[e2]at E;exact askOn _ E
   ·exact E
  ·rename_i e;exact askOn _ (ro e h)
 ·exact askOn _ h
theorem move (m:Machine)(h:n≤m.world.drawn):M n (Go.move p m):=by
 unfold Go.move
 split
 ·(split)
  ·exact h
  ·trivial
 ·(split)
  ·(split)
   ·exact h
   ·exact ask2 _ h
  ·exact ask2 _ h
theorem step (m:Machine)(h:n≤m.world.drawn):S n (Go.step p m):=by
 unfold Go.step stepT
 have:=move (p:=p) m h
 split
 ·rename_i e;rw[e]at this;exact runM _ _ _ this
 ·rename_i e;rw[e]at this;exact this
theorem runN: ∀(k:Nat) (m m':Machine),Go.runN p k m=.next m'→n≤m.world.drawn→n≤m'.world.drawn
 |0,m,m',e,h=>by injection e with e;subst e;exact h
 |k+1,m,m',e,h=>by
  have E:=step (p:=p) m h
  unfold Go.runN at e
  split at e
  ·rename_i e1;rw[e1]at E;exact runN k _ _ e E
  ·rename_i I;exact absurd e (I _)
theorem steps {m m':Machine}(h:Steps p m m'):m.world.drawn≤m'.world.drawn:=by
 obtain⟨k,hk⟩:=h
 exact runN k m m' hk (Qq _)
theorem calls {f:FuncId}{args:Array Value}{w:World}{Q:Ending→World→Prop}(h:Calls p f args w Q):Calls p f args w fun e w'=>Q e w'∧∀v,e=.returned v→w.drawn≤w'.drawn:=fun cs=>by
 obtain⟨e,w',fr,hq,E,I,L⟩:=h cs
 refine⟨e,w',fr,⟨hq,fun v N=>?_⟩,E,I,L⟩
 subst N
 exact steps E
end Go.Dr
end
