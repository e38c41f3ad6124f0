/- Functions on data, what they tell, and that the code computes them. -/
import Derived.Test.YtlbnpmfggfbdoaaGreatDoorE0
import Derived.RangeFuncSeq
import Derived.RangeFuncBound
import Derived.Shelf.Unicode.ValidAny
import Derived.Calls
import GoSem.Step
set_option linter.unusedVariables false
set_option linter.unusedSimpArgs false
set_option linter.unusedSectionVars false
set_option maxRecDepth 20000
section
namespace Go.A
open Go.RowKit Go.Z
def ix {α:Type}(xs:List α)(i:Int):Option α:=if i<0 then none else xs[i.toNat]?
theorem Qaj {α:Type}{xs:List α}{i:Int}{x:α}(h:ix xs i=some x): ∃k:Nat,i=(k:Int)∧xs[k]?=some x:=by
 unfold ix at h
 split at h
 ·cases h
 ·exact⟨i.toNat,by omega,h⟩
def knb (H:List (Nat×Res)):List Nat→List (Nat×TypeId×List Value)
 | []=>[]
 |k::ks=>match hk H k with
  |some (.blk g e cs)=>(g,e,cs)::knb H ks
  |_=>knb H ks
def kne (H:List (Nat×Res)):List Nat→List (Addr×List Value)
 | []=>[]
 |k::ks=>match hk H k with
  |some (.el _ b o cs)=>(⟨b,o,none⟩,cs)::kne H ks
  |_=>kne H ks
theorem o_b1 {C:Cx}{H:List (Nat×Res)}{w:World}(h:Hp C H w)(bs es:List Nat):Kn.ok ⟨knb H bs,kne H es⟩ w:=by
 refine⟨?_,?_⟩
 ·induction bs with
  |nil=>intro b I;cases I
  |cons k ks N=>
   intro b I;unfold knb at I
   split at I
   ·rename_i g e cs O
    rcases Qk.1 I with rfl|I
    ·exact h.hold k _ O
    ·exact N b I
   ·exact N b I
 ·induction es with
  |nil=>intro b I;cases I
  |cons k ks N=>
   intro b I;unfold kne at I
   split at I
   ·rename_i j g o cs O
    rcases Qk.1 I with rfl|I
    ·exact(h.hold k _ O).1
    ·exact N b I
   ·exact N b I
section
variable {r:Option Nat}{P:Program}{ops:Array Oper}{Q:Exit→Act→World→Prop}{rest lst:List Oper}{C:Cx}{l:List (Nat×Value)}{H:List (Nat×Res)}{d:Nat}{op:Op}{T:TypeId}{pos:String}{af:Array Edge}
theorem AL.q (bs es:List Nat)(I:List Hint)(ks:List Nat)(cs:List Prop)(nl:List (Nat×Value))(O:conj cs)(h:AL r P ops Q (lst.drop I.length) C (cat nl l) H)
  (hq:((qs P ⟨knb H bs,kne H es⟩ C.n ops I lst (q0 l)).bind (qfin l ks))=some (cs,nl):=by kernel_rfl)
  (W:(qs P ⟨knb H bs,kne H es⟩ C.n ops I lst (q0 l)).map (fun s=>s.q.map Prod.fst)=(qs P ⟨knb H bs,kne H es⟩ C.n ops I lst (q0 l)).map (fun s=>s.q.map Prod.snd):=by kernel_rfl):AL r P ops Q lst C l H:=fun a w hf N=>
 Z.qr I ks cs nl (o_b1 N bs es) hf (fun a' hf'=>h a' w hf' N) O hq W
theorem AL.val {v:Value}(O:Nat.ble (d+1) C.n=true)(W: ∀a w,Fr a C.n C.ds l→Hp C H w→(execOp a.eval ⟨some d,op,T,pos,af,none⟩).run P w=.ok (.value v) w)(h:AL r P ops Q rest C ((d,v)::l) H):AL r P ops Q (⟨some d,op,T,pos,af,none⟩::rest) C l H:=
 fun a w I N=>Z.val I O (W a w I N) fun a' hf'=>h a' w hf' N
theorem AL.on {dst:Option Tmp}{j dj:Nat}{b:Bool}(N:(ops[j]?).bind (·.dst)=some dj)(O:lk l dj=some (.bool b))(h:AL r P ops Q (⟨dst,op,T,pos,af,none⟩::rest) C l H):AL r P ops Q (⟨dst,op,T,pos,af,some (j,b)⟩::rest) C l H:=
 fun a w I W=>Z.on I N O (h a w I W)
theorem AL.cnd {ρ:Type}{A B R:Option ρ}{j:Nat}{b:Bool}(O:lk l j=some (.bool b))(I:(if b=true then A else B)=R)(ht:A=R→AL r P ops Q rest C ((j,.bool true)::l) H)(he:B=R→AL r P ops Q rest C ((j,.bool false)::l) H):AL r P ops Q rest C l H:=fun a w N W=>by
 cases b with
 |true=>rw[if_pos rfl]at I;exact ht I a w (N.cons N O) W
 |false=>rw[if_neg (by simp)]at I;exact he I a w (N.cons N O) W
theorem AL.cnp {ρ:Type}{A B R:Option ρ}{j:Nat}{p:Prop}[Decidable p](O:lk l j=some (.bool (decide p)))(I:(if p then A else B)=R)(ht:p→A=R→AL r P ops Q rest C ((j,.bool true)::l) H)(he: ¬p→B=R→AL r P ops Q rest C ((j,.bool false)::l) H):AL r P ops Q rest C l H:=fun a w N W=>by
 by_cases hp:p
 ·rw[if_pos hp]at I;exact ht hp I a w (N.cons N (by rw[O,decide_eq_true hp])) W
 ·rw[if_neg hp]at I;exact he hp I a w (N.cons N (by rw[O,decide_eq_false hp])) W
theorem Qce {K K':Lf→Prop}: ∀{n:Nat},(∀ps,K ps→K' ps)→tele n K→tele n K'
 |0,h,hk=>h [] hk
 |n+1,h,hk=>fun A c=>Qce (fun ps=>h ((A,c)::ps)) (hk A c)
theorem AL.ixc {t:Ty}{A:Option Addr}{c kn:Nat}{xs:List t.den}{ko:Option Nat}{x y:Operand}{i:Int}{kd:IntKind}{v:t.den}{e tt:TypeId}
  (hrow: ∀w,Hp C H w→∃G:Nat→Prop,Row t w (Fh C H) G A c xs∧∀b,G b→match ko with|none=>∀k,¬Bk H k b|some k=>Bk H k b)
  (hko: ∀j,ko=some j→∀r,hk H j=some r→r.ref=none) (hx:ev l x=some (.slice A xs.length c)) (hy:ev l y=some (.int kd i)) (hi:ix xs i=some v) (ht:P.underlying tt=some (.slice e)) (hs:szB P e=some t.size)
  (h:t.ok v→tele (lv t) fun ps=>∀b o,(∃w,Hp C H w∧A=some ⟨b,o,none⟩)→AL r P ops Q rest C ((d,.pointer (some ⟨b,o+i.toNat*t.size,none⟩))::l) (hcat (kx (kn+1) (rs t v ps)) ((kn,.el ko b (o+i.toNat*t.size) (cl t v ps))::H)))
  (hd:Nat.ble (d+1) C.n=true) (hn: ∀ps:Lf,ps.length=lv t→nok H kn (1+(rs t v ps).length)=true):AL r P ops Q (⟨some d,.indexAddr tt x y,T,pos,af,none⟩::rest) C l H:=fun a w hf hh=>by
 obtain⟨k,rfl,hv⟩:=Qaj hi
 obtain⟨G,hR,hG⟩:=hrow w hh
 obtain⟨b,o,es,hA,hb,hbl,hc,hr⟩:=hR.at hv
 obtain⟨ps,hl,rfl,hrs⟩:=rep_cl (B:=Bk H) t (Qaf t hr)
 have hlt:=(Qc.1 hv).1
 have hn':=hn ps hl
 have O:hk H kn=none:=Qat hn' (Q1 _) (by omega)
 have h1:Hp C ((kn,.el ko b (o+k*t.size) (cl t v ps))::H) w:=hh.add O rfl (fun j I r hr=>hko j I r hr) ⟨hc,hbl,by
  have:=hG b hb
  cases ko<;>exact this⟩
 have hnn: ∀n k',nok H k' n=true→(∀j,k'≤j→j<k'+n→j≠kn)→nok ((kn,.el ko b (o+k*t.size) (cl t v ps))::H) k' n=true:=by
  intro n
  induction n with
  |zero=>intro _ _ _;rfl
  |succ n ih=>
   intro k' W h3
   simp only[nok,Qm]at W ⊢
   refine⟨?_,ih (k'+1) W.2 fun j h4 h5=>h3 j (by omega) (by omega)⟩
   rw[Qaa,if_neg (Ne.symm (h3 k' (Q1 _) (by omega)))];exact W.1
 have hn2:nok H (kn+1) (rs t v ps).length=true:=by
  rw[Yr 1]at hn'
  simp only[nok,Qm]at hn';exact hn'.2
 have W:Hp C (hcat (kx (kn+1) (rs t v ps)) ((kn,.el ko b (o+k*t.size) (cl t v ps))::H)) w:=by
  refine h1.adds (hnn _ _ hn2 fun j h4 _=>by omega) fun r2 h4=>?_
  obtain⟨h5,h6,h7⟩:=hrs r2 h4
  have N: ∀j b',Bk ((kn,.el ko b (o+k*t.size) (cl t v ps))::H) j b'↔Bk H j b':=fun j b'=>by
   by_cases I:j=kn
   ·subst I
    rw[Bk.cons_eq]
    exact⟨fun h=>by simp[Res.bl]at h,fun⟨_,h8,_⟩=>by rw[O]at h8;cases h8⟩
   ·exact Bk.cons_ne I
  exact⟨h6,h7,Res.to h5 (S:=[]) (Ch.refl w) (fun b' hF _=>⟨by simp,⟨fun j I=>hF.1.1 j ((N j b').1 I),hF.1.2⟩,hF.2⟩) (fun b' hB _=>⟨by simp,fun j I=>hB j ((N j b').1 I)⟩) (fun i b' _ hB=>⟨by simp,(N i b').2 hB⟩) (by simp)⟩
 subst hA
 refine Z.val (v:=.pointer (some ⟨b,o+k*t.size,none⟩)) hf hd ?_ fun a' hf'=>Qam (h (rep_ok t hr)) ps hl b o ⟨w,hh,rfl⟩ a' w hf' W
 have:=r_indexAddrA (P:=P) (w:=w) (d:=some d) (T:=T) (pos:=pos) (af:=af) (gd:=none) ht (Qag hs) (hf.eval hx) rfl (hf.eval hy) rfl hlt
 rw[Addr.add_lit]at this
 exact this
theorem Qbd: ∀(t:Ty) (v:t.den) (ps:Lf),ps.length=lv t→(rs t v ps).length=lv t
 | .int _,_,_,_=>rfl
 | .byte,_,_,_=>rfl
 | .bool,_,_,_=>rfl
 | .str,_,_,_=>rfl
 | .slice _,_,[p],_=>rfl
 | .slice _,_,[],h=>by cases h
 | .slice _,_,_::_::_,h=>by simp[lv]at h
 | .pair a b,v,ps,h=>by
  simp only[rs,Ql]
  simp only[lv]at h
  rw[Qbd a v.1 _ (by rw[Qu];omega),Qbd b v.2 _ (by rw[Xn];omega)];rfl
theorem rowS {k:Nat}{t:Ty}{A:Option Addr}{c:Nat}{xs:List t.den}(h:hk H k=some (.sh (.slice t) [.slice A xs.length c] xs))(w:World)(I:Hp C H w): ∃G:Nat→Prop,Row t w (Fh C H) G A c xs∧∀b,G b→∀k,¬Bk H k b:=
 ⟨Fh C H,Row.of (I.hold k _ h),fun _ N=>N.1⟩
theorem rowL {k:Nat}{t:Ty}{A:Option Addr}{c:Nat}{xs:List t.den}(h:hk H k=some (.ln t A c xs))(w:World)(I:Hp C H w): ∃G:Nat→Prop,Row t w (Fh C H) G A c xs∧∀b,G b→∀k,¬Bk H k b:=
 ⟨_,I.hold k _ h,fun _ N=>N⟩
theorem rowO {k:Nat}{t:Ty}{e:TypeId}{A:Option Addr}{c:Nat}{xs:List t.den}(h:hk H k=some (.own t e A c xs))(w:World)(I:Hp C H w): ∃G:Nat→Prop,Row t w (Fh C H) G A c xs∧∀b,G b→Bk H k b:=
 ⟨fun b=>b∈obl A,Row.own (I.hold k _ h) fun _ h=>h,fun _ N=>⟨_,h,N⟩⟩
theorem AL.ixs (k kn:Nat){t:Ty}{A:Option Addr}{c:Nat}{xs:List t.den}{x y:Operand}{i:Int}{kd:IntKind}{v:t.den}{e tt:TypeId}(N:ix xs i=some v)
  (h:t.ok v→tele (lv t) fun ps=>∀b o,AL r P ops Q rest C ((d,.pointer (some ⟨b,o,none⟩))::l) (hcat (kx (kn+1) (rs t v ps)) ((kn,.el none b o (cl t v ps))::H)))
  (I:hk H k=some (.sh (.slice t) [.slice A xs.length c] xs):=by rfl) (O:ev l x=some (.slice A xs.length c):=by rfl) (W:ev l y=some (.int kd i):=by rfl) (ht:P.underlying tt=some (.slice e):=by rfl) (hs:szB P e=some t.size:=by kernel_rfl)
  (hd:Nat.ble (d+1) C.n=true:=by rfl) (hn:nok H kn (1+lv t)=true:=by kernel_rfl):AL r P ops Q (⟨some d,.indexAddr tt x y,T,pos,af,none⟩::rest) C l H:=
 AL.ixc (ko:=none) (rowS I) (fun _ h=>by cases h) O W N ht hs (fun ho=>Qce (fun ps h b o _=>h b _) (h ho)) hd fun ps hl=>by rw[Qbd t v ps hl];exact hn
theorem AL.ixl (k kn:Nat){t:Ty}{A:Option Addr}{c:Nat}{xs:List t.den}{x y:Operand}{i:Int}{kd:IntKind}{v:t.den}{e tt:TypeId}(N:ix xs i=some v)
  (h:t.ok v→tele (lv t) fun ps=>∀b o,AL r P ops Q rest C ((d,.pointer (some ⟨b,o,none⟩))::l) (hcat (kx (kn+1) (rs t v ps)) ((kn,.el none b o (cl t v ps))::H)))
  (I:hk H k=some (.ln t A c xs):=by rfl) (O:ev l x=some (.slice A xs.length c):=by rfl) (W:ev l y=some (.int kd i):=by rfl) (ht:P.underlying tt=some (.slice e):=by rfl) (hs:szB P e=some t.size:=by kernel_rfl)
  (hd:Nat.ble (d+1) C.n=true:=by rfl) (hn:nok H kn (1+lv t)=true:=by kernel_rfl):AL r P ops Q (⟨some d,.indexAddr tt x y,T,pos,af,none⟩::rest) C l H:=
 AL.ixc (ko:=none) (rowL I) (fun _ h=>by cases h) O W N ht hs (fun ho=>Qce (fun ps h b o _=>h b _) (h ho)) hd fun ps hl=>by rw[Qbd t v ps hl];exact hn
theorem AL.ixo (k kn:Nat){t:Ty}{e':TypeId}{A:Option Addr}{c:Nat}{xs:List t.den}{x y:Operand}{i:Int}{kd:IntKind}{v:t.den}{e tt:TypeId}(hi:ix xs i=some v)
  (h:t.ok v→tele (lv t) fun ps=>∀g,A=some ⟨g,0,none⟩→AL r P ops Q rest C ((d,.pointer (some ⟨g,i.toNat*t.size,none⟩))::l) (hcat (kx (kn+1) (rs t v ps)) ((kn,.el (some k) g (i.toNat*t.size) (cl t v ps))::H)))
  (I:hk H k=some (.own t e' A c xs):=by rfl) (hx:ev l x=some (.slice A xs.length c):=by rfl) (hy:ev l y=some (.int kd i):=by rfl) (ht:P.underlying tt=some (.slice e):=by rfl) (hs:szB P e=some t.size:=by kernel_rfl)
  (hd:Nat.ble (d+1) C.n=true:=by rfl) (hn:nok H kn (1+lv t)=true:=by kernel_rfl):AL r P ops Q (⟨some d,.indexAddr tt x y,T,pos,af,none⟩::rest) C l H:=
 AL.ixc (ko:=some k) (rowO I) (fun j h r N=>by injection h with h;subst h;rw[I]at N;injection N with N;subst N;rfl) hx hy hi ht hs (fun ho=>Qce (fun ps h b o ⟨w,hh,O⟩=>by
  obtain⟨cells,hrow,_⟩:Own t e' 0 w (Fh C H) A c xs:=hh.hold k _ I
  rcases hrow.2 with⟨W,_⟩|⟨g,cap,cur,W,_⟩
  ·injection W with hA' _ _;rw[O]at hA';cases hA'
  ·injection W with hA' _ _;rw[O]at hA';injection hA' with hA';injection hA' with h1 h2 _;subst h2;have:=h b O;simpa using this) (h ho)) hd fun ps hl=>by rw[Qbd t v ps hl];exact hn
theorem AL.box (k:Nat){e:TypeId}{x:Operand}{v:Value}{cs:List Value}(h: ∀g,AL r P ops Q rest C ((d,.pointer (some ⟨g,0,none⟩))::l) ((k,.blk g e cs)::H))
  (N:ev l x=some v:=by rfl) (O:v.cells=cs.toArray:=by rfl) (W:Nat.ble (d+1) C.n=true:=by rfl) (hn:hk H k=none:=by kernel_rfl):AL r P ops Q (⟨some d,.box e x,T,pos,af,none⟩::rest) C l H:=fun a w hf hh=>
 Z.st_box hf W N O fun g w' a' hg hs hb I hf'=>h g a' w' hf' (hh.new hn I (fun b hb'=>by simp only[Res.bl,Qj]at hb';omega) (fun j hj=>by cases hj) fun _ _ _ _ _=>hb)
theorem AL.alloc (k:Nat){e:TypeId}{z:Value}{cs:List Value}(N: ∀w,(zeroValue e).run P w=.ok z w)(h: ∀g,AL r P ops Q rest C ((d,.pointer (some ⟨g,0,none⟩))::l) ((k,.blk g e cs)::H))
  (O:z.cells=cs.toArray:=by rfl) (W:Nat.ble (d+1) C.n=true:=by rfl) (hn:hk H k=none:=by kernel_rfl):AL r P ops Q (⟨some d,.alloc e,T,pos,af,none⟩::rest) C l H:=fun a w hf hh=>
 Z.st_alloc hf W N O fun g w' a' hg hs hb I hf'=>h g a' w' hf' (hh.new hn I (fun b hb'=>by simp only[Res.bl,Qj]at hb';omega) (fun j hj=>by cases hj) fun _ _ _ _ _=>hb)
theorem AL.store (k:Nat)(js:List Nat){t bt:TypeId}{x y:Operand}{g o m:Nat}{cs new cs':List Value}{v:Value}(h:AL r P ops Q rest C l ((k,.blk g bt cs')::ded js H))
  (N:hk H k=some (.blk g bt cs):=by rfl) (hx:ev l x=some (.pointer (some ⟨g,o,none⟩)):=by rfl) (hy:ev l y=some v:=by rfl) (hS:szB P t=some m:=by kernel_rfl)
  (hv:v.cells=new.toArray:=by rfl) (hm:new.length=m:=by rfl) (ho:Nat.ble (o+m) cs.length=true:=by rfl) (h1:new.all (fun u=>u.oneCell')=true:=by rfl) (hc:cs.take o++new++cs.drop (o+m)=cs':=by rfl) (O:hng [k] js H=true:=by kernel_rfl):
  AL r P ops Q (⟨none,.store t x y,T,pos,af,none⟩::rest) C l H:=fun a w hf hh=>
 Z.st_store hf (hh.hold k _ N) hx hy (Qag hS) hv hm ho (fun u hu=>Qz.1 h1 u hu) hc fun w' a' hs hb' W hf'=>
  h a' w' hf' (Hp.dd (hh.upd W (fun b I=>⟨_,N,I⟩) (fun b I=>.inl ⟨_,N,I⟩) (fun j O=>by cases O) fun _ _ _ _ _ _ _=>hb') O)
def Dat (H:List (Nat×Res)):(t:Ty)→List Value→t.den→Prop
 | .int k,cs,x=>cs=[.int k x]∧k.has x
 | .byte,cs,x=>cs=[.int .u8 (x.toNat:Int)]
 | .bool,cs,x=>cs=[.bool x]
 | .str,cs,x=>cs=[.string x]∧x.size≤maxLen
 | .slice e,cs,xs=>(∃k,hk H k=some (.sh (.slice e) cs xs))∨(cs=[.slice none 0 0]∧xs=[])
 | .pair a b,cs,x=>Dat H a (cs.take a.size) x.1∧Dat H b (cs.drop a.size) x.2
theorem Dat.rep {w:World}(I:Hp C H w): ∀(t:Ty) {cs:List Value} {x:t.den},Dat H t cs x→t.rep w (Fh C H) cs x
 | .int _,_,_,h=>h
 | .byte,_,_,h=>h
 | .bool,_,_,h=>h
 | .str,_,_,h=>h
 | .slice e,cs,xs,h=>by
  rcases h with⟨k,h⟩|⟨N,O⟩
  ·exact I.hold k _ h
  ·subst N;subst O;exact Qdg e
 | .pair a b,cs,x,h=>⟨_,_,(Xg a.size cs).symm,Dat.rep I a h.1,Dat.rep I b h.2⟩
def Dats (H:List (Nat×Res))(t:Ty):List Value→List t.den→Prop
 |cs,[]=>cs=[]
 |cs,x::xs=>Dat H t (cs.take t.size) x∧Dats H t (cs.drop t.size) xs
theorem Dats.all {w:World}(O:Hp C H w){t:Ty}: ∀{cs:List Value} {xs:List t.den},Dats H t cs xs→cs.length=xs.length*t.size∧(∀u∈cs,u.oneCell'=true)∧∀(i:Nat) (x:t.den),xs[i]?=some x→t.rep w (Fh C H) ((cs.drop (i*t.size)).take t.size) x
 |cs,[],h=>by
  have h:cs=[]:=h
  subst h;exact⟨by simp,by simp,fun i x I=>by simp at I⟩
 |cs,x::xs,h=>by
  obtain⟨h1,h2⟩:=h
  obtain⟨W,h4,h5⟩:=Dats.all O h2
  have N:=Dat.rep O t h1
  have hl:=Qgb t N
  rw[Qu]at hl
  rw[Xn]at W
  have hlen:cs.length=(xs.length+1)*t.size:=by rw[Nat.succ_mul,←W];omega
  refine⟨hlen,fun u hu=>?_,fun i y I=>?_⟩
  ·rw[←Xg t.size cs,Qn]at hu
   exact hu.elim (Qgf t N u) (h4 u)
  ·cases i with
   |zero=>
    simp only[Xd,Qr]at I
    subst I
    rw[Nat.zero_mul,Wa];exact N
   |succ i=>
    rw[Wq]at I
    have:=h5 i y I
    rw[X5]at this
    rw[Nat.succ_mul,Yr];exact this
theorem AL.bsl (k:Nat){ty:Ty}{t e:TypeId}{len sz:Nat}{z:Value}{parts:List (Nat×Operand)}{vs:List (Nat×Value)}{cs:List Value}(xs:List ty.den)(hD:Dats H ty cs xs)
  (h: ∀g,AL r P ops Q rest C ((d,.slice (some ⟨g,0,none⟩) len len)::l) ((k,.own ty e (some ⟨g,0,none⟩) len xs)::H))
  (hz: ∀w,(zeroValue e).run P w=.ok z w) (hS: ∀w,(sizeOf e).run P w=.ok sz w) (N:xs.length=len:=by rfl) (O:ty.size=sz:=by rfl)
  (hp:evp l parts=some vs:=by rfl) (ht:P.underlying t=some (.slice e):=by rfl) (hs:Nat.ble (len*sz) 16777216=true:=by rfl) (h0:Nat.ble 1 (len*sz)=true:=by rfl)
  (hc:Instr.fill (fun i=>some (i*sz,sz)) ((Array.range (len*sz)).map (z.cells[· %z.cells.size]!)) vs=some cs.toArray:=by kernel_rfl)
  (hd:Nat.ble (d+1) C.n=true:=by rfl) (hn:hk H k=none:=by kernel_rfl):AL r P ops Q (⟨some d,.buildSlice t len parts.toArray,T,pos,af,none⟩::rest) C l H:=fun a w hf hh=>by
 subst N;subst O
 refine Z.st_bslice hf hd ht hS hz hp hs h0 hc fun g w' a' hg hs' W I hf'=>h g a' w' hf' (hh.new hn I (fun b hb'=>?_) (fun j hj=>by cases hj) fun F B h1 _ _=>?_)
 ·simp only[Res.bl,obl,Qj]at hb';omega
 ·obtain⟨d1,d2,d3⟩:=Dats.all hh hD
  refine Own.made (B:=0) W (Xq _) d1 ?_ d2 fun i x hi=>rep_to (d3 i x hi) I fun b W N=>⟨by simp,h1 b W N⟩
  have:=Q0 hs
  have h2:xs.length≤xs.length*ty.size:=Nat.le_mul_of_pos_right _ (Qal ty)
  simp only[maxLen];omega
theorem AL.bs0 (k:Nat)(ty:Ty){t e:TypeId}(h: ∀g,AL r P ops Q rest C ((d,.slice (some ⟨g,0,none⟩) 0 0)::l) ((k,.own ty e (some ⟨g,0,none⟩) 0 [])::H))
  (N: ∀w,(sizeOf e).run P w=.ok ty.size w) (O:P.underlying t=some (.slice e):=by rfl) (W:Nat.ble (d+1) C.n=true:=by rfl) (hn:hk H k=none:=by kernel_rfl):AL r P ops Q (⟨some d,.buildSlice t 0 #[],T,pos,af,none⟩::rest) C l H:=fun a w hf hh=>
 Z.st_bslice0 hf W O N fun g w' a' hg hs' hb I hf'=>h g a' w' hf' (hh.new hn I (fun b hb'=>by simp only[Res.bl,obl,Qj]at hb';omega) (fun j hj=>by cases hj) fun F B h1 _ _=>Own.made (t:=ty) (xs:=[]) (B:=0) hb (Xq _) (by simp) (by simp[maxLen]) (by simp) (fun i x hi=>by simp at hi))
theorem Hp.frz {w:World}(N:Hp C H w){k:Nat}{t:Ty}{e:TypeId}{A:Option Addr}{c:Nat}{xs:List t.den}(h:hk H k=some (.own t e A c xs)):Hp C ((k,.sh (.slice t) [.slice A xs.length c] xs)::drp k H) w:=
 N.upd (S:=[]) (Ch.refl w) (by simp) (by simp[Res.bl]) (fun j O=>by cases O) fun F B W h2 _ _ _=>by
  have hO:Own t e 0 w (Fh C H) A c xs:=N.hold k _ h
  obtain⟨cells,hr,o1,o2⟩:=hO
  have hO':Own t e 0 w F A c xs:=⟨cells,hr,o1,fun i x hi=>Qcr (o2 i x hi) fun b I hl=>W b I hl⟩
  exact hO'.rep (fun _ h=>h) fun b I=>h2 b ⟨_,h,I⟩ (by simp[Res.bl])
end
theorem Row.cells {t:Ty}{w:World}{F G:Nat→Prop}{A:Option Addr}{c:Nat}{xs:List t.den}(h:Row t w F G A c xs): ∃cells:List Value,cells.length=xs.length*t.size∧(∀u∈cells,u.oneCell'=true)∧(xs.length=0∨∃ad,A=some ad∧∀j u,cells[j]?=some u→w.cell? (ad.add j)=some u)∧
  ∀(i:Nat) (x:t.den),xs[i]?=some x→t.rep w F ((cells.drop (i*t.size)).take t.size) x:=by
 obtain⟨h2,h3,cells,O,I,h6⟩:=h
 refine⟨cells,O,fun u N=>?_,?_,h6⟩
 ·obtain⟨j,W,rfl⟩:=Xh N
  have hs:=Qal t
  have hi:j / t.size<xs.length:=Y1 (by rw[Jm,←O];exact W)
  have hr:=h6 (j / t.size) _ (Qd hi)
  refine Qgf t hr _ (Qf (i:=j%t.size) ?_)
  rw[Qq (Jo _ hs),Wc,Jm,Nat.div_add_mod]
  exact Qd W
 ·rcases I with I|⟨b,o,rfl,hb,hcell⟩
  ·exact .inl I
  ·exact .inr ⟨_,rfl,fun j u N=>by rw[Addr.add_lit];exact hcell j u N⟩
section
variable {P:Program}{t:Ty}{e:TypeId}{B:Nat}{w:World}{F G:Nat→Prop}{A:Option Addr}{c:Nat}{xs:List t.den}
theorem run_appendR {tt ty:TypeId}{i:TypeInfo}{z:Value}{bytes:Nat}(ht:P.underlying tt=some (.slice e))(I:P.info? e=some i)(hz:i.zero=some z)(hsize:i.size=t.size)(hby:i.bytes=bytes)
  (hzs:z.cells.size=t.size) (hown:Own t e B w F A c xs) {A2:Option Addr} {c2:Nat} {ys:List t.den} (hr:Row t w F G A2 c2 ys) (h63:(xs.length+ys.length)*bytes≤140737488355328)
  (hbp:0<bytes) (hA: ∀b,F b→b∉obl A) (hB:B≤w.heap.size):
  ∃A' c' w',(Builtin.append_ #[tt,tt] ty #[.slice A xs.length c,.slice A2 ys.length c2]).run P w=.ok (.slice A' (xs.length+ys.length) c') w'∧Own t e B w' F A' c' (xs++ys)∧Ch (obl A) w w'∧
   (∀k,k∈obl A'→k∈obl A∨k=w.heap.size):=by
 obtain⟨cells,hrow,h1,h2⟩:=hown
 obtain⟨news,hnl,hn1,N,hn3⟩:=hr.cells
 have hsz:=Qal t
 have hbig:xs.length+ys.length≤maxLen:=by
  have:xs.length+ys.length≤(xs.length+ys.length)*bytes:=Nat.le_mul_of_pos_right _ hbp
  simp only[maxLen];omega
 by_cases hz2:ys.length=0
 ·have hy:ys=[]:=Wo hz2
  subst hy
  have hrun:(Builtin.append_ #[tt,tt] ty #[.slice A xs.length c,.slice A2 0 c2]).run P w=.ok (.slice A xs.length c) w:=by
   rcases hrow.2 with⟨O,hn⟩|⟨g,cap,cur,O,_,_,hnc,_⟩
   ·injection O with hA' hn' hc
    subst hA';subst hc
    cases A2<;>simp[Builtin.append_,run_underlying ht,sizeOf,typeInfo,I,Builtin.lenOf,Builtin.firstCells,hn,loadCells,loadCellsFrom]
   ·injection O with hA' hn' hc
    subst hA';subst hc
    cases A2<;>simp[Builtin.append_,run_underlying ht,sizeOf,typeInfo,I,Builtin.lenOf,Builtin.firstCells,hnc,storeCells,loadCells,loadCellsFrom]
  refine⟨A,c,w,by simpa using hrun,⟨cells,by simpa using hrow,h1,by simpa using h2⟩,Ch.refl' _ _,fun k hk=>.inl hk⟩
 ·rcases N with N|⟨ad,rfl,hcell⟩
  ·exact absurd N hz2
  ·obtain⟨v',w',hrun,h3,h4,_,h5⟩:=run_append_own_at (P:=P) w B tt ty e i z t.size bytes ht I hz hsize hby hzs hsz _ xs.length cells hrow ad ys.length c2 news hnl hcell hn1 hbig h63 hB
   have hform: ∃A' c',v'=.slice A' (xs.length+ys.length) c':=by
    rcases h3.2 with⟨O,hn⟩|⟨g,cap,cur,O,_⟩
    ·exact⟨none,0,by rw[O,show xs.length+ys.length=0 from by omega]⟩
    ·exact⟨_,_,O⟩
   obtain⟨A',c',rfl⟩:=hform
   have W:Ch (obl A) w w':=by have:=Ch.of_grown h4;rwa[ownBlock_slice]at this
   refine⟨A',c',w',hrun,⟨cells++news,?_,?_,?_⟩,W,fun k hk=>?_⟩
   ·rw[Ql];exact h3
   ·intro u hu
    rcases Qn.1 hu with hu|hu
    ·exact h1 u hu
    ·exact hn1 u hu
   ·exact Qek hrow.1 (fun i x I=>rep_ch W hA t (h2 i x I)) (fun i x I=>rep_ch W hA t (hn3 i x I))
   ·rcases h5 with h5|h5
    ·left
     have:obl A'=obl A:=by rw[←ownBlock_slice A' (xs.length+ys.length) c',h5,ownBlock_slice]
     rwa[←this]
    ·right
     have:obl A'=[w.heap.size]:=by rw[←ownBlock_slice A' (xs.length+ys.length) c',h5];rfl
     rw[this]at hk
     simpa using hk
theorem Own.take (h:Own t e B w F A c xs){k:Nat}(hk:k≤xs.length):Own t e B w F A c (xs.take k):=by
 obtain⟨cells,hr,h1,h2⟩:=h
 have N:(xs.take k).length=k:=by rw[Qu];omega
 have hmul:k*t.size≤xs.length*t.size:=Q9 _ hk
 refine⟨cells.take (k*t.size),⟨by rw[Qu,hr.1,N];omega,?_⟩,fun u hu=>h1 u (Yc hu),fun i x hi=>?_⟩
 ·rcases hr.2 with⟨O,hn⟩|⟨g,cap,cur,O,hb,hg,hnc,W,hcs,htake⟩
  ·left
   injection O with hA' _ hc
   subst hA';subst hc
   exact⟨by rw[N];congr 1;omega,by omega⟩
  ·right
   injection O with hA' _ hc
   subst hA';subst hc
   refine⟨g,c,cur,rfl,hb,hg,by omega,W,hcs,?_⟩
   rw[N,←htake,List.take_take,X7 hmul]
 ·have I:i<k:=by
   have:=(Qc.1 hi).1
   omega
  have hx:xs[i]?=some x:=by rwa[Qq I]at hi
  have:=h2 i x hx
  have hm:(i+1)*t.size≤k*t.size:=Q9 _ I
  rw[Xv,X8]at hm
  rw[List.drop_take,List.take_take,X7 (by omega)]
  exact this
end
section
variable {r:Option Nat}{P:Program}{ops:Array Oper}{Q:Exit→Act→World→Prop}{rest lst:List Oper}{C:Cx}{l:List (Nat×Value)}{H:List (Nat×Res)}{d:Nat}{op:Op}{T:TypeId}{pos:String}{af:Array Edge}
theorem AL.app {k:Nat}(js:List Nat){t:Ty}{tt e:TypeId}{x y:Operand}{i:TypeInfo}{z:Value}{bytes m n1 n2:Nat}{A A2:Option Addr}{c c2:Nat}{xs ys:List t.den}{kp':(Nat→Prop)→Prop}(hrow: ∀w,Hp C H w→∃G:Nat→Prop,Row t w (Fh C H) G A2 c2 ys∧kp' G)
  (hinf:P.info? e=some i∧i.zero=some z∧i.size=m∧i.bytes=bytes∧z.cells.size=m) (hl:(xs.length+ys.length)*bytes≤140737488355328)
  (h: ∀A' c',AL r P ops Q rest C ((d,.slice A' (xs++ys).length c')::l) ((k,.own t e A' c' (xs++ys))::ded js H))
  (N:hk H k=some (.own t e A c xs):=by rfl) (hx:ev l x=some (.slice A n1 c):=by rfl) (hy:ev l y=some (.slice A2 n2 c2):=by rfl) (hn1:n1=xs.length:=by rfl) (hn2:n2=ys.length:=by rfl) (hm:m=t.size:=by rfl) (W:Nat.ble 1 bytes=true:=by rfl)
  (ht:P.underlying tt=some (.slice e):=by rfl) (hd:Nat.ble (d+1) C.n=true:=by rfl) (hj:hng [k] js H=true:=by kernel_rfl):AL r P ops Q (⟨some d,.call {callee:=.builtin .append,args:=#[x,y],argTypes:=#[tt,tt]},T,pos,af,none⟩::rest) C l H:=fun a w hf hh=>by
 subst hn1;subst hn2;subst hm
 obtain⟨O,hz,hsize,hby,hzs⟩:=hinf
 obtain⟨G,hR,_⟩:=hrow w hh
 have hO:Own t e 0 w (Fh C H) A c xs:=hh.hold k _ N
 obtain⟨A',c',w',hrun,h1,h2,h3⟩:=run_appendR (P:=P) (ty:=T) ht O hz hsize hby hzs hO hR hl (Q0 W) (fun b I hbA=>I.1 k ⟨_,N,hbA⟩) (Xq _)
 refine Z.valw (w':=w') (v:=.slice A' (xs++ys).length c') hf hd ?_ fun a' hf'=>h A' c' a' w' hf' (Hp.dd (hh.upd h2 (fun b I=>⟨_,N,I⟩) (fun b I=>?_) (fun j hj=>by cases hj) fun F B hF _ _ _ hB=>?_) hj)
 ·rw[Ql]
  simp only[execOp,resolve,invoke,builtin,Sem.run_bind,Sem.run_pure,Result.andThen_ok,X9,Q3,Xt,hf.eval hx,hf.eval hy,hrun]
 ·rcases h3 b I with h4|h4
  ·exact .inl ⟨_,N,h4⟩
  ·exact .inr ⟨by omega,(h1.lt b I).2⟩
 ·obtain⟨cells,o1,o2,o3⟩:=h1
  obtain⟨cells0,p1,p2,p3⟩:=hO
  obtain⟨cells2,q1,q2,q3,q4⟩:=hR.cells
  have hFo: ∀b,Fh C H b→b∉obl A:=fun b I hbA=>I.1 k ⟨_,N,hbA⟩
  have h1':Own t e 0 w' (Fh C H) A' c' (xs++ys):=⟨cells,o1,o2,o3⟩
  have hOi:Own t e 0 w (fun b=>Fh C H b∧b<w.heap.size) A c xs:=⟨cells0,p1,p2,fun i x O=>Qaf t (p3 i x O)⟩
  have hRi:Row t w (fun b=>Fh C H b∧b<w.heap.size) (fun _=>True) A2 c2 ys:=by
   obtain⟨r1,r2,cs,r3,r4,r5⟩:=hR
   refine⟨r1,r2,cs,r3,?_,fun i x O=>Qaf t (r5 i x O)⟩
   rcases r4 with r4|⟨b,o,r4,_,r6⟩
   ·exact .inl r4
   ·exact .inr ⟨b,o,r4,trivial,r6⟩
  obtain⟨A3,c3,w3,hrun3,h13,h23,_⟩:=run_appendR (P:=P) (ty:=T) ht O hz hsize hby hzs hOi hRi hl (Q0 W) (fun b I=>hFo b I.1) (Xq _)
  rw[hrun]at hrun3
  injection hrun3 with e1 e2
  injection e1 with e1 _ e3
  subst e1;subst e2;subst e3
  exact h13.more fun b I=>hF b I.1 I.2
theorem AL.mks (k:Nat){t:Ty}{tt e:TypeId}{x y:Operand}{i:TypeInfo}{z:Value}{bytes m u:Nat}{k1 k2:IntKind}{p q:Int}(z0:t.den)(hu:bytes*u≤140737488355328)(hinf:P.info? e=some i∧i.zero=some z∧i.size=m∧i.bytes=bytes∧z.cells.size=m)
  (h: ∀g,AL r P ops Q rest C ((d,.slice (some ⟨g,0,none⟩) u u)::l) ((k,.own t e (some ⟨g,0,none⟩) u (List.replicate u z0))::H))
  (hx:ev l x=some (.int k1 p)) (hy:ev l y=some (.int k2 q)) (hp:p=(u:Int)) (hq:q=(u:Int)) (O:Dat [] t [z] z0) (W:Nat.ble 1 bytes=true:=by rfl) (hm:m=1:=by rfl) (hzc:z.cells=#[z]:=by rfl) (hts:t.size=1:=by rfl) (h1:z.oneCell'=true:=by rfl)
  (ht:P.underlying tt=some (.slice e):=by rfl) (hd:Nat.ble (d+1) C.n=true:=by rfl) (hn:hk H k=none:=by kernel_rfl):AL r P ops Q (⟨some d,.makeSlice tt x y,T,pos,af,none⟩::rest) C l H:=fun a w hf hh=>by
 subst hm
 obtain⟨hi,hz,hsize,hby,hzs⟩:=hinf
 have hz1:t.rep w no [z] z0:=by
  have:Hp (Cx.mk 0 [] w [] no) [] w:=⟨Ch.refl w,fun k r h=>(by cases h),fun k b ⟨_,h,_⟩=>(by cases h),fun k k' b ⟨_,h,_⟩=>(by cases h),fun k r j h=>(by cases h)⟩
  have h2:=Dat.rep this t O
  refine Qcr (Qaf t h2) fun b I hl=>?_
  rcases I.1.2 with N|N|N
  ·exact N
  ·have h4:=I.2;have N:w.heap.size≤b:=N;omega
  ·cases N
 refine Z.st_makeSlice hf hd ht hi hz hsize hby hzc hts hx hy hp hq hu ?_ z0 hz1 h1 fun g w' a' hg hs hO hch hf'=>h g a' w' hf' (hh.new hn hch (fun b I=>?_) (fun j hj=>by cases hj) fun F B _ _ _=>?_)
 ·have:=Q0 W
  have h2:u≤bytes*u:=Nat.le_mul_of_pos_left _ this
  simp only[maxLen];omega
 ·simp only[Res.bl,obl,Qj]at I;omega
 ·exact(hO.base (Xq _)).more fun _ I=>I.elim
theorem AL.setel (k ke:Nat)(js:List Nat){t:Ty}{e tt:TypeId}{A:Option Addr}{c g o m:Nat}{xs:List t.den}{px py:Operand}{u:Value}{new es:List Value}{i:Int}{v:t.den}(y:t.den)(W:ix xs i=some v)(hA:A=some ⟨g,0,none⟩)
  (hD:Dat H t (es.take o++new++es.drop (o+m)) y) (h:AL r P ops Q rest C l ((k,.own t e A c (xs.set i.toNat y))::ded js H))
  (I:hk H k=some (.own t e A c xs):=by rfl) (hke:hk H ke=some (.el (some k) g (i.toNat*t.size) es):=by rfl) (hx:ev l px=some (.pointer (some ⟨g,i.toNat*t.size+o,none⟩)):=by rfl) (hy:ev l py=some u:=by rfl) (hS:szB P tt=some m:=by kernel_rfl)
  (hv:u.cells=new.toArray:=by rfl) (hm:new.length=m:=by rfl) (ho:Nat.ble (o+m) t.size=true:=by rfl) (h1:new.all (fun u=>u.oneCell')=true:=by rfl) (hel:es.length=t.size:=by rfl) (hj:hng [k] js H=true:=by kernel_rfl):
  AL r P ops Q (⟨none,.store tt px py,T,pos,af,none⟩::rest) C l H:=fun a w hf O=>by
 obtain⟨n,rfl,hn⟩:=Qaj W
 have hlt:=(Qc.1 hn).1
 have hO:Own t e 0 w (Fh C H) A c xs:=O.hold k _ I
 have hOi:Own t e 0 w (fun b=>Fh C H b∧b<w.heap.size) A c xs:=by
  obtain⟨cells0,p1,p2,p3⟩:=hO
  exact⟨cells0,p1,p2,fun i x W=>Qaf t (p3 i x W)⟩
 have hc:=(O.hold ke _ hke).1
 refine Z.st_setel (F:=fun b=>Fh C H b∧b<w.heap.size) hf hOi (k:=n) (o:=o) (m:=m) hlt (Qag hS) ho hA (by rw[hx,Addr.add_lit,Addr.add_lit];simp) hy hv hm (fun u hu=>Qz.1 h1 u hu) (by rw[Addr.add_lit];simpa using hc) hel (Qaf t (Dat.rep O t hD)) (fun b N hbA=>N.1.1 k ⟨_,I,hbA⟩) fun w' a' hch hs hO' hf'=>
  h a' w' hf' (Hp.dd (O.upd hch (fun b N=>⟨_,I,N⟩) (fun b N=>.inl ⟨_,I,N⟩) (fun j hj=>by cases hj) fun F B hF _ _ _ _=>hO'.more fun b N=>hF b N.1 N.2) hj)
theorem AL.cuth (k kn:Nat){t:Ty}{tt e:TypeId}{x hi:Operand}{A:Option Addr}{c:Nat}{xs:List t.den}{k2:IntKind}{q:Int}{v:Nat}(hq:q=(v:Int))(h2:v≤xs.length)
  (h: ∀c',AL r P ops Q rest C ((d,.slice A (xs.take v).length c')::l) ((kn,.sh (.slice t) [.slice A (xs.take v).length c'] (xs.take v))::H))
  (N:hk H k=some (.sh (.slice t) [.slice A xs.length c] xs):=by rfl) (hx:ev l x=some (.slice A xs.length c):=by rfl) (O:ev l hi=some (.int k2 q):=by rfl) (hS:szB P e=some t.size:=by kernel_rfl)
  (ht:P.underlying tt=some (.slice e):=by rfl) (hd:Nat.ble (d+1) C.n=true:=by rfl) (hn:hk H kn=none:=by kernel_rfl):AL r P ops Q (⟨some d,.slice tt x none (some hi) none,T,pos,af,none⟩::rest) C l H:=fun a w W hh=>by
 have hr:(Ty.slice t).rep w (Fh C H) [.slice A xs.length c] xs:=hh.hold k _ N
 have hlen:=Qgg hr
 have I:(xs.take v).length=v:=by rw[Qu];omega
 refine Z.val (v:=.slice A v c) W hd (Qgv ht (Qag hS) (W.eval hx) (W.eval O) hq (by omega)) fun a' hf'=>?_
 have hr2:=rep_take hr h2
 rw[←I]at hf'
 have hr3:(Ty.slice t).rep w (Fh C H) [.slice A (xs.take v).length c] (xs.take v):=by rw[I];exact hr2
 exact h _ a' w hf' (hh.add hn rfl (fun j hj=>by cases hj) (Qaf _ hr3))
theorem AL.cuto (k:Nat)(js:List Nat){t:Ty}{tt e e':TypeId}{x N:Operand}{A:Option Addr}{c:Nat}{xs:List t.den}{k2:IntKind}{q:Int}{v:Nat}(hq:q=(v:Int))(h2:v≤xs.length)
  (h:AL r P ops Q rest C ((d,.slice A (xs.take v).length c)::l) ((k,.own t e' A c (xs.take v))::ded js H))
  (I:hk H k=some (.own t e' A c xs):=by rfl) (hx:ev l x=some (.slice A xs.length c):=by rfl) (O:ev l N=some (.int k2 q):=by rfl) (hS:szB P e=some t.size:=by kernel_rfl)
  (ht:P.underlying tt=some (.slice e):=by rfl) (hd:Nat.ble (d+1) C.n=true:=by rfl) (W:hng [k] js H=true:=by kernel_rfl):AL r P ops Q (⟨some d,.slice tt x none (some N) none,T,pos,af,none⟩::rest) C l H:=fun a w hf hh=>by
 have hO:Own t e' 0 w (Fh C H) A c xs:=hh.hold k _ I
 have hlen:=hO.len
 have hl2:(xs.take v).length=v:=by rw[Qu];omega
 refine Z.val (v:=.slice A v c) hf hd (Qgv ht (Qag hS) (hf.eval hx) (hf.eval O) hq (by omega)) fun a' hf'=>?_
 rw[←hl2]at hf'
 refine h a' w hf' (Hp.dd (hh.upd (S:=[]) (Ch.refl w) (by simp) (fun b hb=>.inl ⟨_,I,hb⟩) (fun j W=>by cases W) fun F B hF _ _ _ _=>?_) W)
 obtain⟨cells,o1,o2,o3⟩:=Own.take hO h2
 exact⟨cells,o1,o2,fun i x N=>Qcr (o3 i x N) fun b hb hl=>hF b hb hl⟩
theorem AL.ixt {tt:TypeId}{x y:Operand}{s:ByteArray}{kd:IntKind}{i:Int}{v:UInt8}(W:ix s.data.toList i=some v)(h:AL r P ops Q rest C ((d,.int .u8 (v.toNat:Int))::l) H)
  (ht:P.underlying tt=some .string:=by rfl) (hx:ev l x=some (.string s):=by rfl) (hy:ev l y=some (.int kd i):=by rfl) (hd:Nat.ble (d+1) C.n=true:=by rfl):AL r P ops Q (⟨some d,.index tt x y,T,pos,af,none⟩::rest) C l H:=by
 obtain⟨k,rfl,N⟩:=Qaj W
 have I:=(Qc.1 N).1
 refine AL.val hd (fun a w O hh=>?_) h
 have:=r_indexStr (P:=P) (w:=w) (d:=some d) (T:=T) (pos:=pos) (af:=af) (gd:=none) ht (O.eval hx) (O.eval hy) rfl (show k<s.size from I)
 rw[this]
 have hb:bat s k=v:=by
  unfold bat
  rw[Wl,←Xr,N];rfl
 rw[hb]
theorem AL.rgs (k:Nat){tt:TypeId}{x:Operand}{s:ByteArray}(h: ∀g,AL r P ops Q rest C ((d,.pointer (some ⟨g,0,none⟩))::l) ((k,.si g s 0)::H))
  (N:P.underlying tt=some .string:=by rfl) (O:ev l x=some (.string s):=by rfl) (W:Nat.ble (d+1) C.n=true:=by rfl) (hn:hk H k=none:=by kernel_rfl):AL r P ops Q (⟨some d,.range tt x,T,pos,af,none⟩::rest) C l H:=fun a w hf hh=>
 Z.st_rangeStr hf W N O fun g w' a' hg hs hb I hf'=>h g a' w' hf' (hh.new hn I (fun b hb'=>by simp only[Res.bl,Qj]at hb';omega) (fun j hj=>by cases hj) fun _ _ _ _ _=>hb)
theorem AL.nxs (k:Nat)(js:List Nat){x:Operand}{s:ByteArray}{g p:Nat}{ρ:Type}{A B R:Option ρ}(N:(if p<s.size then A else B)=R)
  (h2:p<s.size→A=R→AL r P ops Q rest C ((d,.tuple #[.bool true,.int .i64 (p:Int),.int .i32 ((Utf8.decode s p).1:Int)])::l) ((k,.si g s (p+(Utf8.decode s p).2))::ded js H))
  (h1: ¬p<s.size→B=R→AL r P ops Q rest C ((d,.tuple #[.bool false])::l) H)
  (I:hk H k=some (.si g s p):=by rfl) (hx:ev l x=some (.pointer (some ⟨g,0,none⟩)):=by rfl) (hd:Nat.ble (d+1) C.n=true:=by rfl) (O:hng [k] js H=true:=by kernel_rfl):AL r P ops Q (⟨some d,.next x true,T,pos,af,none⟩::rest) C l H:=fun a w hf W=>
 Z.st_nextStr hf hd hx (W.hold k _ I) (fun hp a' hf'=>h1 hp (by rw[if_neg hp]at N;exact N) a' w hf' W) fun hp w' a' hch hs hsi hf'=>
  h2 hp (by rw[if_pos hp]at N;exact N) a' w' hf' (Hp.dd (W.upd hch (fun b hb=>⟨_,I,hb⟩) (fun b hb=>.inl ⟨_,I,hb⟩) (fun j O=>by cases O) fun _ _ _ _ _ _ _=>hsi) O)
section
variable {κ:Type}[DecidableEq κ]{enc:κ→Value}{kt et tt:TypeId}{t:Ty}{agg:Bool}{b:Nat}{m:List (κ×t.den)}
theorem AL.mkm (k:Nat)(κ:Type)(enc:κ→Value)(t:Ty)(agg:Bool)(h: ∀b,AL r P ops Q rest C ((d,.map (some b))::l) ((k,.mp κ enc t agg b [])::H))(O:Nat.ble (d+1) C.n=true:=by rfl)(W:hk H k=none:=by kernel_rfl):
  AL r P ops Q (⟨some d,.makeMap tt none,T,pos,af,none⟩::rest) C l H:=fun a w hf hh=>
 Z.st_makeMap rfl hf O enc t agg no fun g w' a' hg hs I N hf'=>h g a' w' hf' (hh.new W N (fun b hb'=>by simp only[Res.bl,Qj]at hb';omega) (fun j hj=>by cases hj) fun F B h1 _ _=>I.to (Ch.refl w') (by simp) fun b I _=>I.elim)
def asmp:Option Res→Option Res
 |some (.lmp κ enc t agg b m)=>some (.mp κ enc t agg b m)
 |r=>r
theorem Qgd {κ:Type}{enc:κ→Value}{t:Ty}{agg:Bool}{b:Nat}{m:List (κ×t.den)}{C:Cx}{H:List (Nat×Res)}{w:World}(O:Hp C H w){k:Nat}(h:asmp (hk H k)=some (.mp κ enc t agg b m)):Mt enc t agg w (Fh C H) b m:=by
 cases I:hk H k with
 |none=>rw[I]at h;cases h
 |some r=>
  rw[I]at h
  have N:=O.hold k r I
  cases r with
  |lmp κ' enc' t' agg' b' m'=>
   have h:some (Res.mp κ' enc' t' agg' b' m')=_:=h
   injection h with h;cases h;exact N.1
  |mp κ' enc' t' agg' b' m'=>
   have h:some (Res.mp κ' enc' t' agg' b' m')=_:=h
   injection h with h;cases h;exact N
  |_=>injection h with h;cases h
theorem Qfn {w:World}{x:t.den}{cs:List Value}(hh:Hp C H w)(hr:t.rep w (Fh C H) cs x)(kn:Nat)(hn:nok H kn (lv t)=true): ∃ps:Lf,ps.length=lv t∧cs=cl t x ps∧Hp C (hcat (kx kn (rs t x ps)) H) w:=by
 obtain⟨ps,W,hc,I⟩:=rep_cl (B:=Bk H) t (Qaf t hr)
 exact⟨ps,W,hc,hh.adds (by rw[Qbd t x ps W];exact hn) fun N O=>⟨(I N O).2.1,(I N O).2.2,(I N O).1⟩⟩
theorem AL.lku (k kn:Nat){x y:Operand}{z v:t.den}{zs:List Value}(K:Ky P kt enc)(key:κ)(W: ∀w,(zeroValue et).run P w=.ok (vof agg zs) w)(hD:Dat H t zs z)(hv:mget z m key=v)
  (h:t.ok v→tele (lv t) fun ps=>AL r P ops Q rest C ((d,vof agg (cl t (v) ps))::l) (hcat (kx kn (rs t (v) ps)) H))
  (I:asmp (hk H k)=some (.mp κ enc t agg b m):=by rfl) (hx:ev l x=some (.map (some b)):=by rfl) (hy:ev l y=some (enc key):=by rfl) (ht:P.underlying tt=some (.map kt et):=by rfl) (hd:Nat.ble (d+1) C.n=true:=by rfl) (hn:nok H kn (lv t)=true:=by kernel_rfl):
  AL r P ops Q (⟨some d,.lookup tt x y false,T,pos,af,none⟩::rest) C l H:=fun a w hf N=>by
 subst hv
 exact Z.st_lookup hf hd K ht W z (Dat.rep N t hD) (Qgd N I) hx key hy fun cs a' O hf'=>by
  obtain⟨ps,hl,rfl,h2⟩:=Qfn N O kn hn
  exact Qam (h (rep_ok t O)) ps hl a' w hf' h2
theorem AL.lk2 (k kn:Nat){x y:Operand}{z v:t.den}{zs:List Value}(K:Ky P kt enc)(key:κ)(W: ∀w,(zeroValue et).run P w=.ok (vof agg zs) w)(hD:Dat H t zs z)(hv:mget z m key=v)
  (h:t.ok v→tele (lv t) fun ps=>AL r P ops Q rest C ((d,.tuple #[vof agg (cl t (v) ps),.bool (mhas m key)])::l) (hcat (kx kn (rs t (v) ps)) H))
  (I:asmp (hk H k)=some (.mp κ enc t agg b m):=by rfl) (hx:ev l x=some (.map (some b)):=by rfl) (hy:ev l y=some (enc key):=by rfl) (ht:P.underlying tt=some (.map kt et):=by rfl) (hd:Nat.ble (d+1) C.n=true:=by rfl) (hn:nok H kn (lv t)=true:=by kernel_rfl):
  AL r P ops Q (⟨some d,.lookup tt x y true,T,pos,af,none⟩::rest) C l H:=fun a w hf N=>by
 subst hv
 exact Z.st_lookup2 hf hd K ht W z (Dat.rep N t hD) (Qgd N I) hx key hy fun cs a' O hf'=>by
  obtain⟨ps,hl,rfl,h2⟩:=Qfn N O kn hn
  exact Qam (h (rep_ok t O)) ps hl a' w hf' h2
theorem AL.mup (k:Nat)(js:List Nat){x y v:Operand}{cs:List Value}{u:t.den}(K:Ky P kt enc)(key:κ)(hD:Dat H t cs u)(h:AL r P ops Q rest C l ((k,.mp κ enc t agg b (mins m key u))::ded js H))
  (I:hk H k=some (.mp κ enc t agg b m):=by rfl) (hx:ev l x=some (.map (some b)):=by rfl) (hy:ev l y=some (enc key):=by rfl) (hv:ev l v=some (vof agg cs):=by rfl) (ht:P.underlying tt=some (.map kt et):=by rfl) (N:hng [k] js H=true:=by kernel_rfl):
  AL r P ops Q (⟨none,.mapUpdate tt x y v,T,pos,af,none⟩::rest) C l H:=fun a w hf O=>by
 have hm:Mt enc t agg w (Fh C H) b m:=O.hold k _ I
 have hm':Mt enc t agg w (fun b=>Fh C H b∧b<w.heap.size) b m:=by
  obtain⟨es,h1,h2,h3⟩:=hm
  refine⟨es,h1,h2,fun i p hp=>?_⟩
  obtain⟨cs,h4,h5⟩:=h3 i p hp
  exact⟨cs,h4,Qaf t h5⟩
 refine Z.st_mapUpdate hf K ht hm' hx key hy hv (Qaf t (Dat.rep O t hD)) (fun b' hb' e=>hb'.1.1 k ⟨_,I,by rw[e];simp[Res.bl]⟩) fun w' a' W hs hm2 hf'=>
  h a' w' hf' (Hp.dd (O.upd W (fun b' hb'=>⟨_,I,hb'⟩) (fun b' hb'=>.inl ⟨_,I,hb'⟩) (fun j N=>by cases N) fun F B hF _ _ _ _=>?_) N)
 exact hm2.to (Ch.refl w') (by simp) fun b' hb' _=>⟨by simp,hF b' hb'.1 hb'.2⟩
end
def Ct (P:Program)(f:FuncId)(vs:List Value)(H:List (Nat×Res))(S:List Nat)(R:Value→List (Nat×Res)→Prop):Prop:=
 ∀(w:World) (F:Nat→Prop),Hp ⟨0,[],w,S,F⟩ H w→Calls P f vs.toArray w fun e w'=>∃v H',e=.returned v∧R v H'∧Hp ⟨0,[],w,S,F⟩ H' w'
theorem Ct.enter {f:FuncId}{fn:Func}{c:Code}{vs:List Value}{n:Nat}{S:List Nat}{R:Value→List (Nat×Res)→Prop}(O:P.funcs[f]?=some fn)(W:fn.body=some c)(hn:fn.ntmps=n)(hm:Nat.ble vs.length n=true)
  (h: ∀w F,AX none P (bodyPost P fn fun e w'=>∃v H',e=.returned v∧R v H'∧Hp ⟨0,[],w,S,F⟩ H' w') [] c ⟨n,[],w,S,F⟩ (argl vs 0) H):Ct P f vs H S R:=fun w F I=>
 Z.enter O W hn (Q0 hm) fun a N=>h w F a w N ⟨I.ch,I.hold,I.bnd,I.dis,I.ref⟩
theorem AX.ret {fn:Func}{K:List Kx}{w0:World}{S:List Nat}{F:Nat→Prop}{n:Nat}{R:Value→List (Nat×Res)→Prop}(ps:List (Nat×Nat))(v:Value)(hres: ∀a w,Fr a n [] l→Hp ⟨n,[],w0,S,F⟩ H w→(results fn a.tmps).run P w=.ok v w)(W:R v (A.ren H ps))(h1:nod (ps.map (·.1))=true:=by rfl)(h2:nod (ps.map (·.2))=true:=by rfl):
  AX r P (bodyPost P fn fun e w'=>∃v H',e=.returned v∧R v H'∧Hp ⟨0,[],w0,S,F⟩ H' w') K .ret ⟨n,[],w0,S,F⟩ l H:=AX.ret0 fun a w N O=>by
 have I:=O.ren ps h1 h2
 exact Z.retv N (hres a w N O) ⟨v,_,rfl,W,⟨I.ch,I.hold,I.bnd,I.dis,I.ref⟩⟩
theorem AE.ret {fn:Func}{w0:World}{S:List Nat}{F:Nat→Prop}{n:Nat}{R:Value→List (Nat×Res)→Prop}(ps:List (Nat×Nat))(v:Value)(hres: ∀a w,Fr a n [] l→Hp ⟨n,[],w0,S,F⟩ H w→(results fn a.tmps).run P w=.ok v w)(W:R v (A.ren H ps))(h1:nod (ps.map (·.1))=true:=by rfl)(h2:nod (ps.map (·.2))=true:=by rfl):
  AE r P (bodyPost P fn fun e w'=>∃v H',e=.returned v∧R v H'∧Hp ⟨0,[],w0,S,F⟩ H' w') [] .normal ⟨n,[],w0,S,F⟩ l H:=fun a w N O=>by
 have I:=O.ren ps h1 h2
 exact Z.endv N (hres a w N O) ⟨v,_,rfl,W,⟨I.ch,I.hold,I.bnd,I.dis,I.ref⟩⟩
end
inductive Sub (H:List (Nat×Res)):List (Nat×Res)→List (Nat×Nat)→List Nat→Prop
 |nil:Sub H [] [] []
 |s (k:Nat) {k0:Nat} {r:Res} {H0:List (Nat×Res)} {ms:List (Nat×Nat)} {ls:List Nat} (h:Sub H H0 ms ls) (h1:hk H k=some r:=by rfl) (hb:r.bl=[]:=by rfl) (hr:r.ref=none:=by rfl):Sub H ((k0,r)::H0) ms ls
 |o (k:Nat) {k0:Nat} {t:Ty} {e:TypeId} {A:Option Addr} {c:Nat} {xs:List t.den} {H0:List (Nat×Res)} {ms:List (Nat×Nat)} {ls:List Nat} (h:Sub H H0 ms ls) (h1:hk H k=some (.own t e A c xs):=by rfl):Sub H ((k0,.ln t A c xs)::H0) ms (k::ls)
 |l (k:Nat) {k0:Nat} {t:Ty} {A:Option Addr} {c:Nat} {xs:List t.den} {H0:List (Nat×Res)} {ms:List (Nat×Nat)} {ls:List Nat} (h:Sub H H0 ms ls) (h1:hk H k=some (.sh (.slice t) [.slice A xs.length c] xs):=by rfl):Sub H ((k0,.ln t A c xs)::H0) ms ls
 |nl {k0:Nat} {t:Ty} {H0:List (Nat×Res)} {ms:List (Nat×Nat)} {ls:List Nat} (h:Sub H H0 ms ls):Sub H ((k0,.ln t none 0 [])::H0) ms ls
 |ns {k0:Nat} {t:Ty} {H0:List (Nat×Res)} {ms:List (Nat×Nat)} {ls:List Nat} (h:Sub H H0 ms ls):Sub H ((k0,.sh (.slice t) [.slice none 0 0] [])::H0) ms ls
 |b (k:Nat) {k0:Nat} {g:Nat} {e:TypeId} {cs:List Value} {H0:List (Nat×Res)} {ms:List (Nat×Nat)} {ls:List Nat} (h:Sub H H0 ms ls) (h1:hk H k=some (.blk g e cs):=by rfl):Sub H ((k0,.el none g 0 cs)::H0) ms (k::ls)
 |lm (k:Nat) {k0:Nat} {κ:Type} {enc:κ→Value} {t:Ty} {agg:Bool} {b:Nat} {m:List (κ×t.den)} {H0:List (Nat×Res)} {ms:List (Nat×Nat)} {ls:List Nat} (h:Sub H H0 ms ls) (h1:hk H k=some (.mp κ enc t agg b m):=by rfl):Sub H ((k0,.lmp κ enc t agg b m)::H0) ms (k::ls)
 |m (k:Nat) {k0:Nat} {r:Res} {H0:List (Nat×Res)} {ms:List (Nat×Nat)} {ls:List Nat} (h:Sub H H0 ms ls) (h1:hk H k=some r:=by rfl) (hr:r.ref=none:=by rfl):Sub H ((k0,r)::H0) ((k0,k)::ms) ls
def blks (H:List (Nat×Res)):List (Nat×Nat)→List Nat
 | []=>[]
 |(_,k)::ms=>match hk H k with
  |some r=>r.bl++blks H ms
  |none=>blks H ms
theorem Qda {H:List (Nat×Res)}{b:Nat}: ∀{ms:List (Nat×Nat)},b∈blks H ms↔∃p,p∈ms∧Bk H p.2 b
 | []=>by simp[blks]
 |(i,k)::ms=>by
  unfold blks
  cases W:hk H k with
  |none=>
   simp only[]
   rw[Qda]
   exact⟨fun⟨p,I,N⟩=>⟨p,Qe _ I,N⟩,fun⟨p,I,N⟩=>by
    rcases Qk.1 I with rfl|I
    ·obtain⟨r,O,_⟩:=N;rw[W]at O;cases O
    ·exact⟨p,I,N⟩⟩
  |some r=>
   simp only[Qn]
   rw[Qda]
   constructor
   ·rintro(h|⟨p,I,N⟩)
    ·exact⟨(i,k),Qg ..,r,W,h⟩
    ·exact⟨p,Qe _ I,N⟩
   ·rintro⟨p,I,N⟩
    rcases Qk.1 I with rfl|I
    ·obtain⟨r2,O,h4⟩:=N;rw[W]at O;injection O with O;subst O;exact .inl h4
    ·exact .inr ⟨p,I,N⟩
theorem Sub.hp {C:Cx}{H:List (Nat×Res)}{w:World}(hh:Hp C H w){H0:List (Nat×Res)}{ms:List (Nat×Nat)}{ls:List Nat}(h:Sub H H0 ms ls)(h1:nod (H0.map (·.1))=true)(h2:nod (ms.map (·.2))=true)(h3:ls.all (fun k=> !(ms.map (·.2)).any (Nat.beq k))=true):
  Hp ⟨0,[],w,blks H ms,Fh C H⟩ H0 w:=by
 have hvis: ∀{H0:List (Nat×Res)} {k:Nat} {r:Res},hk H0 k=some r→(k,r)∈H0:=by
  intro H0
  induction H0 with
  |nil=>intro k r h;cases h
  |cons p q O=>
   obtain⟨d,u⟩:=p
   intro k r h
   rw[Qaa]at h
   split at h
   ·rename_i e;subst e;injection h with h;subst h;exact Qg ..
   ·exact Qe _ (O h)
 have hmoved: ∀{H0:List (Nat×Res)} {ms:List (Nat×Nat)} {ls:List Nat},Sub H H0 ms ls→∀k r,(k,r)∈H0→r.ref=none∧∀b,b∈r.bl→∃j,(k,j)∈ms∧hk H j=some r:=by
  intro H0 ms ls h
  induction h with
  |nil=>intro k r I;cases I
  |s k _ h1 N hr O=>
   intro k r I
   rcases Qk.1 I with e|I
   ·injection e with e1 e2;subst e1;subst e2;exact⟨hr,fun b hb2=>by rw[N]at hb2;cases hb2⟩
   ·exact O k r I
  |m k _ h1 hr O=>
   intro k r I
   rcases Qk.1 I with e|I
   ·injection e with e1 e2;subst e1;subst e2;exact⟨hr,fun b hb2=>⟨_,Qg ..,h1⟩⟩
   ·obtain⟨W,h5⟩:=O k r I
    exact⟨W,fun b N=>by obtain⟨j,h6,h7⟩:=h5 b N;exact⟨j,Qe _ h6,h7⟩⟩
  |_=>
   rename_i O
   intro k r I
   rcases Qk.1 I with e|I
   ·injection e with e1 e2;subst e1;subst e2;exact⟨rfl,fun b hb2=>by cases hb2⟩
   ·exact O k r I
 have hbk: ∀k b,Bk H0 k b→∃j,(k,j)∈ms∧Bk H j b:=fun k b ⟨r,W,h5⟩=>by
  obtain⟨j,h6,h7⟩:=(hmoved h k r (hvis W)).2 b h5
  exact⟨j,h6,r,h7,h5⟩
 have hnb: ∀b,(∀k,¬Bk H k b)→∀k,¬Bk H0 k b:=fun b hB k hk=>by obtain⟨j,_,W⟩:=hbk k b hk;exact hB j W
 have hF: ∀b,Fh C H b→Fh ⟨0,[],w,blks H ms,Fh C H⟩ H0 b:=fun b N=>⟨hnb b N.1,.inl N⟩
 have hholds: ∀{H1:List (Nat×Res)} {ms1:List (Nat×Nat)} {ls1:List Nat},Sub H H1 ms1 ls1→(∀k,k∈ls1→∀p,p∈ms→p.2≠k)→∀k r,(k,r)∈H1→r.holds w (Fh ⟨0,[],w,blks H ms,Fh C H⟩ H0) (Bk H0):=by
  intro H1 ms1 ls1 h
  have go: ∀k r,hk H k=some r→r.ref=none→r.holds w (Fh ⟨0,[],w,blks H ms,Fh C H⟩ H0) (Bk H0):=fun k r W h5=>
   Res.to (hh.hold k r W) (S:=[]) (Ch.refl w) (fun b N _=>⟨by simp,hF b N⟩) (fun b N _=>⟨by simp,hnb b N⟩) (fun i b hi _=>by rw[h5]at hi;cases hi) (by simp)
  induction h with
  |nil=>intro _ k r I;cases I
  |s k _ h1 N hr O=>
   intro hl k r I
   rcases Qk.1 I with e|I
   ·injection e with e1 e2;subst e1;subst e2;exact go _ _ h1 hr
   ·exact O hl k r I
  |m k _ h1 hr O=>
   intro hl k r I
   rcases Qk.1 I with e|I
   ·injection e with e1 e2;subst e1;subst e2;exact go _ _ h1 hr
   ·exact O hl k r I
  |o k _ h1 O=>
   intro hl k' r I
   rcases Qk.1 I with e|I
   ·injection e with e1 e2;subst e1;subst e2
    obtain⟨G,W,h5⟩:=rowO h1 w hh
    refine Row.to W (S:=[]) (Ch.refl w) (fun b N _=>⟨by simp,hF b N⟩) fun b N _=>⟨by simp,fun k2 hk2=>?_⟩
    obtain⟨j,h6,h7⟩:=hbk k2 b hk2
    exact hl k (Qg ..) _ h6 (hh.dis j k b h7 (h5 b N))
   ·exact O (fun k hk=>hl k (Qe _ hk)) k' r I
  |b k _ h1 O=>
   intro hl k' r I
   rcases Qk.1 I with e|I
   ·injection e with e1 e2;subst e1;subst e2
    have hB:Blk w _ _ _:=hh.hold k _ h1
    refine⟨fun j u hu=>?_,hB.lt,fun k2 hk2=>?_⟩
    ·rw[Addr.add_lit,Wf,hB.cell];exact hu
    ·obtain⟨j,h6,h7⟩:=hbk k2 _ hk2
     exact hl k (Qg ..) _ h6 (hh.dis j k _ h7 ⟨_,h1,by simp[Res.bl]⟩)
   ·exact O (fun k hk=>hl k (Qe _ hk)) k' r I
  |lm k _ h1 O=>
   intro hl k' r I
   rcases Qk.1 I with e|I
   ·injection e with e1 e2;subst e1;subst e2
    have hB:Mt _ _ _ w (Fh C H) _ _:=hh.hold k _ h1
    refine⟨Mt.to hB (S:=[]) (Ch.refl w) (by simp) fun b N _=>⟨by simp,hF b N⟩,fun k2 hk2=>?_⟩
    obtain⟨j,h6,h7⟩:=hbk k2 _ hk2
    exact hl k (Qg ..) _ h6 (hh.dis j k _ h7 ⟨_,h1,by simp[Res.bl]⟩)
   ·exact O (fun k hk=>hl k (Qe _ hk)) k' r I
  |l k _ h1 O=>
   intro hl k' r I
   rcases Qk.1 I with e|I
   ·injection e with e1 e2;subst e1;subst e2
    obtain⟨G,W,h5⟩:=rowS h1 w hh
    exact Row.to W (S:=[]) (Ch.refl w) (fun b N _=>⟨by simp,hF b N⟩) fun b N _=>⟨by simp,hnb b (h5 b N)⟩
   ·exact O hl k' r I
  |nl _ O=>
   intro hl k' r I
   rcases Qk.1 I with e|I
   ·injection e with e1 e2;subst e1;subst e2
    exact⟨Q1 _,by simp[maxLen],[],by simp,.inl rfl,fun i x hi=>by simp at hi⟩
   ·exact O hl k' r I
  |ns _ O=>
   intro hl k' r I
   rcases Qk.1 I with e|I
   ·injection e with e1 e2;subst e1;subst e2;exact Qdg _
   ·exact O hl k' r I
 have hls: ∀k,k∈ls→∀p,p∈ms→p.2≠k:=fun k hk p hp e=>by
  have W:=Qz.1 h3 k hk
  simp only[Xs,List.any_map,X1]at W
  exact W p hp (by simp[Function.comp,e])
 refine⟨Ch.refl' _ _,fun k r hk1=>hholds h hls k r (hvis hk1),fun k b N=>?_,fun k k' b N hb'=>?_,fun k r j hk1 hr=>?_⟩
 ·obtain⟨j,W,h5⟩:=hbk k b N
  exact⟨.inr (Qda.2 ⟨_,W,h5⟩),(hh.bnd j b h5).2⟩
 ·obtain⟨j,W,h5⟩:=hbk k b N
  obtain⟨j',h6,h7⟩:=hbk k' b hb'
  exact Qjc (f:=fun p:Nat×Nat=>p.2) (g:=fun p:Nat×Nat=>p.1) h2 (k,j) (k',j') W h6 (hh.dis j j' b h5 h7)
 ·rw[(hmoved h k r (hvis hk1)).1]at hr;cases hr
def kill:List Nat→List (Nat×Res)→List (Nat×Res)
 | [],H=>H
 |k::ks,H=>(k,.dead)::drp k (kill ks H)
theorem Qdf {H:List (Nat×Res)}: ∀{ks:List Nat} {j:Nat} {r:Res},hk (kill ks H) j=some r→r=.dead∨(hk H j=some r∧j∉ks∧∀k,k∈ks→r.ref≠some k)
 | [],j,r,h=>.inr ⟨h,by simp,by simp⟩
 |k::ks,j,r,h=>by
  unfold kill at h
  rw[Qaa]at h
  split at h
  ·injection h with h;exact .inl h.symm
  ·rename_i I
   rcases Qbw k _ j r h with N|⟨N,h2⟩
   ·exact .inl N
   ·rcases Qdf N with O|⟨O,h4,h5⟩
    ·exact .inl O
    ·refine .inr ⟨O,fun W=>?_,fun i hi=>?_⟩
     ·rcases Qk.1 W with e|W
      ·exact I e.symm
      ·exact h4 W
     ·rcases Qk.1 hi with rfl|hi
      ·exact h2
      ·exact h5 i hi
theorem Qdh {k:Nat}: ∀{H:List (Nat×Res)} {j:Nat} {r:Res},hk H j=some r→r.ref≠some k→hk (drp k H) j=some r
 | [],_,_,h,_=>by cases h
 |(d,u)::q,j,r,I,N=>by
  unfold drp
  rw[Qaa]at I ⊢
  by_cases O:d=j
  ·rw[if_pos O]at I ⊢
   injection I with I
   subst I
   cases W:u.ref with
   |none=>rfl
   |some i=>
    simp only[]
    have:Nat.beq i k=false:=by cases hb:Nat.beq i k with
     |false=>rfl
     |true=>exact absurd (by rw[W,Wr hb]) N
    rw[this];rfl
  ·rw[if_neg O]at I ⊢
   exact Qdh I N
theorem Qey {H:List (Nat×Res)}: ∀{ks:List Nat} {j:Nat} {r:Res},hk H j=some r→j∉ks→(∀k,k∈ks→r.ref≠some k)→hk (kill ks H) j=some r
 | [],_,_,h,_,_=>h
 |k::ks,j,r,h,I,N=>by
  unfold kill
  rw[Qaa,if_neg (fun e=>I (by rw[e];exact Qg ..))]
  exact Qdh (Qey h (fun O=>I (Qe _ O)) fun i W=>N i (Qe _ W)) (N k (Qg ..))
def sft (n:Nat):List (Nat×Res)→List (Nat×Res)
 | []=>[]
 |(k,r)::H=>(k+n,r)::sft n H
theorem Qgy {n:Nat}{H0:List (Nat×Res)}: ∀{H:List (Nat×Res)} {j:Nat} {r:Res},hk (hcat (sft n H) H0) j=some r→(∃k,j=k+n∧hk H k=some r)∨(hk H0 j=some r∧∀k,j=k+n→hk H k=none)
 | [],j,r,h=>.inr ⟨h,fun _ _=>rfl⟩
 |(d,u)::H,j,r,h=>by
  replace h:hk ((d+n,u)::hcat (sft n H) H0) j=some r:=h
  rw[Qaa]at h
  split at h
  ·rename_i e;injection h with h;subst h;exact .inl ⟨d,e.symm,by rw[Qaa,if_pos rfl]⟩
  ·rename_i I
   rcases Qgy h with⟨k,N,O⟩|⟨N,O⟩
   ·exact .inl ⟨k,N,by rw[Qaa,if_neg (fun e=>I (by rw[e,N]))];exact O⟩
   ·exact .inr ⟨N,fun k hk=>by rw[Qaa,if_neg (fun e=>I (by rw[e,hk]))];exact O k hk⟩
def outs:List (Nat×Res)→Bool
 | []=>true
 |(_,r)::H=>(match r with| .ln _ _ _ _=>false| .el _ _ _ _=>false| .mit _ _ _ _ _ _=>false| .lmp _ _ _ _ _ _=>false|_=>true)&&outs H
theorem Qca: ∀{H:List (Nat×Res)} {k:Nat} {r:Res},outs H=true→hk H k=some r→(∀t A c xs,r≠ .ln t A c xs)∧(∀k b o cs,r≠ .el k b o cs)∧r.ref=none
 | [],_,_,_,h=>by cases h
 |(d,u)::H,k,r,I,h=>by
  simp only[outs,Qm]at I
  rw[Qaa]at h
  split at h
  ·injection h with h;subst h
   cases u<;>simp_all [Res.ref]
  ·exact Qca I.2 h
theorem outs_lmp: ∀{H:List (Nat×Res)} {k:Nat} {κ:Type} {enc:κ→Value} {t:Ty} {agg:Bool} {b:Nat} {m:List (κ×t.den)},outs H=true→hk H k=some (.lmp κ enc t agg b m)→False
 | [],_,_,_,_,_,_,_,_,h=>by cases h
 |(d,u)::H,k,_,_,_,_,_,_,I,h=>by
  simp only[outs,Qm]at I
  rw[Qaa]at h
  split at h
  ·injection h with h;subst h;exact absurd I.1 (by simp)
  ·exact outs_lmp I.2 h
def frs (n:Nat)(H:List (Nat×Res)):List (Nat×Res)→Bool
 | []=>true
 |(k,_)::H'=>(match hk H (k+n)with|none=>true|some _=>false)&&frs n H H'
theorem Hp.back {C:Cx}{H H':List (Nat×Res)}{w w':World}{ms:List (Nat×Nat)}{n:Nat}(h:Hp C H w)(h':Hp ⟨0,[],w,blks H ms,Fh C H⟩ H' w')(ho:outs H'=true)(hf:frs n H H'=true):Hp C (hcat (sft n H') (kill (ms.map (·.2)) H)) w':=by
 have hS: ∀b,b∈blks H ms→∃k,k∈ms.map (·.2)∧Bk H k b:=fun b O=>by
  obtain⟨p,N,I⟩:=Qda.1 O;exact⟨p.2,Qv.2 ⟨p,N,rfl⟩,I⟩
 have hbk: ∀j b,Bk (hcat (sft n H') (kill (ms.map (·.2)) H)) j b→(∃k,j=k+n∧Bk H' k b)∨((∀k,j=k+n→hk H' k=none)∧Bk H j b∧j∉ms.map (·.2)):=fun j b ⟨r,N,I⟩=>by
  rcases Qgy N with⟨k,h3,W⟩|⟨h3,W⟩
  ·exact .inl ⟨k,h3,r,W,I⟩
  ·rcases Qdf h3 with rfl|⟨h5,h6,_⟩
   ·cases I
   ·exact .inr ⟨W,⟨r,h5,I⟩,h6⟩
 have hnew: ∀k b,Bk H' k b→(w.heap.size≤b∨b∈blks H ms)∧b<w'.heap.size:=fun k b O=>h'.bnd k b O
 have hold: ∀b,(∀k,¬Bk H k b)→b<w.heap.size→b∉blks H ms∧∀j,¬Bk (hcat (sft n H') (kill (ms.map (·.2)) H)) j b:=fun b hB hl=>by
  refine⟨fun O=>by obtain⟨k,_,N⟩:=hS b O;exact hB k N,fun j hj=>?_⟩
  rcases hbk j b hj with⟨k,_,N⟩|⟨_,N,_⟩
  ·rcases(hnew k b N).1 with I|I
   ·omega
   ·obtain⟨k,_,h3⟩:=hS b I;exact hB k h3
  ·exact hB j N
 have hch:=h'.ch
 have hsz:w.heap.size≤w'.heap.size:=hch.size
 have hrefk: ∀j r i,hk H j=some r→r.ref=some i→i∉ms.map (·.2)→∀b,Bk H i b→Bk (hcat (sft n H') (kill (ms.map (·.2)) H)) i b:=fun j r i hj hr hi b O=>by
  obtain⟨r2,N,I⟩:=O
  have h3:=(h.ref j r i hj hr).2 r2 N
  refine⟨r2,?_,I⟩
  have W:hk (kill (ms.map (·.2)) H) i=some r2:=Qey N hi fun k _=>by rw[h3];simp
  have h5: ∀{H':List (Nat×Res)},frs n H H'=true→hk (hcat (sft n H') (kill (ms.map (·.2)) H)) i=some r2:=by
   intro H'
   induction H' with
   |nil=>intro _;exact W
   |cons p q ih=>
    obtain⟨d,u⟩:=p
    intro hf
    simp only[frs,Qm]at hf
    show hk ((d+n,u)::hcat (sft n q) _) i=some r2
    rw[Qaa,if_neg (fun e=>by subst e;rw[N]at hf;exact absurd hf.1 (by simp))]
    exact ih hf.2
  exact h5 hf
 refine⟨?_,fun j r hj=>?_,fun j b hj=>?_,fun j j' b hj hj'=>?_,fun j r i hj hri=>?_⟩
 ·have hc0:=h.ch
  refine⟨hch.os.trans hc0.os,hch.tape.trans hc0.tape,hch.output.trans hc0.output,Wh hc0.size hch.size,fun b O hn=>?_⟩
  have hb2:b∉blks H ms:=fun hbS=>by
   obtain⟨k,_,N⟩:=hS b hbS
   rcases(h.bnd k b N).1 with I|I
   ·omega
   ·exact hn I
  rw[hch.block b (Q4 O hc0.size) hb2]
  exact hc0.block b O hn
 ·rcases Qgy hj with⟨k,rfl,N⟩|⟨N,_⟩
  ·obtain⟨o1,o2,o3⟩:=Qca ho N
   have hh:=h'.hold k r N
   have hF: ∀b,Fh ⟨0,[],w,blks H ms,Fh C H⟩ H' b→b<w'.heap.size→Fh C (hcat (sft n H') (kill (ms.map (·.2)) H)) b:=fun b O hl=>by
    refine⟨fun j hj=>?_,?_⟩
    ·rcases hbk j b hj with⟨k,_,I⟩|⟨_,I,h3⟩
     ·exact O.1 k I
     ·rcases O.2 with W|W|W
      ·exact W.1 j I
      ·have:=(h.bnd j b I).2;have W:w.heap.size≤b:=W;omega
      ·obtain⟨k,h5,h6⟩:=hS b W;exact h3 (by rw[h.dis j k b I h6];exact h5)
    ·rcases O.2 with W|W|W
     ·exact W.2
     ·exact .inr (.inl (Wh h.ch.size W))
     ·obtain⟨k,_,h6⟩:=hS b W;exact .inr (h.bnd k b h6).1
   cases r with
   |ln t A c xs=>exact absurd rfl (o1 t A c xs)
   |el k b o cs=>exact absurd rfl (o2 k b o cs)
   |mit k g b n seen la=>cases o3
   |dead=>trivial
   |sh t cs x=>exact rep_to hh (S:=[]) (Ch.refl w') fun b O hl=>⟨by simp,hF b O hl⟩
   |own t e A c xs=>exact Own.to hh (S:=[]) (Ch.refl w') (by simp) fun b O hl=>⟨by simp,hF b O hl⟩
   |blk g e cs=>exact hh
   |mp κ enc t agg b m=>exact Mt.to hh (S:=[]) (Ch.refl w') (by simp) fun b O hl=>⟨by simp,hF b O hl⟩
   |si g s p=>exact hh
   |ob g p=>exact hh
   |lmp κ enc t agg b m=>exact(outs_lmp ho N).elim
   |mr κ enc t e b As m=>exact Mr.to hh (S:=[]) (Ch.refl w') (by simp) fun b O hl=>⟨by simp,hF b O hl⟩
   |gn bs p hp=>exact hp hh (S:=[]) (Ch.refl w') (by simp) fun b O hl=>⟨by simp,hF b O hl⟩
  ·rcases Qdf N with rfl|⟨I,h3,W⟩
   ·trivial
   ·refine Res.to (h.hold j r I) hch (fun b O hl=>⟨(hold b O.1 hl).1,(hold b O.1 hl).2,O.2⟩) (fun b O hl=>hold b O hl) (fun i b hi hB=>⟨fun hbS=>?_,?_⟩) fun b O hbS=>?_
    ·obtain⟨k,h5,h6⟩:=hS b hbS;exact W k h5 (by rw[hi,h.dis i k b hB h6])
    ·exact hrefk j r i I hi (fun hm=>W i hm hi) b hB
    ·obtain⟨k,h5,h6⟩:=hS b hbS;exact h3 (by rw[h.dis j k b ⟨r,I,O⟩ h6];exact h5)
 ·rcases hbk j b hj with⟨k,_,N⟩|⟨_,N,_⟩
  ·obtain⟨I,h3⟩:=hnew k b N
   refine⟨?_,h3⟩
   rcases I with I|I
   ·exact .inl (Wh h.ch.size I)
   ·obtain⟨k,_,h6⟩:=hS b I;exact(h.bnd k b h6).1
  ·exact⟨(h.bnd j b N).1,Q4 (h.bnd j b N).2 hsz⟩
 ·have cross: ∀k j b,Bk H' k b→Bk H j b→j∉ms.map (·.2)→False:=fun k j b N I h3=>by
   rcases(hnew k b N).1 with W|W
   ·have:=(h.bnd j b I).2;omega
   ·obtain⟨i,h5,h6⟩:=hS b W;exact h3 (by rw[h.dis j i b I h6];exact h5)
  rcases hbk j b hj with⟨k,rfl,N⟩|⟨_,N,h3⟩<;>rcases hbk j' b hj' with⟨k',rfl,I⟩|⟨_,I,W⟩
  ·rw[h'.dis k k' b N I]
  ·exact(cross k j' b N I W).elim
  ·exact(cross k' j b I N h3).elim
  ·exact h.dis j j' b N I
 ·rcases Qgy hj with⟨k,rfl,N⟩|⟨N,_⟩
  ·rw[(Qca ho N).2.2]at hri;cases hri
  ·rcases Qdf N with rfl|⟨I,h3,W⟩
   ·cases hri
   ·obtain⟨h5,h6⟩:=h.ref j r i I hri
    refine⟨h5,fun r2 h7=>?_⟩
    rcases Qgy h7 with⟨k,rfl,h8⟩|⟨h8,_⟩
    ·exact(Qca ho h8).2.2
    ·rcases Qdf h8 with rfl|⟨h9,_⟩
     ·rfl
     ·exact h6 r2 h9
section
variable {r:Option Nat}{P:Program}{ops:Array Oper}{Q:Exit→Act→World→Prop}{rest lst:List Oper}{C:Cx}{l:List (Nat×Value)}{H:List (Nat×Res)}{d:Nat}{T:TypeId}{pos:String}{af:Array Edge}
theorem Qel {H:List (Nat×Res)}: ∀(ks:List Nat) (j:Nat),hk (kill ks H) j=bif ks.any (Nat.beq j)then some .dead else(hk H j).map fun v=>bif rin ks v.ref then .dead else v
 | [],j=>by
  show hk H j=(hk H j).map _
  cases hk H j with
  |none=>rfl
  |some v=>cases O:v.ref<;>simp[rin,O]
 |k::ks,j=>by
  show hk ((k,.dead)::drp k (kill ks H)) j=_
  rw[Qaa,Qbv,Qel ks j,Xo]
  by_cases I:k=j
  ·subst I;simp
  have N:Nat.beq j k=false:=by cases W:Nat.beq j k with
   |false=>rfl
   |true=>exact absurd (Wr W).symm I
  rw[if_neg I,N]
  revert N;intro _
  cases ks.any (Nat.beq j)<;>cases O:hk H j<;>try rfl
  rename_i v
  cases hr:v.ref with
  |none=>simp[rin,hr]
  |some i=>simp only[cond_false,W6,Wj,rin,hr,Xo,Js,Jh];cases W:ks.any (Nat.beq i)<;>cases hb2:Nat.beq i k<;>simp_all [rin,Res.ref]
def kld (js:List Nat)(H:List (Nat×Res))(ks:List Nat):List (Nat×Res):=ded ks (ded js H)
theorem hk_kld {H:List (Nat×Res)}{ks js:List Nat}(h:hng ks js H=true)(j:Nat):hk (kld js H ks) j=hk (kill ks H) j∨(hk (kld js H ks) j=some .dead∧hk (kill ks H) j=none):=by
 rw[kld,Qgt,Qgt,Qel]
 cases ks.any (Nat.beq j)with
 |true=>exact .inl rfl
 |false=>exact hng_at h j
theorem hk_hcat: ∀{A H H':List (Nat×Res)},(∀j,hk H' j=hk H j∨(hk H' j=some .dead∧hk H j=none))→∀j,hk (hcat A H') j=hk (hcat A H) j∨(hk (hcat A H') j=some .dead∧hk (hcat A H) j=none)
 | [],_,_,h,j=>h j
 |(d,u)::A,H,H',h,j=>by
  show hk ((d,u)::hcat A H') j=hk ((d,u)::hcat A H) j∨(hk ((d,u)::hcat A H') j=some .dead∧hk ((d,u)::hcat A H) j=none)
  rw[Qaa,Qaa]
  by_cases I:d=j
  ·rw[if_pos I,if_pos I];exact .inl rfl
  ·rw[if_neg I,if_neg I];exact hk_hcat (A:=A) h j
theorem AL.call (n:Nat)(js:List Nat){f:FuncId}{c:Operand}{xs:List Operand}{vs vs' first cap:List Value}{ts:Array TypeId}{H0:List (Nat×Res)}{ms:List (Nat×Nat)}{ls:List Nat}{S:List Nat}{R:Value→List (Nat×Res)→Prop}
  (I: ∀args w,(callFunc f args).run P w=.ok (.enter f args) w) (N:Ct P f vs' H0 S R) (hs:Sub H H0 ms ls)
  (h: ∀v H',R v H'→(outs H'&&frs n H H')=true∧AL r P ops Q rest C ((d,v)::l) (hcat (sft n H') (kld js H (ms.map (·.2)))))
  (hc:ev l c=some (.func (.func f) first.toArray cap.toArray):=by rfl) (hx:evs l xs=some vs:=by rfl) (hv:first++vs++cap=vs':=by rfl) (hS:blks H ms=S:=by rfl) (h1:nod (H0.map (·.1))=true:=by rfl) (h2:nod (ms.map (·.2))=true:=by rfl) (h3:ls.all (fun k=> !(ms.map (·.2)).any (Nat.beq k))=true:=by rfl) (hd:Nat.ble (d+1) C.n=true:=by rfl) (hj:hng (ms.map (·.2)) js H=true:=by kernel_rfl):
  AL r P ops Q (⟨some d,.call {callee:=.value c,args:=xs.toArray,argTypes:=ts},T,pos,af,none⟩::rest) C l H:=fun a w W hh=>by
 subst hS;subst hv
 refine Z.call1 W hd (r_callv I W (first:=first) (cap:=cap) (vs:=vs) (xs:=xs) hc hx) (N w (Fh C H) (hs.hp hh h1 h2 h3)) fun e w' ⟨v,H',he,hR,hh'⟩=>⟨v,he,fun a' hf'=>?_⟩
 obtain⟨O,h5⟩:=h v H' hR
 rw[Qm]at O
 exact h5 a' w' hf' ((hh.back hh' O.1 O.2).ext (hk_hcat (hk_kld hj)))
end
theorem pk_kont {r:Option Nat}{P:Program}{Y:Exit→Act→World→Prop}(hp:Pq Y): ∀{K:List Kx},Pq (kont r P Y K)
 | []=>hp
 | .c _::K=>fun c a d v w h=>pk_kont hp (K:=K) c a d v w h
 | .b _::K=>fun c a d v w h=>pk_kont hp (K:=K) c a d v w h
 | .m _::K=>fun c a d v w h=>pk_kont hp (K:=K) c a d v w h
 | .s::K=>fun c a d v w h=>pk_kont hp (K:=K) c a d v w h
section
variable {r:Option Nat}{P:Program}{ops:Array Oper}{Q:Exit→Act→World→Prop}{S S':World→Prop}{m:Nat}
def gn (ops:Array Oper)(li:Array Bool)(m:Nat):Bool:=(ops[m]?).isSome&&li.getD m false
def Hem (r:Option Nat)(P:Program)(ops:Array Oper)(Q:Exit→Act→World→Prop)(S:World→Prop)(m:Nat):Nat→Array Bool→Act→World→Prop
 |0,listed,a,w=>Region.ready .any ops listed=[]∧Q .normal a w
 |f+1,listed,a,w=>(Region.ready .any ops listed=[]→Q .normal a w)∧
  ∀i∈Region.ready .any ops listed,wpOpIn (FW r) 0 P ops Q i (fun a' w'=>(gn ops (listed.setIfInBounds i true) m=false→S w')∧Hem r P ops Q S m f (listed.setIfInBounds i true) a' w') a w
theorem Hem.any: ∀(f:Nat) (listed:Array Bool) (a:Act) (w:World),Hem r P ops Q S m f listed a w→wpAnyIn (FW r) 0 P .any ops Q f listed a w
 |0,_,_,_,h=>h
 |f+1,_,_,_,h=>⟨h.1,fun i I=>wpOpIn_mono (fun a' w' h'=>Hem.any f _ a' w' h'.2) (h.2 i I)⟩
def bonf (ops:Array Oper)(i:Nat):Nat→Nat→Bool
 |0,_=>false
 |f+1,m=>match ops[m]? with
  |none=>false
  |some o=>(o.after.any fun e=>Region.binds .any e&&Nat.beq e.on i)||o.after.any fun e=>Region.binds .any e&&bonf ops i f e.on
def bon (ops:Array Oper)(m i:Nat):Bool:=match ops[m]? with
 |none=>true
 |some _=> !(Nat.beq i m)&&bonf ops i 12 m
def Clo (ops:Array Oper)(li:Array Bool):Prop:=∀k o,ops[k]?=some o→li.getD k false=true→∀e∈o.after,Region.binds .any e=true→li.getD e.on false=true
def cloB (ops:Array Oper)(li:Array Bool):Bool:=(List.range ops.size).all fun k=>match ops[k]? with
 |none=>true
 |some o=> !(li.getD k false)||o.after.all fun e=> !(Region.binds .any e)||li.getD e.on false
theorem clo_of {ops:Array Oper}{li:Array Bool}(h:cloB ops li=true):Clo ops li:=fun k o hk I e N O=>by
 have:=Qz.1 h k (Xj.2 (Qo.1 hk).1)
 rw[hk]at this
 simp only[I,Xp,W6]at this
 have W:=(Array.all_eq_true_iff_forall_mem.1 this) e N
 simpa[O] using W
theorem Qdv {li:Array Bool}{j k:Nat}(h:li.getD k false=true):(li.setIfInBounds j true).getD k false=true:=by
 by_cases e:j=k
 ·subst e
  by_cases I:j<li.size
  ·simp[I]
  ·simp[Yq (Je I)]at h
 ·rw[getD_set_ne false e];exact h
theorem Clo.step {ops:Array Oper}{li:Array Bool}{j:Nat}(h:Clo ops li)(hj:j∈Region.ready .any ops li):Clo ops (li.setIfInBounds j true):=fun k o hk O e W hb=>by
 by_cases N:j=k
 ·subst N
  obtain⟨_,oj,I,hall⟩:=mem_ready.1 hj
  rw[hk]at I;injection I with I;subst I
  exact Qdv (hall e W hb)
 ·rw[getD_set_ne false N]at O
  exact Qdv (h k o hk O e W hb)
theorem Qdp {ops:Array Oper}{li:Array Bool}{i:Nat}(hc:Clo ops li): ∀(f m:Nat) {o:Oper},ops[m]?=some o→(∀e∈o.after,Region.binds .any e=true→li.getD e.on false=true)→bonf ops i f m=true→li.getD i false=true
 |0,_,_,_,_,h=>by cases h
 |f+1,m,o,hm,ha,h=>by
  unfold bonf at h
  rw[hm]at h
  simp only[Yy,Array.any_eq_true']at h
  rcases h with⟨e,O,I⟩|⟨e,O,I⟩
  ·rw[Qm]at I
   rw[←Wr I.2];exact ha e O I.1
  ·rw[Qm]at I
   have N:=I.2
   cases f with
   |zero=>cases N
   |succ f=>
    cases W:ops[e.on]? with
    |none=>unfold bonf at N;rw[W]at N;cases N
    |some o'=>exact Qdp hc (f+1) e.on W (hc e.on o' W (ha e O I.1)) N
theorem gn_ne {li:Array Bool}{i:Nat}(h:i≠m):gn ops (li.setIfInBounds i true) m=gn ops li m:=by unfold gn;rw[getD_set_ne false h]
theorem Qiq {li:Array Bool}{j:Nat}(h:gn ops (li.setIfInBounds j true) m=false):gn ops li m=false:=by
 cases I:gn ops li m with
 |false=>rfl
 |true=>
  unfold gn at h I
  rw[Qm]at I
  rw[I.1,Qdv I.2]at h;cases h
theorem bon_ne {i:Nat}{oi:Oper}(I:ops[i]?=some oi)(h:bon ops m i=true):i≠m:=fun e=>by
 subst e
 unfold bon at h
 rw[I]at h
 simp only[Qm,Jn,Xp,Qy,false_and]at h
theorem bon_gn {li:Array Bool}{i:Nat}(hc:Clo ops li)(O:bon ops m i=true)(hr:i∈Region.ready .any ops li):gn ops li m=false:=by
 cases I:gn ops li m with
 |false=>rfl
 |true=>
  unfold gn at I
  rw[Qm]at I
  unfold bon at O
  cases W:ops[m]? with
  |none=>rw[W]at I;cases I.1
  |some om=>
   rw[W]at O
   simp only[Qm]at O
   have hl:=Qdp hc 12 m W (hc m om W I.2) O.2
   have h0:=(mem_ready.1 hr).1
   by_cases N:i<li.size
   ·simp[N]at h0 hl;rw[h0]at hl;cases hl
   ·simp[Yq (Je N)]at hl
theorem Hem.first {T:World→Prop}{i:Nat}{oi:Oper}{v:Value}(hn:Qbb ops=true)(hi:ops[i]?=some oi)(hs:Region.noSelect ops=true)(hne:i≠m)(N:(bon ops m i=true∧∀w,S w→T w)∨∀w,T w)(hQ: ∀c a w,Q (.panic c) (a.put oi.dst v) w→Q (.panic c) a w): ∀(f:Nat) (listed:Array Bool) (a:Act) (w:World),Clo ops listed→
  (∀j oj,ops[j]?=some oj→j≠i→listed.getD j true=false→(∀e∈oj.after,Region.binds .any e=true→e.on≠i)→oi.apart ops oj=true)→i∈Region.ready .any ops listed→YieldsIf P ops T oi v a→(gn ops listed m=false→S w)→
  Hem r P ops Q S m f (listed.setIfInBounds i true) (a.put oi.dst v) w→Hem r P ops Q S m (f+1) listed a w
 |0,listed,a,w,O,_,W,hy,hS,H=>⟨fun h=>(by rw[h]at W;cases W),fun j hj=>by
   have hT:T w:=by
    rcases N with N|N
    ·exact N.2 w (hS (bon_gn O N.1 W))
    ·exact N w
   by_cases I:j=i
   ·subst I;exact Hel.op (Qbe hn hi) hi hy hT ⟨fun h=>hS (Qiq h),H⟩
   ·have:=ready_mono hj I;rw[H.1]at this;cases this⟩
 |f+1,listed,a,w,O,hfree,W,hy,hS,H=>⟨fun h=>(by rw[h]at W;cases W),fun j hj=>by
   have hT:T w:=by
    rcases N with N|N
    ·exact N.2 w (hS (bon_gn O N.1 W))
    ·exact N w
   by_cases I:j=i
   ·subst I;exact Hel.op (Qbe hn hi) hi hy hT ⟨fun h=>hS (Qiq h),H⟩
   ·have h1:=H.2 j (ready_mono hj I)
    obtain⟨hun,oj,hoj,hall⟩:=mem_ready.1 hj
    have hno: ∀e∈oj.after,Region.binds .any e=true→e.on≠i:=fun e he N heq=>by
     have hl:=hall e he N
     have h0:=(mem_ready.1 W).1
     rw[heq]at hl
     by_cases hsz:i<listed.size
     ·simp[hsz]at h0 hl;rw[h0]at hl;cases hl
     ·simp[Yq (Je hsz)]at hl
    have h2:=Hel.put (Qbe hn hoj) hoj (hfree j oj hoj I hun hno) (fun cs b=>Region.noSelect_spec hs i oi cs b hi) (fun cs b=>Region.noSelect_spec hs j oj cs b hoj) hQ hy h1
    refine wpOpIn_mono (fun a' w' h3=>?_) h2
    have hS':gn ops (listed.setIfInBounds j true) m=false→S w':=fun h=>h3.2.1 (by rw[Array.setIfInBounds_comm _ _ (Ne.symm I),gn_ne hne];exact h)
    refine⟨hS',Hem.first hn hi hs hne N hQ f _ a' w' (O.step hj) (fun k ok hk hki hkun hkno=>hfree k ok hk hki ?_ hkno) (ready_mono W (Ne.symm I)) h3.1 hS' ?_⟩
    ·by_cases hjk:j=k
     ·subst hjk;exact hun
     ·rwa[getD_set_ne true hjk]at hkun
    ·rw[Array.setIfInBounds_comm _ _ I];exact h3.2.2⟩
theorem Hem.str (I: ∀w,S' w→S w): ∀(f:Nat) (li:Array Bool) (a:Act) (w:World),Hem r P ops Q S' m f li a w→Hem r P ops Q S m f li a w
 |0,_,_,_,h=>h
 |f+1,li,a,w,h=>⟨h.1,fun i N=>wpOpIn_mono (fun a' w' h'=>⟨fun O=>I w' (h'.1 O),Hem.str I f _ a' w' h'.2⟩) (h.2 i N)⟩
def HZ (r:Option Nat)(P:Program)(ops:Array Oper)(Q:Exit→Act→World→Prop)(S:World→Prop)(m fuel:Nat)(listed:Array Bool)(i:Nat):Exit→Act→World→Prop
 | .normal,a,w=>(gn ops (listed.setIfInBounds i true) m=false→S w)∧Hem r P ops Q S m fuel (listed.setIfInBounds i true) a w
 |e,a,w=>Q e a w
theorem Hem.list {a:Act}{w:World}{fuel:Nat}{listed:Array Bool}{i:Nat}{o:Oper}(W:ops[i]?=some o)(h:WL r P ops (HZ r P ops Q S m fuel listed i) [o] a w):wpOpIn (FW r) 0 P ops Q i (fun a' w'=>(gn ops (listed.setIfInBounds i true) m=false→S w')∧Hem r P ops Q S m fuel (listed.setIfInBounds i true) a' w') a w:=by
 unfold wpOpIn
 rw[W]
 simp only[]
 unfold WL wpListIn at h
 by_cases O:Region.wanted o (yielded ops a.tmps)=true
 ·rw[if_pos O]at h ⊢
  refine⟨h.1,?_⟩
  have h:=h.2
  generalize (o.semAt (FW r).round a.eval).run P w=res at h ⊢
  cases res with
  |ok x w'=>
   cases x with
   |enter f args=>exact⟨h.1,CallsIn.mono h.2 fun e w'' I=>by cases e<;>first|exact I|exact I.elim fun _ N=>N.elim fun _ N=>⟨_,_,N⟩⟩
   |row row args=>exact⟨h.1,RowsIn.mono h.2 fun _ _ I=>I⟩
   |round l f tmps assign body=>exact⟨h.1,RoundIn.mono h.2 fun e w'' I=>by cases e<;>first|exact I|exact I.elim fun _ N=>N.elim fun _ N=>⟨_,_,N⟩⟩
   |_=>exact h
  |halt x w'=>cases x<;>exact h
 ·rw[if_neg O]at h ⊢
  exact h
section
variable {K:Kn}{w:World}{n:Nat}{ds:List Deferred}
theorem dqm_walk {li':Array Bool}{f:Nat}(hn:(Region.noSelect ops&&Qbb ops)=true)(hQ: ∀c a d v w,Q (.panic c) (Act.put a d v) w→Q (.panic c) a w){bb:Nat→Bool}(N: ∀i,bb i=true→∀o,ops[i]?=some o→i≠m∧((bon ops m i=true∧∀w,S w→K.ok w)∨∀w,K.ok w)):
  ∀{is:List (Nat×Hint)} {li:Array Bool} {s s':QS} {a:Act},(gn ops li m=false→S w)→Clo ops li→is.all (fun p=>bb p.1)=true→dqs P K n ops is li s=some (li',s')→(∀p,p∈s'.c→p)→(∀p,p∈s'.q→p.1=p.2)→s.ok a n ds→(∀a',s'.ok a' n ds→Hem r P ops Q S m f li' a' w)→Hem r P ops Q S m (f+is.length) li a w
 | [],_,s,s',a,_,_,_,hq,_,_,hs,h=>by simp only[dqs,Qr,Jg]at hq;obtain⟨h1,h2⟩:=hq;subst h1;subst h2;exact h a hs
 |(i,g)::is,li,s,s',a,hS,O,hb,hq,hc,he,hs0,h=>by
  have hn':=hn
  rw[Qm]at hn
  rw[Xw,Qm]at hb
  unfold dqs at hq
  split at hq
  ·rename_i o hi
   split at hq
   ·rename_i I
    rw[Qm]at I
    split at hq
    ·rename_i s1 h1
     have W:=dqs_le hq
     obtain⟨d,v,hd,k1,k2,k3⟩:=o_bZ hs0 h1 (fun p hp=>hc p (W.c p hp)) (fun p hp=>he p (W.q p hp))
     have hrest:Hem r P ops Q S m (f+is.length) (li.setIfInBounds i true) (a.put (some d) v) w:=dqm_walk hn' hQ N (fun hg=>hS (Qiq hg)) (O.step (by simpa using I.2)) hb.2 hq hc he k1 h
     obtain⟨hne,hb1⟩:=N i hb.1 o hi
     refine Hem.first (T:=K.ok) hn.2 hi hn.1 hne hb1 (fun c a w=>hQ c a _ v w) _ li a w O (Region.free_spec hi I.1) (by simpa using I.2) ?_ hS (by rw[hd];exact hrest)
     rcases k3 with⟨hw,hv⟩|⟨hw,rfl⟩
     ·exact .inl ⟨hw,hv⟩
     ·exact .inr ⟨hw,rfl⟩
    ·cases hq
   ·cases hq
  ·cases hq
end
variable {C:Cx}{l:List (Nat×Value)}{H Hq:List (Nat×Res)}{f:Nat}{li:List Bool}
abbrev AH (r:Option Nat) (P:Program) (ops:Array Oper) (Q:Exit→Act→World→Prop) (Hq:List (Nat×Res)) (m f:Nat) (li:List Bool) (C:Cx) (l:List (Nat×Value)) (H:List (Nat×Res)):Prop:=
 ∀a w,Fr a C.n C.ds l→Hp C H w→Hem r P ops Q (Hp C Hq) m f li.toArray a w
theorem Hp.drew {w w':World}(h:Hp C H w)(N:Ch [] w w'):Hp C H w':=by
 refine⟨?_,fun k r O=>?_,fun k b hb=>?_,h.dis,h.ref⟩
 ·have I:=h.ch
  exact⟨N.os.trans I.os,N.tape.trans I.tape,N.output.trans I.output,Wh I.size N.size,fun b hb' hn=>by rw[N.block b (Q4 hb' I.size) (by simp)];exact I.block b hb' hn⟩
 ·exact Res.to (h.hold k r O) N (fun b hF _=>⟨by simp,hF⟩) (fun b W _=>⟨by simp,W⟩) (fun i b _ W=>⟨by simp,W⟩) (by simp)
 ·exact⟨(h.bnd k b hb).1,Q4 (h.bnd k b hb).2 N.size⟩
theorem AX.dr {Y:Exit→Act→World→Prop}{K:List Kx}{id:Nat}{lo:List Oper}(N:P.follows .mixedOrders=true)(m f:Nat)(li:List Bool)(h:AH r P lo.toArray (kont r P Y K) [] m f li C l H)(I:lo.toArray.size=f:=by rfl)(O:(Array.replicate lo.toArray.size false).toList=li:=by kernel_rfl):
  AX r P Y K (.region id lo.toArray true) C l H:=fun a w W hh=>by
 subst I;subst O
 have:=h a _ W (Hp.drew hh (Ch.drew w))
 rw[W9]at this
 exact wpIn_region_any N (Hem.any _ _ _ _ this)
theorem AH.str (gs:List Nat){Hq':List (Nat×Res)}(h:AH r P ops Q Hq' m f li C l H)(e:kpH Hq' gs gs=Hq:=by kernel_rfl):AH r P ops Q Hq m f li C l H:=fun a w I N=>
 Hem.str (fun w h=>h.cov gs e) _ _ a w (h a w I N)
theorem AH.q (hQ:Pq Q)(gs qs bs es:List Nat)(li':List Bool)(f:Nat)(is:List (Nat×Hint))(ks:List Nat)(cs:List Prop)(nl:List (Nat×Value)){g:Nat}(hc:conj cs)(h:AH r P ops Q (kpH H qs qs) m f li' C (cat nl l) H)
  (hg:g=f+is.length:=by rfl) (hb:is.all (fun p=>bon ops m p.1)=true:=by kernel_rfl) (W:cloB ops li.toArray=true:=by kernel_rfl) (hn:(Region.noSelect ops&&Qbb ops)=true:=by kernel_rfl)
  (hq:((dqs P ⟨knb (kpH H qs qs) bs,kne (kpH H qs qs) es⟩ C.n ops is li.toArray (q0 l)).bind fun x=>(qfin l ks x.2).map fun y=>(x.1.toList,y))=some (li',cs,nl):=by kernel_rfl)
  (O:(dqs P ⟨knb (kpH H qs qs) bs,kne (kpH H qs qs) es⟩ C.n ops is li.toArray (q0 l)).map (fun s=>s.2.q.map Prod.fst)=(dqs P ⟨knb (kpH H qs qs) bs,kne (kpH H qs qs) es⟩ C.n ops is li.toArray (q0 l)).map (fun s=>s.2.q.map Prod.snd):=by kernel_rfl)
  (e:kpH (kpH H qs qs) gs gs=Hq:=by kernel_rfl):AH r P ops Q Hq m g li C l H:=AH.str gs (e:=e) fun a w hf hh=>by
 subst hg
 cases N:dqs P ⟨knb (kpH H qs qs) bs,kne (kpH H qs qs) es⟩ C.n ops is li.toArray (q0 l)with
 |none=>rw[N]at hq;cases hq
 |some x=>
  obtain⟨li1,s'⟩:=x
  rw[N]at hq O
  have hq:((qfin l ks s').map fun y=>(li1.toList,y))=some (li',cs,nl):=hq
  have O:s'.q.map Prod.fst=s'.q.map Prod.snd:=by injection O
  cases I:qfin l ks s' with
  |none=>rw[I]at hq;cases hq
  |some y=>
   obtain⟨cs1,nl1⟩:=y
   rw[I]at hq
   simp only[Wj,Qr,Jg]at hq
   obtain⟨h1,h2,h3⟩:=hq
   subst h1;subst h2;subst h3
   have hcs:s'.c=cs1:=by unfold qfin at I;split at I;(injection I with I;injection I);cases I
   exact dqm_walk hn hQ (bb:=fun i=>bon ops m i) (fun i hi o ho=>⟨bon_ne ho hi,.inl ⟨hi,fun w' h'=>o_b1 h' bs es⟩⟩) (fun _=>hh.keep qs) (clo_of W) hb N (by rw[hcs];exact Qfw hc) (Qef O) (o_b0 hf) fun a' hok=>by
    have:=h a' w (qfin_fr hok (dqs_inv (q0_inv l) N) I).1 hh
    rwa[W9]at this
theorem AH.v (hQ:Pq Q)(gs qs:List Nat)(i:Nat)(li':List Bool){d:Nat}{op:Op}{T:TypeId}{pos:String}{af:Array Edge}{v:Value}(N:ops[i]?=some ⟨some d,op,T,pos,af,none⟩)(hr: ∀a w,Fr a C.n C.ds l→Hp C (kpH H qs qs) w→(execOp a.eval ⟨some d,op,T,pos,af,none⟩).run P w=.ok (.value v) w)
  (h:AH r P ops Q (kpH H qs qs) m f li' C ((d,v)::l) H) (hb:bon ops m i=true:=by kernel_rfl) (O:cloB ops li.toArray=true:=by kernel_rfl) (hl:(li.toArray.setIfInBounds i true).toList=li':=by kernel_rfl) (hd:Nat.ble (d+1) C.n=true:=by rfl) (W:(Region.noSelect ops&&Qbb ops)=true:=by kernel_rfl)
  (I:(Region.free .any ops li.toArray i&&(Region.ready .any ops li.toArray).contains i)=true:=by kernel_rfl) (e:kpH (kpH H qs qs) gs gs=Hq:=by kernel_rfl):AH r P ops Q Hq m (f+1) li C l H:=AH.str gs (e:=e) fun a w hf hh=>by
 rw[Qm]at W I
 refine Hem.first (T:=Hp C (kpH H qs qs)) W.2 N W.1 (bon_ne N hb) (.inl ⟨hb,fun _ h=>h⟩) (fun c a w=>hQ c a _ _ w) f li.toArray a w (clo_of O) (Region.free_spec N I.1) (by simpa using I.2) (.inl ⟨Qbu,fun w' h'=>hr a w' hf h'⟩) (fun _=>hh.keep qs) ?_
 have:=h _ w (hf.put (Q0 hd) v) hh
 rw[←hl,W9]at this
 exact this
theorem AH.vg (hQ:Pq Q)(gs qs:List Nat)(i:Nat)(li':List Bool){d j dj:Nat}{b:Bool}{op:Op}{T:TypeId}{pos:String}{af:Array Edge}{v:Value}(N:ops[i]?=some ⟨some d,op,T,pos,af,some (j,b)⟩)(hr: ∀a w,Fr a C.n C.ds l→Hp C (kpH H qs qs) w→(execOp a.eval ⟨some d,op,T,pos,af,none⟩).run P w=.ok (.value v) w)
  (h:AH r P ops Q (kpH H qs qs) m f li' C ((d,v)::l) H) (hj:(ops[j]?).bind (·.dst)=some dj:=by rfl) (O:lk l dj=some (.bool b):=by rfl) (hb:bon ops m i=true:=by kernel_rfl) (W:cloB ops li.toArray=true:=by kernel_rfl) (hl:(li.toArray.setIfInBounds i true).toList=li':=by kernel_rfl) (hd:Nat.ble (d+1) C.n=true:=by rfl) (hs:(Region.noSelect ops&&Qbb ops)=true:=by kernel_rfl)
  (I:(Region.free .any ops li.toArray i&&(Region.ready .any ops li.toArray).contains i)=true:=by kernel_rfl) (e:kpH (kpH H qs qs) gs gs=Hq:=by kernel_rfl):AH r P ops Q Hq m (f+1) li C l H:=AH.str gs (e:=e) fun a w hf hh=>by
 rw[Qm]at hs I
 refine Hem.first (T:=Hp C (kpH H qs qs)) hs.2 N hs.1 (bon_ne N hb) (.inl ⟨hb,fun _ h=>h⟩) (fun c a w=>hQ c a _ _ w) f li.toArray a w (clo_of W) (Region.free_spec N I.1) (by simpa using I.2) (.inl ⟨Qbx hf hj O,fun w' h'=>hr a w' hf h'⟩) (fun _=>hh.keep qs) ?_
 have:=h _ w (hf.put (Q0 hd) v) hh
 rw[←hl,W9]at this
 exact this
theorem AH.one (i:Nat){o:Oper}(h:AL r P ops (HZ r P ops Q (Hp C Hq) m f li.toArray i) [o] C l H)(W:ops[i]?=some o:=by rfl)(I:Region.ready .any ops li.toArray=[i]:=by kernel_rfl):AH r P ops Q Hq m (f+1) li C l H:=fun a w hf hh=>
 ⟨fun N=>(by rw[I]at N;cases N),fun j O=>by rw[I,Qj]at O;subst O;exact Hem.list W (h a w hf hh)⟩
theorem AH.two (i j:Nat){oi oj:Oper}(h1:AL r P ops (HZ r P ops Q (Hp C Hq) m f li.toArray i) [oi] C l H)(h2:AL r P ops (HZ r P ops Q (Hp C Hq) m f li.toArray j) [oj] C l H)(hi:ops[i]?=some oi:=by rfl)(hj:ops[j]?=some oj:=by rfl)(I:Region.ready .any ops li.toArray=[i,j]:=by kernel_rfl):
  AH r P ops Q Hq m (f+1) li C l H:=fun a w N O=>
 ⟨fun W=>(by rw[I]at W;cases W),fun k hk=>by
  rw[I]at hk
  simp only[Qk,List.not_mem_nil,or_false]at hk
  rcases hk with rfl|rfl
  ·exact Hem.list hi (h1 a w N O)
  ·exact Hem.list hj (h2 a w N O)⟩
theorem AH.nx {i:Nat}(li':List Bool)(gs:List Nat)(h:AH r P ops Q Hq m f li' C l H)(e:kpH H gs gs=Hq:=by kernel_rfl)(N:(li.toArray.setIfInBounds i true).toList=li':=by kernel_rfl):AL r P ops (HZ r P ops Q (Hp C Hq) m f li.toArray i) [] C l H:=fun a w O I=>by
 refine Z.done ?_
 show(_→Hp C Hq w)∧_
 have:=h a w O I
 rw[←N,W9]at this
 exact⟨fun _=>I.cov gs e,this⟩
theorem AH.nm {i:Nat}(li':List Bool)(h:AH r P ops Q Hq m f li' C l H)(I:(li.toArray.setIfInBounds i true).toList=li':=by kernel_rfl)(N:gn ops li'.toArray m=true:=by kernel_rfl):AL r P ops (HZ r P ops Q (Hp C Hq) m f li.toArray i) [] C l H:=fun a w O W=>by
 refine Z.done ?_
 show(_→Hp C Hq w)∧_
 have:=h a w O W
 rw[←I,W9]at this
 rw[←I,W9]at N
 exact⟨fun h=>(by rw[N]at h;cases h),this⟩
theorem AH.done {Y:Exit→Act→World→Prop}{K:List Kx}(h:AE r P Y K .normal C l H)(I:Region.ready .any ops li.toArray=[]:=by kernel_rfl):AH r P ops (kont r P Y K) Hq m f li C l H:=fun a w N O=>by
 cases f with
 |zero=>exact⟨I,h a w N O⟩
 |succ f=>exact⟨fun _=>h a w N O,by rw[I];simp⟩
theorem cov {X:Act→World→Prop}{l':List (Nat×Value)}{H':List (Nat×Res)}(gs:List Nat)(h: ∀a w,Fr a C.n C.ds l'→Hp C H' w→X a w)(I:kp l (l'.map (·.1))=l':=by kernel_rfl)(N:kpH H gs gs=H':=by kernel_rfl): ∀a w,Fr a C.n C.ds l→Hp C H w→X a w:=fun a w O W=>h a w (Fr.cov O I) (W.cov gs N)
end
theorem peek {C:Cx}{H:List (Nat×Res)}{w:World}(hh:Hp C H w)(k kn:Nat){t:Ty}{A:Option Addr}{c:Nat}{xs:List t.den}{i:Int}{v:t.den}(hi:ix xs i=some v)(hrow: ∀w,Hp C H w→∃G:Nat→Prop,Row t w (Fh C H) G A c xs∧∀b,G b→∀k,¬Bk H k b)(W:nok H kn (1+lv t)=true):
  ∃ps:Lf,ps.length=lv t∧t.ok v∧∃b o,A=some ⟨b,o,none⟩∧Hp C (hcat (kx (kn+1) (rs t v ps)) ((kn,.el none b (o+i.toNat*t.size) (cl t v ps))::H)) w:=by
 obtain⟨k,rfl,hv⟩:=Qaj hi
 obtain⟨G,hR,hG⟩:=hrow w hh
 obtain⟨b,o,es,hA,hb,hbl,hc,hr⟩:=hR.at hv
 obtain⟨ps,hl,rfl,hrs⟩:=rep_cl (B:=Bk H) t (Qaf t hr)
 have O:hk H kn=none:=Qat W (Q1 _) (by omega)
 have h1:Hp C ((kn,.el none b (o+k*t.size) (cl t v ps))::H) w:=hh.add O rfl (fun j I=>by cases I) ⟨hc,hbl,hG b hb⟩
 have hnn: ∀n k',nok H k' n=true→(∀j,k'≤j→j<k'+n→j≠kn)→nok ((kn,.el none b (o+k*t.size) (cl t v ps))::H) k' n=true:=by
  intro n
  induction n with
  |zero=>intro _ _ _;rfl
  |succ n ih=>
   intro k' h2 h3
   simp only[nok,Qm]at h2 ⊢
   refine⟨?_,ih (k'+1) h2.2 fun j h4 h5=>h3 j (by omega) (by omega)⟩
   rw[Qaa,if_neg (Ne.symm (h3 k' (Q1 _) (by omega)))];exact h2.1
 have hn2:nok H (kn+1) (rs t v ps).length=true:=by
  rw[Qbd t v ps hl]
  rw[Yr 1]at W
  simp only[nok,Qm]at W;exact W.2
 refine⟨ps,hl,rep_ok t hr,b,o,hA,?_⟩
 rw[Qs]
 refine h1.adds (hnn _ _ hn2 fun j h4 _=>by omega) fun r2 h4=>?_
 obtain⟨h5,h6,h7⟩:=hrs r2 h4
 have N: ∀j b',Bk ((kn,.el none b (o+k*t.size) (cl t v ps))::H) j b'↔Bk H j b':=fun j b'=>by
  by_cases I:j=kn
  ·subst I
   rw[Bk.cons_eq]
   exact⟨fun h=>by simp[Res.bl]at h,fun⟨_,h8,_⟩=>by rw[O]at h8;cases h8⟩
  ·exact Bk.cons_ne I
 exact⟨h6,h7,Res.to h5 (S:=[]) (Ch.refl w) (fun b' hF _=>⟨by simp,⟨fun j I=>hF.1.1 j ((N j b').1 I),hF.1.2⟩,hF.2⟩) (fun b' hB _=>⟨by simp,fun j I=>hB j ((N j b').1 I)⟩) (fun i b' _ hB=>⟨by simp,(N i b').2 hB⟩) (by simp)⟩
theorem Hp.blk {C:Cx}{H:List (Nat×Res)}{w:World}{g:Nat}{e:TypeId}{cs:List Value}(I:Hp C H w)(k:Nat)(h:hk H k=some (.blk g e cs):=by rfl):Blk w g e cs:=I.hold k _ h
def FU:Nat:=340282366920938463463374607431768211456
def gd {α:Type}(p:Prop)[Decidable p](x:Option α):Option α:=if p then x else none
theorem gd_some {α:Type}{p:Prop}[Decidable p]{x:Option α}{y:α}(h:gd p x=some y):p∧x=some y:=by
 unfold gd at h
 split at h
 ·exact⟨‹p›,h⟩
 ·cases h
theorem bd_some {α β:Type}{x:Option α}{f:α→Option β}{y:β}(h:x.bind f=some y): ∃v,x=some v∧f v=some y:=Jl.1 h
theorem no0 {α:Type}{y:α}{p:Prop}(h:(none:Option α)=some y):p:=by cases h
theorem ix_nat {α:Type}(xs:List α)(k:Nat):ix xs (k:Int)=xs[k]?:=by unfold ix;rw[if_neg (by omega),Qs]
theorem ix_ok {α:Type}{xs:List α}{i:Int}{x:α}(h:ix xs i=some x):0≤i∧i<xs.length:=by
 obtain⟨k,rfl,I⟩:=Qaj h
 have:=(Qc.1 I).1
 omega
instance (k:IntKind) (n:Int):Decidable (k.has n):=by unfold IntKind.has;infer_instance
theorem hasl (k:IntKind)(n:Int)(h:decide (k.has n)=true):k.has n:=of_decide_eq_true h
theorem has_len {α:Type}{xs:List α}(h:xs.length≤maxLen):IntKind.i64.has (xs.length:Int):=Z.i64_has (by simp only[maxLen]at h;omega)
theorem has_min {k:IntKind}{a b:Int}(I:k.has a)(N:k.has b):k.has (min a b):=by
 rcases Int.le_total a b with h|h
 ·rw[Int.min_eq_left h];exact I
 ·rw[Int.min_eq_right h];exact N
section
variable {X:Act→World→Prop}{C:Cx}{l:List (Nat×Value)}{H:List (Nat×Res)}
theorem nil (k:Nat)(t:Ty)(e:TypeId)(h: ∀a w,Fr a C.n C.ds l→Hp C ((k,.own t e none 0 [])::H) w→X a w)(I:hk H k=none:=by kernel_rfl): ∀a w,Fr a C.n C.ds l→Hp C H w→X a w:=fun a w N O=>
 h a w N (O.add I rfl (fun j W=>by cases W) (Own.nil t e 0 w _))
theorem snil (k:Nat)(t:Ty)(h: ∀a w,Fr a C.n C.ds l→Hp C ((k,.sh (.slice t) [.slice none 0 0] [])::H) w→X a w)(I:hk H k=none:=by kernel_rfl): ∀a w,Fr a C.n C.ds l→Hp C H w→X a w:=fun a w N O=>
 h a w N (O.add I rfl (fun j W=>by cases W) (Qdg t))
theorem frz (k:Nat)(js:List Nat){t:Ty}{e:TypeId}{A:Option Addr}{c:Nat}{xs:List t.den}(h: ∀a w,Fr a C.n C.ds l→Hp C ((k,.sh (.slice t) [.slice A xs.length c] xs)::ded js H) w→X a w)(I:hk H k=some (.own t e A c xs):=by rfl)(N:hng [k] js H=true:=by kernel_rfl): ∀a w,Fr a C.n C.ds l→Hp C H w→X a w:=fun a w O W=>h a w O (Hp.dd (W.frz I) N)
theorem okl (k:Nat){t:Ty}{A:Option Addr}{c:Nat}{xs:List t.den}(h:(Ty.slice t).ok xs→∀a w,Fr a C.n C.ds l→Hp C H w→X a w)(I:hk H k=some (.ln t A c xs):=by rfl): ∀a w,Fr a C.n C.ds l→Hp C H w→X a w:=fun a w W O=>by
 obtain⟨G,N,_⟩:=rowL I w O
 exact h ⟨Wh N.1 N.2.1,N.ok⟩ a w W O
theorem cst (d:Nat){v v':Value}(e:v=v')(h: ∀a w,Fr a C.n C.ds ((d,v')::l)→Hp C H w→X a w)(N:lk l d=some v:=by rfl): ∀a w,Fr a C.n C.ds l→Hp C H w→X a w:=fun a w I O=>h a w (I.cons I (by rw[N,e])) O
theorem Hp.mv {w:World}(O:Hp C H w){k k2:Nat}{r:Res}(h1:hk H k=some r)(hne:k2≠k)(h2: ∀u,hk H k2=some u→u=.dead)(hr:r.ref=none):Hp C ((k2,r)::(k,.dead)::drp k H) w:=by
 have hd:Hp C ((k,.dead)::drp k H) w:=O.upd (S:=[]) (Ch.refl w) (by simp) (by simp[Res.bl]) (fun j I=>by cases I) fun _ _ _ _ _ _ _=>trivial
 have hbk: ∀j b,Bk ((k2,r)::(k,.dead)::drp k H) j b→(j=k2∧b∈r.bl)∨(j≠k2∧j≠k∧Bk H j b):=fun j b ⟨r2,N,h4⟩=>by
  rw[Qaa]at N
  split at N
  ·rename_i e;injection N with N;subst N;exact .inl ⟨e.symm,h4⟩
  ·rename_i hn
   rw[Qaa]at N
   split at N
   ·injection N with N;subst N;cases h4
   ·rename_i hn2
    rcases Qbw k H j r2 N with rfl|⟨W,_⟩
    ·cases h4
    ·exact .inr ⟨Ne.symm hn,Ne.symm hn2,r2,W,h4⟩
 have hnb: ∀b,(∀j,¬Bk H j b)→∀j,¬Bk ((k2,r)::(k,.dead)::drp k H) j b:=fun b hB j I=>by
  rcases hbk j b I with⟨_,N⟩|⟨_,_,N⟩
  ·exact hB k ⟨r,h1,N⟩
  ·exact hB j N
 refine⟨O.ch,fun j r2 I=>?_,fun j b I=>?_,fun j j' b I hj'=>?_,fun j r2 i I hri=>?_⟩
 ·rw[Qaa]at I
  split at I
  ·injection I with I;subst I
   exact Res.to (O.hold k r h1) (S:=[]) (Ch.refl w) (fun b hF _=>⟨by simp,hnb b hF.1,hF.2⟩) (fun b hB _=>⟨by simp,hnb b hB⟩) (fun i b hi _=>by rw[hr]at hi;cases hi) (by simp)
  ·rename_i hn
   rw[Qaa]at I
   split at I
   ·injection I with I;subst I;trivial
   ·rename_i hn2
    rcases Qbw k H j r2 I with rfl|⟨W,h6⟩
    ·trivial
    ·refine Res.to (O.hold j r2 W) (S:=[]) (Ch.refl w) (fun b hF _=>⟨by simp,hnb b hF.1,hF.2⟩) (fun b hB _=>⟨by simp,hnb b hB⟩) (fun i b hi hB=>⟨by simp,?_⟩) (by simp)
     obtain⟨r3,h7,h8⟩:=hB
     have hik:i≠k:=fun e=>h6 (by rw[hi,e])
     have hik2:i≠k2:=fun e=>by subst e;rw[h2 _ h7]at h8;cases h8
     refine⟨r3,?_,h8⟩
     rw[Qaa,if_neg (Ne.symm hik2),Qaa,if_neg (Ne.symm hik)]
     exact Qdh h7 (by rw[(O.ref j r2 i W hi).2 r3 h7];simp)
 ·rcases hbk j b I with⟨_,N⟩|⟨_,_,N⟩
  ·exact O.bnd k b ⟨r,h1,N⟩
  ·exact O.bnd j b N
 ·rcases hbk j b I with⟨N,h4⟩|⟨_,N,h4⟩<;>rcases hbk j' b hj' with⟨W,h6⟩|⟨_,W,h6⟩
  ·rw[N,W]
  ·exact absurd (O.dis k j' b ⟨r,h1,h4⟩ h6) (Ne.symm W)
  ·exact absurd (O.dis k j b ⟨r,h1,h6⟩ h4) (Ne.symm N)
  ·exact O.dis j j' b h4 h6
 ·rw[Qaa]at I
  split at I
  ·injection I with I;subst I;rw[hr]at hri;cases hri
  ·rename_i hn
   obtain⟨W,h6⟩:=hd.ref j r2 i I hri
   refine⟨W,fun r3 h7=>?_⟩
   rw[Qaa]at h7
   split at h7
   ·injection h7 with h7;subst h7;exact hr
   ·exact h6 r3 h7
theorem mv (k O:Nat)(js:List Nat){r:Res}(h: ∀a w,Fr a C.n C.ds l→Hp C ((O,r)::(k,.dead)::ded js H) w→X a w)(I:hk H k=some r:=by rfl)(hr:r.ref=none:=by rfl)(N:hk H O=none:=by kernel_rfl)(hj:hng [k] js H=true:=by kernel_rfl): ∀a w,Fr a C.n C.ds l→Hp C H w→X a w:=fun a w hf hh=>h a w hf (Hp.dd2 (hh.mv I (fun e=>by subst e;rw[I]at N;cases N) (fun u W=>by rw[N]at W;cases W) hr) hj)
def gone (H:List (Nat×Res))(k:Nat):Bool:=match hk H k with
 |none=>true
 |some .dead=>true
 |_=>false
theorem mvd (k N:Nat)(js:List Nat){r:Res}(h: ∀a w,Fr a C.n C.ds l→Hp C ((N,r)::(k,.dead)::ded js H) w→X a w)(O:hk H k=some r:=by rfl)(hr:r.ref=none:=by rfl)(I:Nat.beq N k=false:=by rfl)(W:gone H N=true:=by kernel_rfl)(hj:hng [k] js H=true:=by kernel_rfl): ∀a w,Fr a C.n C.ds l→Hp C H w→X a w:=fun a w hf hh=>h a w hf (Hp.dd2 (hh.mv O (fun e=>by rw[e,Jn]at I;cases I) (fun u hu=>by
 unfold gone at W;rw[hu]at W
 cases u<;>first|rfl|cases W) hr) hj)
end
section
variable {r:Option Nat}{P:Program}{ops:Array Oper}{Q:Exit→Act→World→Prop}{C:Cx}{l:List (Nat×Value)}{H Hq:List (Nat×Res)}{m f:Nat}{li:List Bool}
theorem AH.cnd {ρ:Type}{A B R:Option ρ}{j:Nat}{b:Bool}(O:lk l j=some (.bool b))(I:(if b=true then A else B)=R)(ht:A=R→AH r P ops Q Hq m f li C ((j,.bool true)::l) H)(he:B=R→AH r P ops Q Hq m f li C ((j,.bool false)::l) H):AH r P ops Q Hq m f li C l H:=fun a w N W=>by
 cases b with
 |true=>rw[if_pos rfl]at I;exact ht I a w (N.cons N O) W
 |false=>rw[if_neg (by simp)]at I;exact he I a w (N.cons N O) W
theorem AH.cnp {ρ:Type}{A B R:Option ρ}{j:Nat}{p:Prop}[Decidable p](O:lk l j=some (.bool (decide p)))(I:(if p then A else B)=R)(ht:p→A=R→AH r P ops Q Hq m f li C ((j,.bool true)::l) H)(he: ¬p→B=R→AH r P ops Q Hq m f li C ((j,.bool false)::l) H):AH r P ops Q Hq m f li C l H:=fun a w N W=>by
 by_cases hp:p
 ·rw[if_pos hp]at I;exact ht hp I a w (N.cons N (by rw[O,decide_eq_true hp])) W
 ·rw[if_neg hp]at I;exact he hp I a w (N.cons N (by rw[O,decide_eq_false hp])) W
theorem AH.pks (k kn:Nat){t:Ty}{A:Option Addr}{c:Nat}{xs:List t.den}{i:Int}{v:t.den}(O:ix xs i=some v)(h:t.ok v→tele (lv t) fun ps=>∀b o,A=some ⟨b,o,none⟩→AH r P ops Q Hq m f li C l (hcat (kx (kn+1) (rs t v ps)) ((kn,.el none b (o+i.toNat*t.size) (cl t v ps))::H)))
  (I:hk H k=some (.sh (.slice t) [.slice A xs.length c] xs):=by rfl) (W:nok H kn (1+lv t)=true:=by kernel_rfl):AH r P ops Q Hq m f li C l H:=fun a w hf hh=>by
 obtain⟨ps,hl,N,b,o,hA,h2⟩:=peek hh k kn O (rowS I) W
 exact Qam (h N) ps hl b o hA a w hf h2
theorem AH.pkl (k kn:Nat){t:Ty}{A:Option Addr}{c:Nat}{xs:List t.den}{i:Int}{v:t.den}(O:ix xs i=some v)(h:t.ok v→tele (lv t) fun ps=>∀b o,A=some ⟨b,o,none⟩→AH r P ops Q Hq m f li C l (hcat (kx (kn+1) (rs t v ps)) ((kn,.el none b (o+i.toNat*t.size) (cl t v ps))::H)))
  (I:hk H k=some (.ln t A c xs):=by rfl) (W:nok H kn (1+lv t)=true:=by kernel_rfl):AH r P ops Q Hq m f li C l H:=fun a w hf hh=>by
 obtain⟨ps,hl,N,b,o,hA,h2⟩:=peek hh k kn O (rowL I) W
 exact Qam (h N) ps hl b o hA a w hf h2
theorem AH.pko (k kn:Nat){t:Ty}{e:TypeId}{A:Option Addr}{c:Nat}{xs:List t.den}{i:Int}{v:t.den}(hi:ix xs i=some v)(h:t.ok v→tele (lv t) fun ps=>∀g,A=some ⟨g,0,none⟩→AH r P ops Q Hq m f li C l (hcat (kx (kn+1) (rs t v ps)) ((kn,.el (some k) g (i.toNat*t.size) (cl t v ps))::H)))
  (N:hk H k=some (.own t e A c xs):=by rfl) (hn:nok H kn (1+lv t)=true:=by kernel_rfl):AH r P ops Q Hq m f li C l H:=fun a w hf hh=>by
 obtain⟨k',rfl,hv⟩:=Qaj hi
 obtain⟨G,hR,hG⟩:=rowO N w hh
 obtain⟨b,o,es,hA,hb,hbl,hc,O⟩:=hR.at hv
 have ho:o=0:=by
  obtain⟨cells,hrow,_⟩:Own t e 0 w (Fh C H) A c xs:=hh.hold k _ N
  rcases hrow.2 with⟨hv,_⟩|⟨g,cap,cur,hv,_⟩
  ·injection hv with hA' _ _;rw[hA]at hA';cases hA'
  ·injection hv with hA' _ _;rw[hA]at hA';injection hA' with hA';injection hA' with _ h2 _
 subst ho
 rw[Wf]at hc
 obtain⟨ps,hl,rfl,hrs⟩:=rep_cl (B:=Bk H) t (Qaf t O)
 have hnk:hk H kn=none:=Qat hn (Q1 _) (by omega)
 have h1:Hp C ((kn,.el (some k) b (k'*t.size) (cl t v ps))::H) w:=hh.add hnk rfl (fun j I r O=>by injection I with I;subst I;rw[N]at O;injection O with O;subst O;rfl) ⟨hc,hbl,hG b hb⟩
 have hn2:nok H (kn+1) (rs t v ps).length=true:=by
  rw[Qbd t v ps hl]
  rw[Yr 1]at hn
  simp only[nok,Qm]at hn;exact hn.2
 have hnn: ∀n W,nok H W n=true→(∀j,W≤j→j<W+n→j≠kn)→nok ((kn,.el (some k) b (k'*t.size) (cl t v ps))::H) W n=true:=by
  intro n
  induction n with
  |zero=>intro _ _ _;rfl
  |succ n ih=>
   intro W h2 h3
   simp only[nok,Qm]at h2 ⊢
   refine⟨?_,ih (W+1) h2.2 fun j h4 h5=>h3 j (by omega) (by omega)⟩
   rw[Qaa,if_neg (Ne.symm (h3 W (Q1 _) (by omega)))];exact h2.1
 have h2:Hp C (hcat (kx (kn+1) (rs t v ps)) ((kn,.el (some k) b (k'*t.size) (cl t v ps))::H)) w:=by
  refine h1.adds (hnn _ _ hn2 fun j h4 _=>by omega) fun r2 h4=>?_
  obtain⟨h5,h6,h7⟩:=hrs r2 h4
  have hbk: ∀j b',Bk ((kn,.el (some k) b (k'*t.size) (cl t v ps))::H) j b'↔Bk H j b':=fun j b'=>by
   by_cases I:j=kn
   ·subst I
    rw[Bk.cons_eq]
    exact⟨fun h=>by simp[Res.bl]at h,fun⟨_,h8,_⟩=>by rw[hnk]at h8;cases h8⟩
   ·exact Bk.cons_ne I
  exact⟨h6,h7,Res.to h5 (S:=[]) (Ch.refl w) (fun b' hF _=>⟨by simp,⟨fun j I=>hF.1.1 j ((hbk j b').1 I),hF.1.2⟩,hF.2⟩) (fun b' hB _=>⟨by simp,fun j I=>hB j ((hbk j b').1 I)⟩) (fun i b' _ hB=>⟨by simp,(hbk i b').2 hB⟩) (by simp)⟩
 exact Qam (h (rep_ok t O)) ps hl b hA a w hf (by rw[Qs];exact h2)
theorem r_ixo {a:Act}{w:World}{d:Option Tmp}{T:TypeId}{pos:String}{af:Array Edge}{n:Nat}{ds:List Deferred}{tt e:TypeId}{x y:Operand}{A:Option Addr}{b c:Nat}{t:Ty}{xs:List t.den}{i:Int}{kd:IntKind}{v:t.den}(N:ix xs i=some v)(O:A=some ⟨b,0,none⟩)(I:Fr a n ds l)
  (W:ev l x=some (.slice A xs.length c):=by rfl) (hy:ev l y=some (.int kd i):=by rfl) (ht:P.underlying tt=some (.slice e):=by rfl) (hs:szB P e=some t.size:=by kernel_rfl):(execOp a.eval ⟨d,.indexAddr tt x y,T,pos,af,none⟩).run P w=.ok (.value (.pointer (some ⟨b,i.toNat*t.size,none⟩))) w:=by
 obtain⟨k,rfl,hv⟩:=Qaj N
 have:=r_indexAddrA (P:=P) (w:=w) (d:=d) (T:=T) (pos:=pos) (af:=af) (gd:=none) ht (Qag hs) (I.eval W) O (I.eval hy) rfl (Qc.1 hv).1
 rw[Addr.add_lit,Wf]at this
 exact this
theorem r_ixt {a:Act}{w:World}{d:Option Tmp}{T:TypeId}{pos:String}{af:Array Edge}{n:Nat}{ds:List Deferred}{tt:TypeId}{x y:Operand}{s:ByteArray}{kd:IntKind}{i:Int}{v:UInt8}(W:ix s.data.toList i=some v)(N:Fr a n ds l)(ht:P.underlying tt=some .string:=by rfl)(hx:ev l x=some (.string s):=by rfl)(hy:ev l y=some (.int kd i):=by rfl):
  (execOp a.eval ⟨d,.index tt x y,T,pos,af,none⟩).run P w=.ok (.value (.int .u8 (v.toNat:Int))) w:=by
 obtain⟨k,rfl,O⟩:=Qaj W
 have I:=(Qc.1 O).1
 have:=r_indexStr (P:=P) (w:=w) (d:=d) (T:=T) (pos:=pos) (af:=af) (gd:=none) ht (N.eval hx) (N.eval hy) rfl (show k<s.size from I)
 rw[this]
 have hb:bat s k=v:=by
  unfold bat
  rw[Wl,←Xr,O];rfl
 rw[hb]
theorem r_ixa {a:Act}{w:World}{d:Option Tmp}{T:TypeId}{pos:String}{af:Array Edge}{n:Nat}{ds:List Deferred}{tt e:TypeId}{x y:Operand}{A:Option Addr}{b o c:Nat}{t:Ty}{xs:List t.den}{i:Int}{kd:IntKind}{v:t.den}(N:ix xs i=some v)(O:A=some ⟨b,o,none⟩)(I:Fr a n ds l)
  (W:ev l x=some (.slice A xs.length c):=by rfl) (hy:ev l y=some (.int kd i):=by rfl) (ht:P.underlying tt=some (.slice e):=by rfl) (hs:szB P e=some t.size:=by kernel_rfl):(execOp a.eval ⟨d,.indexAddr tt x y,T,pos,af,none⟩).run P w=.ok (.value (.pointer (some ⟨b,o+i.toNat*t.size,none⟩))) w:=by
 obtain⟨k,rfl,hv⟩:=Qaj N
 have:=r_indexAddrA (P:=P) (w:=w) (d:=d) (T:=T) (pos:=pos) (af:=af) (gd:=none) ht (Qag hs) (I.eval W) O (I.eval hy) rfl (Qc.1 hv).1
 rw[Addr.add_lit]at this
 exact this
end
def lt {α β:Type}(x:α)(f:α→Option β):Option β:=f x
theorem lt_some {α β:Type}{x:α}{f:α→Option β}{y:β}(h:lt x f=some y): ∃v,x=v∧f v=some y:=⟨x,rfl,h⟩
theorem Qeb: ∀{n:Nat} {sn:List Nat},sn.Nodup→(∀i∈sn,i<n)→sn.length≤n
 |0,sn,_,I=>by
  cases sn with
  |nil=>simp
  |cons a l=>exact absurd (I a (Qg ..)) (by omega)
 |n+1,sn,N,I=>by
  have O:(sn.erase n).length≤n:=Qeb (N.erase n) fun i hi=>by
   have h4:=List.Nodup.mem_erase_iff N |>.1 hi
   have:=I i h4.2
   omega
  by_cases W:n∈sn
  ·rw[Y3 W]at O;omega
  ·rw[List.erase_of_not_mem W]at O;omega
theorem seen_all {α β:Type}{m:List α}{sn:List Nat}{body:α→Option (Option β)}(h: ∀i∈sn,∀p,m[i]?=some p→body p=some none)(N: ∀i,i<m.length→i∈sn): ∀x∈m,body x=some none:=fun x O=>by
 obtain⟨i,I,rfl⟩:=Xh O
 exact h i (N i I) _ (Qd I)
theorem seen_cons {α β:Type}{m:List α}{sn:List Nat}{body:α→Option (Option β)}{i:Nat}{p:α}(h: ∀i∈sn,∀p,m[i]?=some p→body p=some none)(hp:m[i]?=some p)(O:body p=some none): ∀j∈i::sn,∀p,m[j]?=some p→body p=some none:=fun j N x I=>by
 rcases Qk.1 N with rfl|N
 ·rw[hp]at I;injection I with I;subst I;exact O
 ·exact h j N x I
theorem seen_bd {α:Type}{m:List α}{sn:List Nat}{i:Nat}{p:α}(h: ∀i∈sn,i<m.length)(hp:m[i]?=some p): ∀j∈i::sn,j<m.length:=fun j I=>by
 rcases Qk.1 I with rfl|I
 ·exact(Qc.1 hp).1
 ·exact h j I
theorem seen_f {n f:Nat}{sn:List Nat}{i:Nat}(I:sn.Nodup)(N: ∀j∈i::sn,j<n)(O:i∉sn)(W:f+sn.length=n+1):f-1<f∧(f-1)+(i::sn).length=n+1:=by
 have:=Qeb (Wm.2 ⟨O,I⟩) N
 simp only[Qi]at this ⊢
 omega
def om {α β:Type}(x:Option α)(a:Option β)(f:α→Option β):Option β:=match x with
 |none=>a
 |some p=>f p
theorem om_n {α β:Type}{x:Option α}{a:Option β}{f:α→Option β}(h:x=none):om x a f=a:=by rw[h];rfl
theorem om_s {α β:Type}{x:Option α}{a:Option β}{f:α→Option β}{p:α}(h:x=some p):om x a f=f p:=by rw[h];rfl
def mrg {α β:Type}[DecidableEq β](body:α→Option (Option β))(rest:Option β):List α→Option β
 | []=>rest
 |x::l=>(body x).bind fun q=>match q with
  |none=>mrg body rest l
  |some y=>if l.all (fun z=>decide (body z=some none∨body z=some (some y)))then some y else none
theorem mrg_all {α β:Type}[DecidableEq β]{body:α→Option (Option β)}{rest:Option β}{r:β}: ∀{l:List α},mrg body rest l=some r→(∀x∈l,∃q,body x=some q∧(q=none∨q=some r))∧((∀x∈l,body x=some none)→rest=some r)
 | [],h=>⟨by simp,fun _=>h⟩
 |x::l,h=>by
  unfold mrg at h
  obtain⟨q,hq,h⟩:=bd_some h
  cases q with
  |none=>
   obtain⟨W,h2⟩:=mrg_all (l:=l) h
   refine⟨fun z I=>?_,fun N=>h2 fun z I=>N z (Qe _ I)⟩
   rcases Qk.1 I with rfl|I
   ·exact⟨none,hq,.inl rfl⟩
   ·exact W z I
  |some y=>
   simp only[]at h
   split at h
   ·rename_i hall
    injection h with h
    subst h
    refine⟨fun z I=>?_,fun N=>?_⟩
    ·rcases Qk.1 I with rfl|I
     ·exact⟨some y,hq,.inr rfl⟩
     ·rcases of_decide_eq_true (Qz.1 hall z I)with O|O
      ·exact⟨_,O,.inl rfl⟩
      ·exact⟨_,O,.inr rfl⟩
    ·have:=N x (Qg ..)
     rw[hq]at this
     injection this with this
     cases this
   ·cases h
section
variable {P:Program}{w:World}
theorem Qhn {g b m:Nat}{seen:List Nat}{es:List (Value×Value)}{ty:TypeId}(hr:Rg w g b m seen)(hm:MapC w b es):
  ((∀i,i<m→i∈seen)∧(Instr.next (.pointer (some ⟨g,0,none⟩)) false ty).run P w=.ok (.tuple #[.bool false]) w)∨
  ∃i k v w',i<m∧i∉seen∧es[i]?=some (k,v)∧(Instr.next (.pointer (some ⟨g,0,none⟩)) false ty).run P w=.ok (.tuple #[.bool true,k,v]) w'∧Ch [g] w w'∧w'.heap.size=w.heap.size∧Rg w' g b m (i::seen)∧Lst w' g b k v:=by
 obtain⟨O,arr,clock,since,sb,hb,hlen,hg,hsc,hold,W,hseen⟩:=hr
 obtain⟨arr',clock',hb',hes,_,_⟩:=hm
 rw[hb]at hb'
 injection hb' with hb';injection hb' with hb' _
 have hb':=List.toArray_inj hb'
 subst hb'
 have hgl:=(Qo.1 hg).1
 have hgetg:(getObj g).run P w=.ok (.mapIter (some b) since sb.toArray since) w:=by simp[getObj,Sem.run,hg]
 have hgetb:(getObj b).run P w=.ok (.map arr.toArray clock) w:=by simp[getObj,Sem.run,hb]
 have htest:=next_test_false sb.toArray arr.toArray since since (by simpa using hold) (Q1 _)
 obtain⟨L,hL⟩: ∃L,L=arr.toArray.filter fun e=> !sb.toArray.contains e.born:=⟨_,rfl⟩
 have hLm: ∀e,e∈L.toList↔e∈arr∧e.born∉sb:=fun e=>by rw[hL];simp
 have e1:L.filter (fun x=>decide (x.born<since))=L:=Array.filter_eq_self.2 (fun x hx=>by have:=(hLm x).1 (by simpa using hx);simpa using hold x this.1)
 have e2:L.filter (fun x=>decide (x.born≥since))=#[]:=by
  rw[Array.filter_eq_empty_iff]
  intro x hx
  have:=hold x ((hLm x).1 (by simpa using hx)).1
  simp;omega
 by_cases h0:L.size=0
 ·left
  have hLe:L=#[]:=Array.eq_empty_of_size_eq_zero h0
  refine⟨fun i N=>?_,?_⟩
  ·obtain⟨e,he⟩: ∃e,arr[i]?=some e:=⟨_,Qd (by omega)⟩
   refine(hseen i e he).1 (Wb fun hn=>?_)
   have:=(hLm e).2 ⟨Qf he,hn⟩
   rw[hLe]at this;simp at this
  ·simp only[Instr.next,Sem.run_bind,hgetg,Result.andThen_ok,hgetb,htest,Qy,if_false,←hL,e1,e2,Array.append_empty]
   rw[hLe]
   simp[Question.forced]
 ·right
  have hie:L.isEmpty=false:=by simp[Array.isEmpty,h0]
  have hj: ∃j,j<L.size∧∃I:World,(choose (.mapNext L.size)).run P w=.ok j I∧(I=w∨I=w.drew):=by
   rw[run_choose_drew]
   by_cases hfo:(Question.mapNext L.size).forced=true
   ·rw[if_pos hfo];exact⟨0,by omega,w,rfl,.inl rfl⟩
   ·rw[if_neg hfo];exact⟨_,Jo _ (by omega),_,rfl,.inr rfl⟩
  obtain⟨j,hjl,I,hch,hw1⟩:=hj
  obtain⟨e,he⟩: ∃e,L[j]?=some e:=⟨_,Wg hjl⟩
  have heL:e∈L.toList:=by have:=Qf (l:=L.toList) (i:=j) (by rw[Xr];exact he);exact this
  obtain⟨hea,hen⟩:=(hLm e).1 heL
  obtain⟨i,N⟩:=Wp.1 hea
  have hil:=(Qc.1 N).1
  have hheap:I.heap=w.heap:=by rcases hw1 with rfl|rfl<;>rfl
  have hc1:Ch [] w I:=by rcases hw1 with rfl|rfl;exact Ch.refl _;exact Ch.drew _
  have hset:(setObj g (.mapIter (some b) since (sb.toArray.push e.born) clock)).run P I=.ok () (I.putObj g (.mapIter (some b) since (sb.toArray.push e.born) clock)):=by
   simp[setObj,Sem.run,World.putObj,hheap,hg]
  refine⟨i,e.key,e.val,I.putObj g (.mapIter (some b) since (sb.toArray.push e.born) clock),by omega,fun hs=>hen ((hseen i e N).2 hs),by rw[←hes,Qt,N];rfl,?_,hc1.then (Ch.putObj I g _),by simp[hheap],⟨O,arr,clock,since,sb++[e.born],?_,hlen,?_,hsc,hold,W,?_⟩,?_⟩
  ·simp only[Instr.next,Sem.run_bind,hgetg,Result.andThen_ok,hgetb,htest,Qy,if_false,←hL,e1,e2,hie,Array.append_empty,Array.empty_append,Array.size_map,hch,Array.getElem?_map,he,Wj,hset,Sem.run_pure]
  ·rw[World.putObj_heap_other (fun h=>O h.symm),hheap];exact hb
  ·rw[World.putObj_heap_same (by rw[hheap];exact hgl)]
   subst hsc;simp
  ·intro i' e' he'
   rw[Qn,Qj,Qk,hseen i' e' he']
   constructor
   ·rintro(h|h)
    ·exact .inr h
    ·left
     have hi'l:=(Qc.1 he').1
     have:=(List.getElem_inj W (i:=i') (j:=i) (h₀:=by simpa using hi'l) (h₁:=by simpa using hil)).1 (by
      simp only[List.getElem_map]
      rw[(Qc.1 he').2,(Qc.1 N).2];exact h)
     exact this
   ·rintro(h|h)
    ·right;subst h;rw[N]at he';injection he' with he';rw[he']
    ·exact .inl h
  ·have h1:=World.putObj_heap_same (w:=I) (r:=g) (o:=.mapIter (some b) since (sb.toArray.push e.born) clock) (by rw[hheap];exact hgl)
   have h2:(I.putObj g (.mapIter (some b) since (sb.toArray.push e.born) clock)).heap[b]?=some (.map arr.toArray clock):=by rw[World.putObj_heap_other (fun h=>O h.symm),hheap];exact hb
   have hf:arr.find? (·.born==e.born)=some e:=by
    cases hfi:arr.find? (·.born==e.born)with
    |none=>have:=List.find?_eq_none.1 hfi e hea;simp at this
    |some e2=>
     have h3:=List.find?_some hfi
     obtain⟨j,hj⟩:=Wp.1 (List.mem_of_find?_eq_some hfi)
     have hjl:=(Qc.1 hj).1
     have:=(List.getElem_inj W (i:=j) (j:=i) (h₀:=by simpa using hjl) (h₁:=by simpa using hil)).1 (by
      simp only[List.getElem_map]
      rw[(Qc.1 hj).2,(Qc.1 N).2];simpa using h3)
     subst this;rw[N]at hj;exact hj.symm
   exact⟨since,clock,e.born,sb.toArray,arr,e,h1,h2,hf,rfl,rfl⟩
end
section
variable {r:Option Nat}{P:Program}{ops:Array Oper}{Q:Exit→Act→World→Prop}{rest lst:List Oper}{C:Cx}{l:List (Nat×Value)}{H:List (Nat×Res)}{d:Nat}{op:Op}{T:TypeId}{pos:String}{af:Array Edge}
variable {κ:Type}[DecidableEq κ]{enc:κ→Value}{kt et tt:TypeId}{t:Ty}{agg:Bool}{b:Nat}{m:List (κ×t.den)}
theorem r_lkf {a:Act}{w:World}{d:Option Tmp}{x y:Operand}{z v:t.den}{zs:List Value}{ok:Bool}(k:Nat)(K:Ky P kt enc)(key:κ)(hz: ∀w,(zeroValue et).run P w=.ok (vof agg zs) w)(hD:Dat H t zs z)(hv:mget z m key=v)(hl:lv t=0)(N:Fr a C.n C.ds l)(O:Hp C H w)
  (I:asmp (hk H k)=some (.mp κ enc t agg b m):=by rfl) (hx:ev l x=some (.map (some b)):=by rfl) (hy:ev l y=some (enc key):=by rfl) (ht:P.underlying tt=some (.map kt et):=by rfl):
  (execOp a.eval ⟨d,.lookup tt x y ok,T,pos,af,none⟩).run P w=.ok (.value (if ok then .tuple #[vof agg (cl t v []),.bool (mhas m key)]else vof agg (cl t v []))) w:=by
 subst hv
 obtain⟨cs,h1,h2⟩:=run_lookup (zs:=zs) K ht hz (Dat.rep O t hD) (Qgd O I) rfl key ok
 obtain⟨ps,W,h4,_⟩:=rep_cl (B:=Bk H) t h2
 rw[hl]at W
 have:ps=[]:=Wo W
 subst this
 subst h4
 exact r_lookup h1 (N.eval hx) (N.eval hy)
omit [DecidableEq κ]in
theorem AL.rgm (k kn:Nat){x:Operand}(h: ∀g,AL r P ops Q rest C ((d,.pointer (some ⟨g,0,none⟩))::l) ((kn,.mit k g b m.length [] none)::H))
  (I:hk H k=some (.mp κ enc t agg b m):=by rfl) (ht:P.underlying tt=some (.map kt et):=by rfl) (hx:ev l x=some (.map (some b)):=by rfl) (hd:Nat.ble (d+1) C.n=true:=by rfl) (hn:hk H kn=none:=by kernel_rfl):AL r P ops Q (⟨some d,.range tt x,T,pos,af,none⟩::rest) C l H:=fun a w hf W=>
 Z.st_rangeMt hf hd ht hx (W.hold k _ I) fun g w' a' hg hs hR O hf'=>h g a' w' hf' (W.new hn O (fun b' hb'=>by simp only[Res.bl,Qj]at hb';omega) (fun j hj r N=>by
   simp only[Res.ref,Qr]at hj;subst hj;rw[I]at N;injection N with N;subst N;rfl) fun F B _ _ hB=>⟨hR,hB k b ⟨_,I,by simp[Res.bl]⟩,fun kv h=>by cases h⟩)
omit [DecidableEq κ]in
theorem AL.nxm (k ki kn:Nat){x:Operand}{g:Nat}{seen:List Nat}{la:Option (Value×Value)}
  (h1:(∀i,i<m.length→i∈seen)→AL r P ops Q rest C ((d,.tuple #[.bool false])::l) H)
  (h2: ∀i p,m[i]?=some p→i∉seen→t.ok p.2→tele (lv t) fun ps=>AL r P ops Q rest C ((d,.tuple #[.bool true,enc p.1,vof agg (cl t p.2 ps)])::l) (hcat (kx kn (rs t p.2 ps)) ((ki,.mit k g b m.length (i::seen) (some (enc p.1,vof agg (cl t p.2 ps))))::H)))
  (N:hk H k=some (.mp κ enc t agg b m):=by rfl) (I:hk H ki=some (.mit k g b m.length seen la):=by rfl) (hx:ev l x=some (.pointer (some ⟨g,0,none⟩)):=by rfl) (hd:Nat.ble (d+1) C.n=true:=by rfl)
  (hn: ∀s la,nok ((ki,.mit k g b m.length s la)::H) kn (lv t)=true:=by intro _ _;kernel_rfl) (O:hng [ki] [] H=true:=by kernel_rfl):AL r P ops Q (⟨some d,.next x false,T,pos,af,none⟩::rest) C l H:=fun a w hf hh=>by
 have hkk:k≠ki:=fun e=>by subst e;rw[N]at I;injection I with I;cases I
 obtain⟨es,hmc,hl,h3⟩:Mt enc t agg w (Fh C H) b m:=hh.hold k _ N
 rcases Qhn (P:=P) (ty:=T) (hh.hold ki _ I).1 hmc with⟨h4,h5⟩|⟨i,kv,v,w',i1,i2,i3,i4,i5,i6,i7,i8⟩
 ·refine Z.val hf hd ?_ fun a' hf'=>h1 h4 a' w hf' hh
  simp only[execOp,hf.eval hx,Sem.run_bind,h5,Result.andThen_ok,Sem.run_pure]
 ·obtain⟨p,hp⟩: ∃p,m[i]?=some p:=⟨_,Qd i1⟩
  obtain⟨cs,h6,h7⟩:=h3 i p hp
  rw[h6]at i3;injection i3 with i3;injection i3 with e1 e2
  subst e1;subst e2
  have hup: ∀la,(∀kv,la=some kv→Lst w' g b kv.1 kv.2)→Hp C ((ki,.mit k g b m.length (i::seen) la)::H) w':=fun la hla=>Hp.dd (js:=[]) (hh.upd i5 (fun b' hb'=>⟨_,I,by simpa[Res.bl] using hb'⟩) (fun b' hb'=>.inl ⟨_,I,hb'⟩) (fun j O=>by
    simp only[Res.ref,Qr]at O;subst O
    exact⟨hkk,fun r hr=>by rw[N]at hr;injection hr with hr;subst hr;rfl⟩) fun F B _ _ _ hB _=>⟨i7,hB k b rfl ⟨_,N,by simp[Res.bl]⟩,hla⟩) O
  have hr': ∀la,t.rep w' (Fh C ((ki,.mit k g b m.length (i::seen) la)::H)) cs p.2:=fun la=>by
   refine rep_to h7 i5 fun b' hb' hl'=>⟨fun hm=>hb'.1 ki ⟨_,I,by simpa[Res.bl] using hm⟩,⟨fun j O=>?_,hb'.2⟩⟩
   by_cases W:j=ki
   ·subst W
    have h0:=Bk.cons_eq.1 O
    exact hb'.1 j ⟨_,I,h0⟩
   ·obtain⟨r2,h8,h9⟩:=(Bk.cons_ne W).1 O
    exact hb'.1 j ⟨r2,h8,h9⟩
  have hok:=rep_ok t h7
  obtain⟨ps,hl2,rfl,h9⟩:=Qfn (hup (some (enc p.1,vof agg cs)) (fun kv h=>by injection h with h;subst h;exact i8)) (hr' _) kn (hn _ _)
  refine Z.valw hf hd ?_ fun a' hf'=>Qam (h2 i p hp i2 hok) ps hl2 a' w' hf' h9
  simp only[execOp,hf.eval hx,Sem.run_bind,i4,Result.andThen_ok,Sem.run_pure]
theorem AL.ent (ki:Nat){x:Operand}{k g b n:Nat}{seen:List Nat}{kv vv:Value}(h:AL r P ops Q rest C ((d,.tuple #[kv,vv])::l) H)
  (I:hk H ki=some (.mit k g b n seen (some (kv,vv))):=by rfl) (N:ev l x=some (.pointer (some ⟨g,0,none⟩)):=by rfl) (O:Nat.ble (d+1) C.n=true:=by rfl):AL r P ops Q (⟨some d,.entry x,T,pos,af,none⟩::rest) C l H:=
 AL.val O (fun a w W hh=>by
  have:=Lst.run (P:=P) ((hh.hold ki _ I).2.2 _ rfl)
  simp only[execOp,W.eval N,Sem.run_bind,this,Result.andThen_ok,Sem.run_pure]) h
theorem okm {X:Act→World→Prop}(k:Nat)(key:κ){z v:t.den}{zs:List Value}(W:Dat H t zs z)(hv:mget z m key=v)(h:t.ok v→∀a w,Fr a C.n C.ds l→Hp C H w→X a w)(I:asmp (hk H k)=some (.mp κ enc t agg b m):=by rfl): ∀a w,Fr a C.n C.ds l→Hp C H w→X a w:=fun a w hf N=>by
 subst hv
 refine h ?_ a w hf N
 cases O:mhas m key with
 |false=>rw[mget_none O];exact rep_ok t (Dat.rep N t W)
 |true=>
  obtain⟨es,_,_,h3⟩:Mt enc t agg w (Fh C H) b m:=Qgd N I
  obtain⟨i,hi⟩:=Wp.1 (mget_mem (z:=z) O)
  obtain⟨cs,_,h5⟩:=h3 i _ hi
  exact rep_ok t h5
end
section
variable {r:Option Nat}{P:Program}{ops:Array Oper}{Q:Exit→Act→World→Prop}{rest lst:List Oper}{C:Cx}{l:List (Nat×Value)}{H:List (Nat×Res)}{d:Nat}{op:Op}{T:TypeId}{pos:String}{af:Array Edge}
theorem r_indexArr {a:Act}{w:World}{dd:Option Tmp}{gd:Option (Nat×Bool)}{tt e:TypeId}{n sz g o:Nat}{x y:Operand}{i:Int}{kd:IntKind}(I:P.underlying tt=some (.array n e))(N: ∀w,(sizeOf e).run P w=.ok sz w)(O:a.eval x=.pointer (some ⟨g,o,none⟩))(W:a.eval y=.int kd i)(h0:0≤i)(h1:i<n):
  (execOp a.eval ⟨dd,.indexAddr tt x y,T,pos,af,gd⟩).run P w=.ok (.value (.pointer (some ⟨g,o+i.toNat*sz,none⟩))) w:=by
 have:=Addr.add_lit g o (i.toNat*sz)
 simp[execOp,Instr.indexAt,O,W,asIntOf,run_underlying I,N,h0,h1,Instr.sureAddr,this]
theorem has_ix {k:IntKind}{vals:List Int}{i v:Int}(I:ix vals i=some v)(h: ∀x,x∈vals→k.has x):k.has v:=by
 obtain⟨j,_,N⟩:=Qaj I
 exact h v (Qf N)
theorem AL.ixb (k kn:Nat){τ:Type}(f:τ→Value)(vals:List τ){tt e bt:TypeId}{n g o:Nat}{cs:List Value}{x y:Operand}{i:Int}{kd:IntKind}{v:τ}(I:ix vals i=some v)
  (h:AL r P ops Q rest C ((d,.pointer (some ⟨g,o+i.toNat*1,none⟩))::l) ((kn,.el (some k) g (o+i.toNat*1) [f v])::H))
  (W:hk H k=some (.blk g bt cs):=by rfl) (hx:ev l x=some (.pointer (some ⟨g,o,none⟩)):=by rfl) (hy:ev l y=some (.int kd i):=by rfl) (ht:P.underlying tt=some (.array n e):=by rfl) (hS:szB P e=some 1:=by kernel_rfl) (hl:vals.length=n:=by rfl) (hcs:(cs.drop o).take n=vals.map f:=by rfl)
  (hd:Nat.ble (d+1) C.n=true:=by rfl) (hn:hk H kn=none:=by kernel_rfl):AL r P ops Q (⟨some d,.indexAddr tt x y,T,pos,af,none⟩::rest) C l H:=fun a w hf hh=>by
 subst hl
 have N:=ix_ok I
 obtain⟨j,rfl,hj⟩:=Qaj I
 have hB:Blk w g bt cs:=hh.hold k _ W
 refine Z.val hf hd (r_indexArr ht (Qag hS) (hf.eval hx) (hf.eval hy) N.1 N.2) fun a' hf'=>h a' w hf' (hh.add hn rfl (fun i I r O=>by
   simp only[Res.ref,Qr]at I;subst I;rw[W]at O;injection O with O;subst O;rfl) ⟨fun q u hu=>?_,hB.lt,⟨_,W,by simp[Res.bl]⟩⟩)
 cases q with
 |succ q=>simp at hu
 |zero=>
  simp only[Xd,Qr]at hu
  subst hu
  rw[Addr.add_lit,Yz,hB.cell,Qs,Jk]
  have hlt:=(Qc.1 hj).1
  have h3:((cs.drop o).take vals.length)[j]?=some (f v):=by rw[hcs,Qt,hj];rfl
  rw[Qq hlt,Wc]at h3
  exact h3
end
section
variable {P:Program}{C:Cx}{l:List (Nat×Value)}{H:List (Nat×Res)}
theorem Row.none {t:Ty}{w:World}{F G:Nat→Prop}{A:Option Addr}{c:Nat}{xs:List t.den}(h:Row t w F G A c xs)(N:A.isNone=true):xs=[]:=by
 obtain⟨_,_,_,_,I,_⟩:=h
 rcases I with I|⟨b,o,rfl,_⟩
 ·exact Wo I
 ·cases N
theorem nilL {X:Act→World→Prop}(k:Nat){t:Ty}{A:Option Addr}{c:Nat}{xs:List t.den}(O:A.isNone=true)(h:xs=[]→∀a w,Fr a C.n C.ds l→Hp C H w→X a w)(I:hk H k=some (.ln t A c xs):=by rfl): ∀a w,Fr a C.n C.ds l→Hp C H w→X a w:=fun a w W N=>by
 obtain⟨G,hR,_⟩:=rowL I w N
 exact h (Row.none hR O) a w W N
theorem AX.cnn {r:Option Nat}{Y:Exit→Act→World→Prop}{K:List Kx}{c:Operand}{x y:Code}{b:Bool}(O:ev l c=some (.bool b))(W:b=true→AX r P Y K x C l H)(he:b=false→AX r P Y K y C l H):AX r P Y K (.cond c x y) C l H:=fun a w I N=>Z.cond I O (fun h=>W h a w I N) (fun h=>he h a w I N)
end
section
variable {r:Option Nat}{P:Program}{ops:Array Oper}{Q:Exit→Act→World→Prop}{rest:List Oper}{C:Cx}{l:List (Nat×Value)}{H:List (Nat×Res)}{d:Nat}{T:TypeId}{pos:String}{af:Array Edge}
end
theorem szl (b:ByteArray)(h:decide (b.size≤maxLen)=true):b.size≤maxLen:=of_decide_eq_true h
theorem wrap_has (k:IntKind)(n:Int):k.has (k.wrap n):=by
 cases k<;>simp[IntKind.has,IntKind.min,IntKind.max,IntKind.wrap,IntKind.bits,IntKind.signed]<;>omega
end Go.A
namespace Go.Z
section
variable {P:Program}{a:Act}{w:World}
theorem resv3 {fn:Func}{r1 r2 r3:ResultVar}{v1 v2 v3:Value}(h:fn.results=#[r1,r2,r3])(I:RV P a.tmps w r1 v1)(N:RV P a.tmps w r2 v2)(O:RV P a.tmps w r3 v3):(results fn a.tmps).run P w=.ok (.tuple #[v1,v2,v3]) w:=by
 cases r1<;>cases r2<;>cases r3<;>simp only[RV,Wl]at I N O
 ·simp[results,h,asAddr,I,N,O]
 ·obtain⟨_,W,q3⟩:=O;simp[results,h,asAddr,I,N,W,q3]
 ·obtain⟨_,p2,q2⟩:=N;simp[results,h,asAddr,I,p2,q2,O]
 ·obtain⟨_,p2,q2⟩:=N;obtain⟨_,W,q3⟩:=O;simp[results,h,asAddr,I,p2,q2,W,q3]
 ·obtain⟨_,p1,q1⟩:=I;simp[results,h,asAddr,p1,q1,N,O]
 ·obtain⟨_,p1,q1⟩:=I;obtain⟨_,W,q3⟩:=O;simp[results,h,asAddr,p1,q1,N,W,q3]
 ·obtain⟨_,p1,q1⟩:=I;obtain⟨_,p2,q2⟩:=N;simp[results,h,asAddr,p1,q1,p2,q2,O]
 ·obtain⟨_,p1,q1⟩:=I;obtain⟨_,p2,q2⟩:=N;obtain⟨_,W,q3⟩:=O;simp[results,h,asAddr,p1,q1,p2,q2,W,q3]
end
end Go.Z
end
section
namespace Go.A
open Go.RowKit Go.Z
def Seqk (P:Program)(gf:FuncId)(cap:List Value)(N:Nat)(E:Nat→World→World→List Value→Prop)(Dat:Nat→World→Prop):Prop:=
 ∀(lid:Nat) (w:World) (J:Nat→World→Prop) (Jx:World→Prop),(∀k W W',J k W→Ch [] W W'→J k W')→(∀W W',Jx W→Ch [] W W'→Jx W')→(∀k W,J k W→Dat k W)→J 0 w→
  (∀k W0 W args,k<N→J k W0→Ch [] W0 W→E k W0 W args→YieldAt (FW none) 0 P lid args.toArray W fun e W'=>(e=.returned (.bool true)∧J (k+1) W')∨(e=.returned (.bool false)∧Jx W'))→
  Calls P gf (.func (.yield lid) #[] #[]::cap).toArray w fun e W'=>e=.returned (.tuple #[])∧(J N W'∨Jx W')
def RK (D L:Nat)(o:Obj)(I:Nat→World→Prop)(X:Exit→World→Prop)(k:Nat)(e:Exit)(W':World):Prop:=
 W'.heap[L]?=some o∧Dfr W' D∧match e with
  | .normal=>I (k+1) W'
  | .ret=>X .ret W'
  | .exit id=>X (.exit id) W'
  |_=>False
def RQ (D L:Nat)(o:Obj)(I:Nat→World→Prop)(X:Exit→World→Prop)(k:Nat):Exit→Act→World→Prop:=fun e _ W'=>RK D L o I X k e W'
theorem RQ.pq {D L:Nat}{o:Obj}{I:Nat→World→Prop}{X:Exit→World→Prop}{k:Nat}:Pq (RQ D L o I X k):=fun _ _ _ _ _ h=>h
section
variable {P:Program}{Q:Exit→Act→World→Prop}{a:Act}{w:World}{n:Nat}{ds:List Deferred}{l:List (Nat×Value)}
theorem rangeK {g:Operand}{ps:List Nat}{assign body:Code}{gf:FuncId}{cap:List Value}(hf:Fr a n ds l)(hg:ev l g=some (.func (.func gf) #[] cap.toArray))
  (hcf: ∀args w,(callFunc gf args).run P w=.ok (.enter gf args) w) (N:Nat) (E:Nat→World→World→List Value→Prop) (Dat:Nat→World→Prop) (I:Nat→World→Prop) (X:Exit→World→Prop) (hseq:Seqk P gf cap N E Dat)
  (hlen: ∀k W0 W args,E k W0 W args→args.length=ps.length) (hps: ∀p,p∈ps→p<n)
  (hI0: ∀W1,(∃W',Ch [] w W'∧W'.heap.size=w.heap.size+1∧Dfr W' w.heap.size∧Ch [] W' W1∧W1.heap.size=W'.heap.size+1)→(∃o,W1.heap[w.heap.size+1]?=some o)→I 0 W1)
  (hst: ∀k W W',I k W→Ch [w.heap.size+1] W W'→I k W') (hxt: ∀e W W',X e W→Ch [w.heap.size+1] W W'→X e W') (hdat: ∀k W,I k W→Dat k W)
  (hround: ∀k W0 W args a o,k<N→I k W0→Ch [] W0 W→w.heap.size+1<W0.heap.size→E k W0 W args→args.length=ps.length→W.heap[w.heap.size+1]?=some o→Dfr W w.heap.size→Fr a n [] (bindl ps args l)→
   WP (some (w.heap.size+1)) P assign (fun e a1 W1=>e=.normal∧W1.heap[w.heap.size+1]?=some o∧Dfr W1 w.heap.size∧∀W2 o2,Ch [w.heap.size+1] W1 W2→W2.heap[w.heap.size+1]?=some o2→Dfr W2 w.heap.size→
    WP (some (w.heap.size+1)) P body (RQ w.heap.size (w.heap.size+1) o2 I X k) a1 W2) a W)
  (hdone: ∀W a',I N W→Dfr W w.heap.size→Fr a' n (mkD w.heap.size::ds) l→Q .normal a' W)
  (hret: ∀W a',X .ret W→Dfr W w.heap.size→Fr a' n (mkD w.heap.size::ds) l→Q .ret a' W)
  (hexit: ∀id W a',X (.exit id) W→Dfr W w.heap.size→Fr a' n (mkD w.heap.size::ds) l→Q (.exit id) a' W):WP none P (Code.rangeFunc g ps.toArray assign body) Q a w:=by
 refine wpIn_rangeFunc fun fn hfn=>?_
 obtain⟨rec,hrec⟩: ∃rec:LoopState→Option Code→Loop,rec=fun st pe=>{state:=st,pending:=pe,fn,tmps:=a.tmps,params:=ps.toArray,assign,body,defers:=w.heap.size}:=⟨_,rfl⟩
 obtain⟨W1,hW1⟩: ∃W1,(w.alloc (.deferred (some []))).alloc (.loop (rec .ready none))=W1:=⟨_,rfl⟩
 have hL1:W1.heap[w.heap.size+1]?=some (.loop (rec .ready none)):=by
  rw[←hW1];have:=World.alloc_heap_new (w.alloc (.deferred (some []))) (.loop (rec .ready none));rwa[World.size_alloc]at this
 have hK1:Dfr W1 w.heap.size:=by
  rw[←hW1];exact(Below.heap_alloc _ _ _ (by simp)).trans (World.alloc_heap_new w _)
 have up: ∀{W W':World},Ch [] W W'→Ch [w.heap.size+1] W W':=fun h=>h.mono (by simp)
 have hI1:I 0 W1:=hI0 W1 ⟨_,Ch.alloc w _,World.size_alloc ..,World.alloc_heap_new w _,by rw[←hW1];exact Ch.alloc _ _,by rw[←hW1];exact World.size_alloc ..⟩ ⟨_,hL1⟩
 have hfr:a.eval g=.func (.func gf) #[] cap.toArray:=hf.eval hg
 have hcall:=hseq (w.heap.size+1) W1
  (fun k W=>I k W∧W.heap[w.heap.size+1]?=some (.loop (rec .ready none))∧Dfr W w.heap.size)
  (fun W=>∃e c,X e W∧((e=.ret∧c=Code.ret)∨∃id,e=.exit id∧c=Code.exit id)∧W.heap[w.heap.size+1]?=some (.loop (rec .done (some c)))∧Dfr W w.heap.size)
  (fun k W W' ⟨h1,h2,h3⟩ O=>⟨hst k W W' h1 (up O),(O.block _ (Qo.1 h2).1 (by simp)).trans h2,h3.ch O (by simp)⟩)
  (fun W W' ⟨e,c,h1,h0,h2,h3⟩ O=>⟨e,c,hxt e W W' h1 (up O),h0,(O.block _ (Qo.1 h2).1 (by simp)).trans h2,h3.ch O (by simp)⟩)
  (fun k W h=>hdat k W h.1) ⟨hI1,hL1,hK1⟩ ?_
 ·refine⟨w.heap.size+1,[mkD w.heap.size],W1,{target:=.fn (.func gf) cap.toArray,args:=#[.func (.yield (w.heap.size+1)) #[] #[]]},W1,gf,
   (.func (.yield (w.heap.size+1)) #[] #[]::cap).toArray,W1,?_,?_,fun _ _=>trivial,?_,(fun h=>by cases h),(callsFW hcall).mono ?_⟩
  ·rw[←hW1,hrec];exact run_enterLoop_outer _ _ _ _ _
  ·simp only[resolve,hfr]
   simp[go_sem]
  ·simp[invoke,go_sem,hcf]
  ·have fin: ∀(W:World) (st:LoopState) (pe:Option Code),W.heap[w.heap.size+1]?=some (.loop (rec st pe))→st≠ .busy→Dfr W w.heap.size→
     ∃W',(Instr.endLoop (w.heap.size+1)).run P W=.ok pe W'∧Ch [w.heap.size+1] W W'∧Dfr W' w.heap.size:=fun W st pe hl hb hk=>by
    have:=run_endLoop (P:=P) hl (by rw[hrec];exact hb)
    rw[hrec]at this
    exact⟨_,this,Ch.putObj _ _ _,hk.ch (Ch.putObj _ _ _) (by simp)⟩
   rintro e W ⟨rfl,⟨h1,h2,h3⟩|⟨e,c,h1,h0,h2,h3⟩⟩
   ·obtain⟨W',hr,O,hk⟩:=fin W .ready none h2 (by simp) h3
    exact⟨none,W',hr,hdone W' _ (hst N W W' h1 O) hk ⟨hf.size,by show [mkD w.heap.size]++a.defers=_;rw[hf.defs];rfl,hf.get⟩⟩
   ·obtain⟨W',hr,O,hk⟩:=fin W .done (some c) h2 (by simp) h3
    have hfr':Fr {a with defers:=[mkD w.heap.size]++a.defers} n (mkD w.heap.size::ds) l:=⟨hf.size,by show [mkD w.heap.size]++a.defers=_;rw[hf.defs];rfl,hf.get⟩
    refine⟨some c,W',hr,?_⟩
    rcases h0 with⟨rfl,rfl⟩|⟨id,rfl,rfl⟩
    ·exact wpIn_ret (hret W' _ (hxt _ W W' h1 O) hk hfr')
    ·exact wpIn_exit (hexit id W' _ (hxt _ W W' h1 O) hk hfr')
 ·rintro k W0 W args hk ⟨h1,h2,h3⟩ O hEk
  have hlt:w.heap.size+1<W0.heap.size:=(Qo.1 h2).1
  have hl:W.heap[w.heap.size+1]?=some (.loop (rec .ready none)):=(O.block _ hlt (by simp)).trans h2
  have hkk:Dfr W w.heap.size:=h3.ch O (by simp)
  have hlen':=hlen k W0 W args hEk
  have hy:=run_yield (P:=P) (args:=args.toArray) hl (by rw[hrec];simpa using hlen')
  refine⟨fn,_,assign,body,by rw[hrec]at hy;exact hy,roundIn_of_wpIn hfn ?_⟩
  have hfr0:Fr ⟨(ps.zip args).foldl (fun t (p,v)=>t.setIfInBounds p v) a.tmps,[]⟩ n [] (bindl ps args l):=bind_fr ps args hps ⟨hf.size,rfl,hf.get⟩
  have hzip:((rec .ready none).params.zip args.toArray).foldl (fun t (p,v)=>t.setIfInBounds p v) (rec .ready none).tmps=(ps.zip args).foldl (fun t (p,v)=>t.setIfInBounds p v) a.tmps:=by
   rw[hrec];simp
  rw[hrec]at hzip
  simp only at hzip
  rw[hzip]
  refine wpIn_mono (hround k W0 W args _ _ hk h1 O hlt hEk hlen' hl hkk hfr0) ?_
  rintro e a1 W' ⟨rfl,hl',hk',hbody⟩
  refine⟨_,run_beginRound hl' (by rw[hrec]),?_⟩
  have hltW:w.heap.size+1<W'.heap.size:=(Qo.1 hl').1
  have hc2:Ch [w.heap.size+1] W' (W'.putObj (w.heap.size+1) (.loop {rec .ready none with state:=.busy})):=Ch.putObj _ _ _
  have hl2:(W'.putObj (w.heap.size+1) (.loop {rec .ready none with state:=.busy})).heap[w.heap.size+1]?=some (.loop {rec .ready none with state:=.busy}):=World.putObj_heap_same hltW
  have hk2:=hk'.ch hc2 (by simp)
  refine wpIn_mono (hbody _ _ hc2 hl2 hk2) ?_
  have fin: ∀(jump:Option Code) (W3:World),W3.heap[w.heap.size+1]?=some (.loop {rec .ready none with state:=.busy})→Dfr W3 w.heap.size→
    ∃W4,(Instr.endRound (w.heap.size+1) jump).run P W3=.ok (.bool jump.isNone) W4∧Ch [w.heap.size+1] W3 W4∧W4.heap[w.heap.size+1]?=some (.loop (rec (if jump.isNone then .ready else .done) jump))∧Dfr W4 w.heap.size:=fun jump W3 hl3 hk3=>by
   have hend:=run_endRound (P:=P) jump hl3
   rw[hrec]at hend ⊢
   exact⟨_,hend,Ch.putObj _ _ _,World.putObj_heap_same (Qo.1 hl3).1,hk3.ch (Ch.putObj _ _ _) (by simp)⟩
  rintro e a3 W3 ⟨hl3,hk3,hp⟩
  cases e with
  |normal=>
   obtain⟨W4,hr,hc4,hl4,hk4⟩:=fin none W3 hl3 hk3
   exact⟨_,W4,hr,.inl ⟨rfl,hst _ _ _ hp hc4,hl4,hk4⟩⟩
  |ret=>
   obtain⟨W4,hr,hc4,hl4,hk4⟩:=fin (some .ret) W3 hl3 hk3
   exact⟨_,W4,hr,.inr ⟨rfl,.ret,.ret,hxt _ _ _ hp hc4,.inl ⟨rfl,rfl⟩,hl4,hk4⟩⟩
  |exit id=>
   obtain⟨W4,hr,hc4,hl4,hk4⟩:=fin (some (.exit id)) W3 hl3 hk3
   exact⟨_,W4,hr,.inr ⟨rfl,.exit id,.exit id,hxt _ _ _ hp hc4,.inr ⟨id,rfl,rfl⟩,hl4,hk4⟩⟩
  |goto t=>exact hp.elim
  |panic ch=>exact hp.elim
  |outgrown=>exact hp.elim
end
abbrev lpT:Obj→Prop:=fun _=>True
abbrev dfT:Obj→Prop:=fun o=>o=.deferred (some [])
def Res.hasb:Res→Bool
 | .own ..=>true
 | .blk ..=>true
 | .mp ..=>true
 | .si ..=>true
 | .ob ..=>true
 | .mr ..=>true
 | .gn ..=>true
 |_=>false
theorem Res.nob: ∀{r:Res},r.hasb=false→r.ref=none→r.bl=[]
 | .dead,_,_=>rfl
 | .sh ..,_,_=>rfl
 | .ln ..,_,_=>rfl
 | .el ..,_,_=>rfl
 | .own ..,h,_=>by cases h
 | .blk ..,h,_=>by cases h
 | .mp ..,h,_=>by cases h
 | .mit ..,_,h=>by cases h
 | .si ..,h,_=>by cases h
 | .ob ..,h,_=>by cases h
 | .lmp ..,_,_=>rfl
 | .mr ..,h,_=>by cases h
 | .gn ..,h,_=>by cases h
def mvl (H:List (Nat×Res)):List Nat→List (Nat×Nat)
 | []=>[]
 |k::ks=>match hk H k with
  |some r=>bif rok [] r.ref then(bif r.hasb then(k,k)::mvl H ks else mvl H ks)else mvl H ks
  |none=>mvl H ks
theorem Qix {o:Option Nat}(h:rok [] o=true):o=none:=by
 cases o with
 |none=>rfl
 |some j=>simp[rok]at h
theorem Qea (H:List (Nat×Res)): ∀ks:List Nat,Sub H (kpH H [] ks) (mvl H ks) []
 | []=>.nil
 |k::ks=>by
  unfold kpH mvl
  cases N:hk H k with
  |none=>exact Qea H ks
  |some r=>
   simp only[]
   cases I:rok [] r.ref with
   |false=>exact Qea H ks
   |true=>
    cases O:r.hasb with
    |false=>exact .s k (Qea H ks) N (Res.nob O (Qix I)) (Qix I)
    |true=>exact .m k (Qea H ks) N (Qix I)
theorem Hp.nds {n n':Nat}{ds ds':List Deferred}{w0:World}{S:List Nat}{F:Nat→Prop}{H:List (Nat×Res)}{w:World}(h:Hp ⟨n,ds,w0,S,F⟩ H w):Hp ⟨n',ds',w0,S,F⟩ H w:=⟨h.ch,h.hold,h.bnd,h.dis,h.ref⟩
theorem fin_round {C:Cx}{H He:List (Nat×Res)}{W W':World}{n:Nat}{ds:List Deferred}{bs:List Nat}(I:Hp C H W)(O:Hp ⟨n,ds,W,blks H (mvl H bs),Fh C H⟩ He W')(gs:List Nat)(M:Nat)(ps:List (Nat×Nat)){Ho:List (Nat×Res)}
  (N:(outs (kpH He gs gs)&&frs M H (kpH He gs gs))=true) (h2:ren (hcat (sft M (kpH He gs gs)) (kill ((mvl H bs).map (·.2)) H)) ps=Ho) (h3:nod (ps.map (·.1))=true) (h4:nod (ps.map (·.2))=true):Hp C Ho W':=by
 rw[Qm]at N
 subst h2
 exact(I.back (O.keep gs).nds N.1 N.2).ren ps h3 h4
abbrev HK (kd kl D L:Nat) (p:Obj→Prop) (nh H:List (Nat×Res)):List (Nat×Res):=(kl,.ob L p)::(kd,.ob D dfT)::hcat nh H
def IK (C:Cx)(kd kl D L:Nat)(J:Nat→List (Nat×Res)→Prop)(H:List (Nat×Res)):Nat→World→Prop:=fun k W=>∃nh,J k nh∧Hp C (HK kd kl D L lpT nh H) W
def XK (P:Program)(Y:Exit→Act→World→Prop)(K:List Kx)(C:Cx)(l:List (Nat×Value))(D L:Nat):Exit→World→Prop:=fun e W=>∀W',Ch [L] W W'→∀a',Fr a' C.n (mkD D::C.ds) l→kont none P Y K e a' W'
def nrf (k:Nat)(H:List (Nat×Res)):Bool:=H.all fun p=>match p.2.ref with
 |none=>true
 |some j=> !(Nat.beq j k)
theorem hk_mem: ∀{H:List (Nat×Res)} {k:Nat} {r:Res},hk H k=some r→(k,r)∈H
 | [],_,_,h=>by cases h
 |(d,u)::q,k,r,h=>by
  rw[Qaa]at h
  split at h
  ·rename_i e;subst e;injection h with h;subst h;exact Qg ..
  ·exact Qe _ (hk_mem h)
theorem nrf_spec {k:Nat}{H:List (Nat×Res)}(h:nrf k H=true){j:Nat}{r:Res}(I:hk H j=some r):r.ref≠some k:=fun e=>by
 have:=Qz.1 h _ (hk_mem I)
 simp[e]at this
theorem Hp.ob {C:Cx}{H:List (Nat×Res)}{w w':World}{k L:Nat}{p q:Obj→Prop}{o:Obj}(h:Hp C ((k,.ob L p)::H) w)(hr:nrf k H=true)(hc:Ch [L] w w')(ho:w'.heap[L]?=some o)(hq:q o):Hp C ((k,.ob L q)::H) w':=by
 have hsame: ∀j b,Bk ((k,.ob L q)::H) j b↔Bk ((k,.ob L p)::H) j b:=fun j b=>by
  by_cases I:j=k
  ·subst I;rw[Bk.cons_eq,Bk.cons_eq];exact Iff.rfl
  ·rw[Bk.cons_ne I,Bk.cons_ne I]
 have hL: ∀b,(∀j,¬Bk ((k,.ob L p)::H) j b)→b∉[L]:=fun b N W=>by
  rw[Qj]at W;subst W
  exact N k (Bk.cons_eq.2 (by simp[Res.bl]))
 have hnb: ∀b,(∀j,¬Bk ((k,.ob L p)::H) j b)→∀j,¬Bk ((k,.ob L q)::H) j b:=fun b N j I=>N j ((hsame j b).1 I)
 have hLk: ∀j b,Bk ((k,.ob L p)::H) j b→j≠k→b∉[L]:=fun j b N I W=>by
  rw[Qj]at W;subst W
  exact I (h.dis j k b N (Bk.cons_eq.2 (by simp[Res.bl])))
 refine⟨?_,fun j r I=>?_,fun j b I=>?_,fun j j' b I hj'=>h.dis j j' b ((hsame j b).1 I) ((hsame j' b).1 hj'),fun j r i I hri=>?_⟩
 ·have O:=h.ch
  refine⟨hc.os.trans O.os,hc.tape.trans O.tape,hc.output.trans O.output,Wh O.size hc.size,fun b N hn=>?_⟩
  rw[hc.block b (Q4 N O.size) (fun W=>?_)]
  ·exact O.block b N hn
  ·rw[Qj]at W;subst W
   rcases(h.bnd k b (Bk.cons_eq.2 (by simp[Res.bl]))).1 with h1|h1
   ·omega
   ·exact hn h1
 ·rw[Qaa]at I
  split at I
  ·injection I with I;subst I;exact⟨o,ho,hq⟩
  ·rename_i hn
   have hj':hk ((k,.ob L p)::H) j=some r:=by rw[Qaa,if_neg hn];exact I
   refine Res.to (h.hold j r hj') hc (fun b N _=>⟨hL b N.1,hnb b N.1,N.2⟩) (fun b N _=>⟨hL b N,hnb b N⟩) (fun i b hi hB=>⟨hLk i b hB fun e=>nrf_spec hr I (by rw[hi,e]),(hsame i b).2 hB⟩) fun b N=>hLk j b ⟨r,hj',N⟩ (Ne.symm hn)
 ·obtain⟨h1,h2⟩:=h.bnd j b ((hsame j b).1 I)
  exact⟨h1,Q4 h2 hc.size⟩
 ·rw[Qaa]at I
  split at I
  ·injection I with I;subst I;cases hri
  ·rename_i hn
   obtain⟨h5,h6⟩:=h.ref j r i (by rw[Qaa,if_neg hn];exact I) hri
   refine⟨h5,fun r2 h7=>?_⟩
   rw[Qaa]at h7
   split at h7
   ·injection h7 with h7;subst h7;rfl
   ·rename_i hn2;exact h6 r2 (by rw[Qaa,if_neg hn2];exact h7)
theorem Hp.obj {C:Cx}{H:List (Nat×Res)}{w w':World}{k L:Nat}{p q:Obj→Prop}{o:Obj}(h:Hp C H w)(I:hk H k=some (.ob L p))(O:Ch [L] w w')(W:w'.heap[L]?=some o)(hq:q o):Hp C ((k,.ob L q)::drp k H) w':=
 h.upd O (fun b N=>by rw[Qj]at N;subst N;exact⟨_,I,by simp[Res.bl]⟩) (fun b N=>.inl ⟨_,I,N⟩) (fun j hj=>by cases hj) fun F B _ _ _ _ _=>⟨o,W,hq⟩
def El (t:Ty)(ag:List Value→List Value)(xs:List t.den)(Φ:Nat→World→Nat→Prop):Nat→World→World→List Value→Prop:=fun k W0 W args=>
 ∃x cs,xs[k]?=some x∧args=ag cs∧t.rep W (fun b=>Φ k W0 b∨W0.heap.size≤b) cs x
def Sq (P:Program)(gf:FuncId)(cap:List Value)(Hc:List (Nat×Res))(t:Ty)(ag:List Value→List Value)(xs:List t.den):Prop:=
 ∀Φ:Nat→World→Nat→Prop,Seqk P gf cap xs.length (El t ag xs Φ) (fun k W=>Hp ⟨0,[],W,[],Φ k W⟩ Hc W)
theorem Qaw: ∀{l:List Nat},nod l=true↔l.Nodup
 | []=>by simp[nod]
 |k::l=>by
  simp only[nod,Qm,Xs,Wm,Qaw (l:=l)]
  refine and_congr ⟨fun h I=>?_,fun h=>?_⟩ Iff.rfl
  ·rw[X1]at h;exact h k I (Jn k)
  ·rw[X1];exact fun x N e=>h (by rw[Wr e];exact N)
theorem Qfs (H:List (Nat×Res))(all:List Nat): ∀ks:List Nat,List.Sublist ((kpH H all ks).map (·.1)) ks
 | []=>List.Sublist.refl _
 |k::ks=>by
  unfold kpH
  cases hk H k with
  |none=>exact(Qfs H all ks).cons k
  |some r=>
   simp only[]
   cases rok all r.ref with
   |false=>exact(Qfs H all ks).cons k
   |true=>exact(Qfs H all ks).cons_cons k
theorem Qdu (H:List (Nat×Res)): ∀ks:List Nat,List.Sublist ((mvl H ks).map (·.2)) ks
 | []=>List.Sublist.refl _
 |k::ks=>by
  unfold mvl
  cases hk H k with
  |none=>exact(Qdu H ks).cons k
  |some r=>
   simp only[]
   cases rok [] r.ref with
   |false=>exact(Qdu H ks).cons k
   |true=>cases r.hasb with
    |false=>exact(Qdu H ks).cons k
    |true=>exact(Qdu H ks).cons_cons k
def MF (P:Program)(D L:Nat)(o:Obj)(Yb:Obj→Exit→Act→World→Prop)(body:Code):Act→World→Prop:=fun a1 W1=>W1.heap[L]?=some o∧Dfr W1 D∧∀W2 o2,Ch [L] W1 W2→W2.heap[L]?=some o2→Dfr W2 D→WP (some L) P body (Yb o2) a1 W2
section
variable {P:Program}{Y:Exit→Act→World→Prop}{K:List Kx}{C:Cx}{l:List (Nat×Value)}{H:List (Nat×Res)}
theorem AX.rgf {g:Operand}{ps:List Nat}{assign body:Code}{gf:FuncId}{cap:List Value}{Hc:List (Nat×Res)}{t:Ty}{ag:List Value→List Value}{xs:List t.den}
  (kd kl kn:Nat) (I gs bs:List Nat) (J:Nat→List (Nat×Res)→Prop) (nh:List (Nat×Res)) (hcf: ∀args w,(callFunc gf args).run P w=.ok (.enter gf args) w) (hseq:Sq P gf cap Hc t ag xs) (hag: ∀cs,(ag cs).length=ps.length) (hJ0:J 0 nh)
  (hsub: ∀k nh D L,J k nh→(∃ls,Sub (HK kd kl D L lpT nh (kpH H I I)) Hc [] ls)∧nrf kl ((kd,.ob D dfT)::hcat nh (kpH H I I))=true∧∀o,nok (kpH (HK kd kl D L (fun x=>x=o) nh (kpH H I I)) [] bs) kn (lv t)=true)
  (hround: ∀k nh x D L W o,J k nh→xs[k]?=some x→t.ok x→Hp C (HK kd kl D L (fun x=>x=o) nh (kpH H I I)) W→tele (lv t) fun pl=>
   AX (some L) P (fun _ _ _=>False) [.m (MF P D L o (fun o2=>RQ D L o2 (IK C kd kl D L J (kpH H I I)) (XK P Y K C l D L) k) body)] assign
    ⟨C.n,[],W,blks (HK kd kl D L (fun x=>x=o) nh (kpH H I I)) (mvl (HK kd kl D L (fun x=>x=o) nh (kpH H I I)) bs),Fh C (HK kd kl D L (fun x=>x=o) nh (kpH H I I))⟩ (bindl ps (ag (cl t x pl)) l)
    (hcat (kx kn (rs t x pl)) (kpH (HK kd kl D L (fun x=>x=o) nh (kpH H I I)) [] bs)))
  (hdone: ∀nh D L,J xs.length nh→AE none P Y K .normal ⟨C.n,mkD D::C.ds,C.w0,C.S,C.F⟩ l (HK kd kl D L lpT nh (kpH H I I)))
  (hg:ev l g=some (.func (.func gf) #[] cap.toArray):=by rfl) (hps:ps.all (fun p=>Nat.ble (p+1) C.n)=true:=by rfl) (h0:kpH H gs gs=hcat nh (kpH H I I):=by kernel_rfl)
  (hn1:hk (hcat nh (kpH H I I)) kd=none:=by kernel_rfl) (hn2:hk (hcat nh (kpH H I I)) kl=none:=by kernel_rfl) (hne:Nat.beq kd kl=false:=by rfl) (hbs:nod bs=true:=by rfl) (hHc:nod (Hc.map (·.1))=true:=by rfl):
  AX none P Y K (.rangeFunc g ps.toArray assign body) C l H:=fun a w hf hh=>by
 have hne:kd≠kl:=fun e=>by rw[e,Jn]at hne;cases hne
 obtain⟨Φ,hΦ⟩: ∃Φ:Nat→World→Nat→Prop,Φ=fun k W b=>∃h:IK C kd kl w.heap.size (w.heap.size+1) J (kpH H I I) k W,Fh C (HK kd kl w.heap.size (w.heap.size+1) lpT (Classical.choose h) (kpH H I I)) b:=⟨_,rfl⟩
 have hΦe: ∀k W (h:IK C kd kl w.heap.size (w.heap.size+1) J (kpH H I I) k W),Φ k W=Fh C (HK kd kl w.heap.size (w.heap.size+1) lpT (Classical.choose h) (kpH H I I)):=fun k W h=>by
  subst hΦ;funext b;exact propext ⟨fun⟨_,h2⟩=>h2,fun h2=>⟨h,h2⟩⟩
 have hlast: ∀{k:Nat} {nh:List (Nat×Res)} {D:Nat},J k nh→nrf kl ((kd,.ob D dfT)::hcat nh (kpH H I I))=true:=fun h=>(hsub _ _ _ 0 h).2.1
 refine rangeK hf hg hcf xs.length _ _ (IK C kd kl w.heap.size (w.heap.size+1) J (kpH H I I)) (XK P Y K C l w.heap.size (w.heap.size+1)) (hseq Φ) (fun k W0 W args ⟨x,cs,_,h2,_⟩=>by rw[h2];exact hag cs) (fun p hp=>Q0 (Qz.1 hps p hp)) ?_ ?_ ?_ ?_ ?_ ?_ ?_ ?_
 ·rintro W1 ⟨W',hc1,hz1,hd,hc2,hz2⟩ ⟨o,ho⟩
  refine⟨nh,hJ0,?_⟩
  have h1:Hp C (hcat nh (kpH H I I)) w:=hh.cov gs h0
  have h2:Hp C ((kd,.ob w.heap.size dfT)::hcat nh (kpH H I I)) W':=h1.new hn1 hc1 (fun b N=>by simp only[Res.bl,Qj]at N;omega) (fun j O=>by cases O) fun F B _ _ _=>⟨_,hd,rfl⟩
  refine h2.new (by rw[Qaa,if_neg hne];exact hn2) hc2 (fun b N=>by simp only[Res.bl,Qj]at N;omega) (fun j O=>by cases O) fun F B _ _ _=>⟨o,ho,trivial⟩
 ·rintro k W W' ⟨nh,hJ,hW⟩ hc
  obtain⟨o,ho,_⟩: ∃o,W.heap[w.heap.size+1]?=some o∧lpT o:=hW.hold kl (.ob (w.heap.size+1) lpT) (by rw[Qaa,if_pos rfl])
  have hlt:=Q4 (Qo.1 ho).1 hc.size
  exact⟨nh,hJ,hW.ob (hlast hJ) hc (Wg hlt) trivial⟩
 ·exact fun e W W' h hc W2 hc2=>h W2 (Ch.then (U:=[w.heap.size+1]) hc hc2 (by simp) (by simp))
 ·intro k W h
  rw[hΦe k W h]
  obtain⟨hJ,hW⟩:=Classical.choose_spec h
  obtain⟨ls,hS⟩:=(hsub _ _ w.heap.size (w.heap.size+1) hJ).1
  exact hS.hp hW hHc rfl (by simp)
 ·intro k W0 W args a1 o hk1 hI hc hlt ⟨x,cs,hx,hargs,hrep⟩ hlen ho hdf hfr
  rw[hΦe k W0 hI]at hrep
  obtain⟨hJ,hW⟩:=Classical.choose_spec hI
  obtain⟨nh,hnh⟩: ∃nh,nh=Classical.choose hI:=⟨_,rfl⟩
  rw[←hnh]at hrep hJ hW
  have hW1:Hp C (HK kd kl w.heap.size (w.heap.size+1) (fun x=>x=o) nh (kpH H I I)) W:=hW.ob (hlast hJ) (hc.mono (by simp)) ho rfl
  have N:=(Qea (HK kd kl w.heap.size (w.heap.size+1) (fun x=>x=o) nh (kpH H I I)) bs).hp hW1 (Qaw.2 ((Qfs _ _ bs).nodup (Qaw.1 hbs))) (Qaw.2 ((Qdu _ bs).nodup (Qaw.1 hbs))) (by simp)
  have hrep2:t.rep W (Fh ⟨C.n,[],W,blks (HK kd kl w.heap.size (w.heap.size+1) (fun x=>x=o) nh (kpH H I I)) (mvl (HK kd kl w.heap.size (w.heap.size+1) (fun x=>x=o) nh (kpH H I I)) bs),Fh C (HK kd kl w.heap.size (w.heap.size+1) (fun x=>x=o) nh (kpH H I I))⟩ (kpH (HK kd kl w.heap.size (w.heap.size+1) (fun x=>x=o) nh (kpH H I I)) [] bs)) cs x:=by
   have hnb: ∀b,(∀j,¬Bk (HK kd kl w.heap.size (w.heap.size+1) (fun x=>x=o) nh (kpH H I I)) j b)→∀j,¬Bk (kpH (HK kd kl w.heap.size (w.heap.size+1) (fun x=>x=o) nh (kpH H I I)) [] bs) j b:=fun b hB j ⟨r,h1,h2⟩=>hB j ⟨r,(Qcs h1).1,h2⟩
   have hpq: ∀j b,Bk (HK kd kl w.heap.size (w.heap.size+1) (fun x=>x=o) nh (kpH H I I)) j b→Bk (HK kd kl w.heap.size (w.heap.size+1) lpT nh (kpH H I I)) j b:=fun j b O=>by
    by_cases e:j=kl
    ·subst e;rw[Bk.cons_eq]at O ⊢;exact O
    ·rw[Bk.cons_ne e]at O ⊢;exact O
   refine rep_to hrep (S:=[]) (Ch.refl W) fun b N hl=>⟨by simp,?_⟩
   have:Fh C (HK kd kl w.heap.size (w.heap.size+1) (fun x=>x=o) nh (kpH H I I)) b:=by
    rcases N with N|N
    ·exact⟨fun j O=>N.1 j (hpq j b O),N.2⟩
    ·exact⟨fun j O=>by have:=(hW.bnd j b (hpq j b O)).2;omega,.inr (.inl (Wh hW.ch.size N))⟩
   exact⟨hnb b this.1,.inl this⟩
  obtain⟨pl,hpl,hcs,hb2⟩:=Qfn N.nds hrep2 kn ((hsub _ _ w.heap.size (w.heap.size+1) hJ).2.2 o)
  subst hcs
  rw[hargs]at hfr
  refine wpIn_mono (Qam (hround k nh x w.heap.size (w.heap.size+1) W o hJ hx (rep_ok t hrep) hW1) pl hpl a1 W hfr hb2) fun e a2 W2 he=>?_
  cases e with
  |normal=>exact⟨rfl,he⟩
  |_=>exact False.elim he
 ·rintro W a' ⟨nh,hJ,hW⟩ hd hf'
  exact hdone nh _ _ hJ a' W hf' hW.nds
 ·exact fun W a' hX hd hf'=>hX W (Ch.refl' _ _) a' hf'
 ·exact fun id W a' hX hd hf'=>hX W (Ch.refl' _ _) a' hf'
theorem AE.flip {D L:Nat}{o:Obj}{Yb:Obj→Exit→Act→World→Prop}{body:Code}(kd kl:Nat)(h: ∀o2,AX (some L) P (Yb o2) [] body ⟨C.n,[],C.w0,C.S,C.F⟩ l ((kl,.ob L (fun x=>x=o2))::H))(I:C.ds=[]:=by rfl)
  (W:hk H kl=some (.ob L (fun x=>x=o)):=by rfl) (h2:hk H kd=some (.ob D dfT):=by rfl) (hj:hng [kl] [] H=true:=by kernel_rfl):AE (some L) P Y (.m (MF P D L o Yb body)::K) .normal C l H:=fun a w hf N=>by
 obtain⟨o',ho',e⟩: ∃o',w.heap[L]?=some o'∧o'=o:=N.hold kl _ W
 obtain⟨d,hd,e2⟩: ∃d,w.heap[D]?=some d∧d=.deferred (some []):=N.hold kd _ h2
 subst e;subst e2
 rw[I]at hf
 exact⟨ho',hd,fun W2 o2 hc O _=>h o2 a W2 hf (Hp.dd (js:=[]) (N.obj (q:=fun x=>x=o2) W hc O rfl) hj).nds⟩
theorem Qgs {n:Nat}{ds:List Deferred}{W W':World}{kd kl D L M:Nat}{p:Obj→Prop}{o2:Obj}{nh Hk He Ho:List (Nat×Res)}{bs gs:List Nat}{ps:List (Nat×Nat)}(I:Hp C (HK kd kl D L p nh Hk) W)(N:Hp ⟨n,ds,W,blks (HK kd kl D L p nh Hk) (mvl (HK kd kl D L p nh Hk) bs),Fh C (HK kd kl D L p nh Hk)⟩ He W')
  (O:hk He kd=some (.ob D dfT)) (hkl:hk He kl=some (.ob L (fun x=>x=o2))) (h1:(outs (kpH He gs gs)&&frs M (HK kd kl D L p nh Hk) (kpH He gs gs))=true)
  (h2:ren (hcat (sft M (kpH He gs gs)) (kill ((mvl (HK kd kl D L p nh Hk) bs).map (·.2)) (HK kd kl D L p nh Hk))) ps=(kl,.ob L (fun x=>x=o2))::Ho) (h3:nod (ps.map (·.1))=true) (h4:nod (ps.map (·.2))=true) (h5:nrf kl Ho=true):
  W'.heap[L]?=some o2∧Dfr W' D∧∀W2,Ch [L] W' W2→Hp C ((kl,.ob L lpT)::Ho) W2:=by
 obtain⟨o',ho',e⟩: ∃o',W'.heap[L]?=some o'∧o'=o2:=N.hold kl _ hkl
 obtain⟨d,hd,e2⟩: ∃d,W'.heap[D]?=some d∧d=.deferred (some []):=N.hold kd _ O
 subst e;subst e2
 refine⟨ho',hd,fun W2 hc=>?_⟩
 have:=fin_round I N gs M ps h1 h2 h3 h4
 exact this.ob h5 hc (Wg (Q4 (Qo.1 ho').1 hc.size)) trivial
theorem AE.bn {X:Exit→World→Prop}{k n:Nat}{W:World}{kd kl D L:Nat}{p:Obj→Prop}{o2:Obj}{nh Hk He:List (Nat×Res)}{J:Nat→List (Nat×Res)→Prop}{bs:List Nat}{S:List Nat}{F:Nat→Prop}(I:Hp C (HK kd kl D L p nh Hk) W)(gs:List Nat)(M:Nat)(ps:List (Nat×Nat))(nh':List (Nat×Res))(hJ:J (k+1) nh')
  (hS:S=blks (HK kd kl D L p nh Hk) (mvl (HK kd kl D L p nh Hk) bs)) (hF:F=Fh C (HK kd kl D L p nh Hk))
  (N:hk He kd=some (.ob D dfT):=by rfl) (O:hk He kl=some (.ob L (fun x=>x=o2)):=by rfl) (h1:(outs (kpH He gs gs)&&frs M (HK kd kl D L p nh Hk) (kpH He gs gs))=true:=by kernel_rfl)
  (h2:ren (hcat (sft M (kpH He gs gs)) (kill ((mvl (HK kd kl D L p nh Hk) bs).map (·.2)) (HK kd kl D L p nh Hk))) ps=(kl,.ob L (fun x=>x=o2))::(kd,.ob D dfT)::hcat nh' Hk:=by kernel_rfl) (h3:nod (ps.map (·.1))=true:=by rfl) (h4:nod (ps.map (·.2))=true:=by rfl) (h5:nrf kl ((kd,.ob D dfT)::hcat nh' Hk)=true:=by kernel_rfl):
  AE (some L) P (RQ D L o2 (IK C kd kl D L J Hk) X k) [] .normal ⟨n,[],W,S,F⟩ l He:=fun a w hf hh=>by
 subst hS;subst hF
 obtain⟨h6,h7,h8⟩:=Qgs I hh N O h1 h2 h3 h4 h5
 exact⟨h6,h7,nh',hJ,h8 w (Ch.refl' _ _)⟩
theorem AX.bret {Kb:List Kx}{I:Nat→World→Prop}{lo:List (Nat×Value)}{k n:Nat}{W:World}{kd kl D L:Nat}{p:Obj→Prop}{o2:Obj}{nh Hk He:List (Nat×Res)}{bs:List Nat}{S:List Nat}{F:Nat→Prop}(N:Hp C (HK kd kl D L p nh Hk) W)(gs:List Nat)(M:Nat)(ps:List (Nat×Nat))(Ho:List (Nat×Res))
  (hout:AE none P Y K .ret ⟨C.n,mkD D::C.ds,C.w0,C.S,C.F⟩ lo ((kl,.ob L lpT)::Ho)) (hS:S=blks (HK kd kl D L p nh Hk) (mvl (HK kd kl D L p nh Hk) bs)) (hF:F=Fh C (HK kd kl D L p nh Hk))
  (O:hk He kd=some (.ob D dfT):=by rfl) (hkl:hk He kl=some (.ob L (fun x=>x=o2)):=by rfl) (h1:(outs (kpH He gs gs)&&frs M (HK kd kl D L p nh Hk) (kpH He gs gs))=true:=by kernel_rfl)
  (h2:ren (hcat (sft M (kpH He gs gs)) (kill ((mvl (HK kd kl D L p nh Hk) bs).map (·.2)) (HK kd kl D L p nh Hk))) ps=(kl,.ob L (fun x=>x=o2))::Ho:=by kernel_rfl) (h3:nod (ps.map (·.1))=true:=by rfl) (h4:nod (ps.map (·.2))=true:=by rfl) (h5:nrf kl Ho=true:=by kernel_rfl):
  AX (some L) P (RQ D L o2 I (XK P Y K C lo D L) k) Kb .ret ⟨n,[],W,S,F⟩ l He:=fun a w hf hh=>by
 subst hS;subst hF
 obtain⟨h6,h7,h8⟩:=Qgs N hh O hkl h1 h2 h3 h4 h5
 exact wpIn_ret (kont_ret ⟨h6,h7,fun W' hc a' hf'=>hout a' W' hf' (h8 W' hc).nds⟩)
end
def bodyQ (P:Program)(fn:Func)(R:Ending→World→Prop):Exit→Act→World→Prop
 | .normal,a,w=>bodyPostM (FW none) 0 P fn R .normal a w
 | .ret,a,w=>bodyPostM (FW none) 0 P fn R .ret a w
 |_,_,_=>False
def unob:List (Nat×Res)→List (Nat×Res)
 | []=>[]
 |(k,r)::H=>(k,match r with
  | .ob _ _=>.dead
  |r=>match r.ref with
   |none=>r
   |some _=>.dead)::unob H
theorem Qfr: ∀{H:List (Nat×Res)} {k:Nat} {r:Res},hk (unob H) k=some r→r=.dead∨(hk H k=some r∧r.ref=none∧∀g p,r≠ .ob g p)
 | [],_,_,h=>by cases h
 |(d,u)::H,k,r,h=>by
  unfold unob at h
  rw[Qaa]at h ⊢
  split at h
  ·rename_i e
   rw[if_pos e]
   injection h with h
   cases u with
   |ob g p=>exact .inl h.symm
   |el k b o cs=>cases k with
    |none=>subst h;exact .inr ⟨rfl,rfl,fun g p e=>by cases e⟩
    |some j=>exact .inl h.symm
   |mit k g b n s la=>exact .inl h.symm
   |_=>subst h;exact .inr ⟨rfl,rfl,fun g p e=>by cases e⟩
  ·rename_i e;rw[if_neg e];exact Qfr h
def okD (H:List (Nat×Res)):List Nat→List Nat→Prop
 | [],[]=>True
 |D::Ds,k::ks=>hk H k=some (.ob D dfT)∧okD H Ds ks
 |_,_=>False
theorem Qft {H:List (Nat×Res)}: ∀{Ds ks:List Nat},okD H Ds ks→∀D,D∈Ds→∃k,k∈ks∧hk H k=some (.ob D dfT)
 | [],_,_,D,h=>by cases h
 |D::Ds,[],h,_,_=>by cases h
 |D::Ds,k::ks,h,E,I=>by
  rcases Qk.1 I with rfl|I
  ·exact⟨k,Qg ..,h.1⟩
  ·obtain⟨j,N,O⟩:=Qft h.2 E I;exact⟨j,Qe _ N,O⟩
theorem Qgr {C:Cx}{H:List (Nat×Res)}{w:World}(N:Hp C H w): ∀{Ds ks:List Nat},okD H Ds ks→ks.Nodup→Ds.Nodup
 | [],_,_,_=>X6
 |D::Ds,[],h,_=>by cases h
 |D::Ds,k::ks,h,I=>by
  rw[Wm]at I ⊢
  refine⟨fun O=>?_,Qgr N h.2 I.2⟩
  obtain⟨j,W,h2⟩:=Qft h.2 D O
  have:=N.dis k j D ⟨_,h.1,by simp[Res.bl]⟩ ⟨_,h2,by simp[Res.bl]⟩
  exact I.1 (this▸W)
theorem Hp.unob {C:Cx}{H:List (Nat×Res)}{w w':World}{Ds:List Nat}(h:Hp C H w)(hD: ∀D,D∈Ds→∃k,hk H k=some (.ob D dfT))(hc:Ch Ds w w'):Hp C (A.unob H) w':=by
 have I: ∀j b,Bk (A.unob H) j b→Bk H j b∧b∉Ds:=fun j b ⟨r,h1,h2⟩=>by
  rcases Qfr h1 with rfl|⟨h3,_,h4⟩
  ·cases h2
  ·refine⟨⟨r,h3,h2⟩,fun hm=>?_⟩
   obtain⟨k,h5⟩:=hD b hm
   have:=h.dis j k b ⟨r,h3,h2⟩ ⟨_,h5,by simp[Res.bl]⟩
   subst this
   rw[h3]at h5;injection h5 with h5;exact h4 _ _ h5
 have hfree: ∀b,(∀k,¬Bk H k b)→b∉Ds∧∀k,¬Bk (A.unob H) k b:=fun b N=>⟨fun hm=>by obtain⟨k,h5⟩:=hD b hm;exact N k ⟨_,h5,by simp[Res.bl]⟩,fun j W=>N j (I j b W).1⟩
 refine⟨?_,fun j r W=>?_,fun j b W=>?_,fun j j' b W hj'=>h.dis j j' b (I j b W).1 (I j' b hj').1,fun j r i W hri=>?_⟩
 ·have O:=h.ch
  refine⟨hc.os.trans O.os,hc.tape.trans O.tape,hc.output.trans O.output,Wh O.size hc.size,fun b N hn=>?_⟩
  rw[hc.block b (Q4 N O.size) (fun hm=>?_)]
  ·exact O.block b N hn
  ·obtain⟨k,h5⟩:=hD b hm
   rcases(h.bnd k b ⟨_,h5,by simp[Res.bl]⟩).1 with h1|h1
   ·omega
   ·exact hn h1
 ·rcases Qfr W with rfl|⟨h3,h4,h5⟩
  ·trivial
  ·exact Res.to (h.hold j r h3) hc (fun b N _=>⟨(hfree b N.1).1,(hfree b N.1).2,N.2⟩) (fun b N _=>hfree b N) (fun i b hi _=>by rw[h4]at hi;cases hi) fun b N=>(I j b ⟨r,W,N⟩).2
 ·exact⟨(h.bnd j b (I j b W).1).1,Q4 (h.bnd j b (I j b W).1).2 hc.size⟩
 ·rcases Qfr W with rfl|⟨_,h4,_⟩
  ·cases hri
  ·rw[h4]at hri;cases hri
section
variable {r:Option Nat}{P:Program}{K:List Kx}{l:List (Nat×Value)}{H:List (Nat×Res)}
theorem Ct.enterM {f:FuncId}{fn:Func}{c:Code}{vs:List Value}{n:Nat}{S:List Nat}{R:Value→List (Nat×Res)→Prop}(I:P.funcs[f]?=some fn)(N:fn.body=some c)(O:fn.ntmps=n)(W:Nat.ble vs.length n=true)
  (h: ∀w F,AX none P (bodyQ P fn fun e w'=>∃v H',e=.returned v∧R v H'∧Hp ⟨0,[],w,S,F⟩ H' w') [] c ⟨n,[],w,S,F⟩ (argl vs 0) H):Ct P f vs H S R:=fun w F hh=>
 Z.enterM I N O (Q0 W) fun a hf'=>wpIn_mono (h w F a w hf' hh.nds) fun e a w h=>(by cases e<;>first|exact h|exact False.elim h)
theorem AE.rtM {fn:Func}{w0:World}{S:List Nat}{F:Nat→Prop}{n:Nat}{R:Value→List (Nat×Res)→Prop}{Ds:List Nat}{ds:List Deferred}(kds:List Nat)(ps:List (Nat×Nat))(v:Value)(N:okD H Ds kds)(hres: ∀a w,Fr a n ds l→Hp ⟨n,ds,w0,S,F⟩ (A.unob H) w→(results fn a.tmps).run P w=.ok v w)(hR:R v (A.ren (A.unob H) ps))(O:marks Ds=ds:=by rfl)(hk:nod kds=true:=by rfl)(h1:nod (ps.map (·.1))=true:=by rfl)(h2:nod (ps.map (·.2))=true:=by rfl):
  AE r P (bodyQ P fn fun e w'=>∃v H',e=.returned v∧R v H'∧Hp ⟨0,[],w0,S,F⟩ H' w') K .ret ⟨n,ds,w0,S,F⟩ l H:=fun a w hf W=>by
 subst O
 refine kont_ret (retM hf (fun D hm=>?_) (Qgr W N (Qaw.1 hk)) fun w' hc _=>?_)
 ·obtain⟨k,_,I⟩:=Qft N D hm
  obtain⟨d,hd,e2⟩: ∃d,w.heap[D]?=some d∧d=.deferred (some []):=W.hold k _ I
  subst e2;exact hd
 ·have I:=W.unob (fun D hm=>by obtain⟨k,_,I⟩:=Qft N D hm;exact⟨k,I⟩) hc
  exact⟨v,hres a w' hf I,v,_,rfl,hR,(I.ren ps h1 h2).nds⟩
theorem AX.rtM {fn:Func}{w0:World}{S:List Nat}{F:Nat→Prop}{n:Nat}{R:Value→List (Nat×Res)→Prop}{Ds:List Nat}{ds:List Deferred}(kds:List Nat)(ps:List (Nat×Nat))(v:Value)(N:okD H Ds kds)(hres: ∀a w,Fr a n ds l→Hp ⟨n,ds,w0,S,F⟩ (A.unob H) w→(results fn a.tmps).run P w=.ok v w)(O:R v (A.ren (A.unob H) ps))(I:marks Ds=ds:=by rfl)(hk:nod kds=true:=by rfl)(W:nod (ps.map (·.1))=true:=by rfl)(h2:nod (ps.map (·.2))=true:=by rfl):
  AX r P (bodyQ P fn fun e w'=>∃v H',e=.returned v∧R v H'∧Hp ⟨0,[],w0,S,F⟩ H' w') K .ret ⟨n,ds,w0,S,F⟩ l H:=fun a w hf hh=>wpIn_ret (AE.rtM kds ps v N hres O I hk W h2 a w hf hh)
end
structure Yl (P:Program) (lid:Nat) (J:Nat→World→Prop) (Jx:World→Prop) (Φ:Nat→World→Nat→Prop) (Hc:List (Nat×Res)) (t:Ty) (ag:List Value→List Value) (xs:List t.den):Prop where
 js: ∀k W W',J k W→Ch [] W W'→J k W'
 jx: ∀W W',Jx W→Ch [] W W'→Jx W'
 dat: ∀k W,J k W→Hp ⟨0,[],W,[],Φ k W⟩ Hc W
 y: ∀k W0 W args,k<xs.length→J k W0→Ch [] W0 W→El t ag xs Φ k W0 W args→YieldAt (FW none) 0 P lid args.toArray W fun e W'=>(e=.returned (.bool true)∧J (k+1) W')∨(e=.returned (.bool false)∧Jx W')
def Rem {α:Type}(xs:List α)(k:Nat)(rs:List α):Prop:=xs.drop k=rs∧k≤xs.length
theorem Rem.zero {α:Type}(xs:List α):Rem xs 0 xs:=⟨rfl,Xq _⟩
theorem Rem.nil {α:Type}{xs:List α}{k:Nat}(h:Rem xs k []):k=xs.length:=by
 have:=List.drop_eq_nil_iff.1 h.1;have:=h.2;omega
theorem Rem.at {α:Type}{xs rs:List α}{k:Nat}{x:α}(h:Rem xs k (x::rs)):xs[k]?=some x:=by
 have I:=h.1
 have:(xs.drop k)[0]?=some x:=by rw[I];rfl
 rw[Wc]at this;simpa using this
theorem Rem.next {α:Type}{xs rs:List α}{k:Nat}{x:α}(h:Rem xs k (x::rs)):Rem xs (k+1) rs:=by
 refine⟨?_,?_⟩
 ·rw[←X5,h.1];rfl
 ·exact(Qc.1 h.at).1
def cns {α:Type}(x:α)(r:Option (List α)):Option (List α):=r.map (x:: ·)
theorem cns_some {α:Type}{x:α}{r:Option (List α)}{rs:List α}(h:cns x r=some rs): ∃rs',rs=x::rs'∧r=some rs':=by
 cases r with
 |none=>cases h
 |some l=>exact⟨l,(Qp h).symm,rfl⟩
abbrev CY (n:Nat) (Φ:Nat→World→Nat→Prop) (i:Nat×World):Cx:=⟨n,[],i.2,[],Φ i.1 i.2⟩
section
variable {P:Program}{lid:Nat}{J:Nat→World→Prop}{Jx:World→Prop}{Φ:Nat→World→Nat→Prop}{Hc:List (Nat×Res)}{t:Ty}{ag:List Value→List Value}{xs:List t.den}{n:Nat}
theorem Sq.enter {gf:FuncId}{fn:Func}{c:Code}{cap:List Value}(O:P.funcs[gf]?=some fn)(W:fn.body=some c)(hn:fn.ntmps=n)(hm:Nat.ble (cap.length+1) n=true)
  (h: ∀lid w J Jx Φ,Yl P lid J Jx Φ Hc t ag xs→J 0 w→AX none P (bodyPost P fn fun e W'=>e=.returned (.tuple #[])∧(J xs.length W'∨Jx W')) [] c (CY n Φ (0,w)) (argl (.func (.yield lid) #[] #[]::cap) 0) Hc):Sq P gf cap Hc t ag xs:=fun Φ lid w J Jx h1 h2 I N h5=>
 Z.enter O W hn (Q0 hm) fun a hf'=>h lid w J Jx Φ ⟨h1,h2,I,h5⟩ N a w hf' (I 0 w N).nds
theorem AL.yield {ops:Array Oper}{Q:Exit→Act→World→Prop}{rest:List Oper}{l:List (Nat×Value)}{H:List (Nat×Res)}{d:Nat}{T:TypeId}{pos:String}{af:Array Edge}{c:Operand}{ass:List Operand}{ts:Array TypeId}{vs:List Value}{k:Nat}{w0:World}{x:t.den}{rs:List t.den}
  (W:Yl P lid J Jx Φ Hc t ag xs) (hJ:J k w0) (N:Rem xs k (x::rs)) (cs:List Value) (hD:Dat H t cs x)
  (ht: ∀w',J (k+1) w'→Rem xs (k+1) rs→AL none P ops Q rest (CY n Φ (k+1,w')) ((d,.bool true)::l) Hc)
  (he: ∀w',Jx w'→AL none P ops Q rest ⟨n,[],w',[],no⟩ ((d,.bool false)::l) [])
  (hc:ev l c=some (.func (.yield lid) #[] #[]):=by rfl) (hx:evs l ass=some vs:=by rfl) (hv:ag cs=vs:=by rfl) (hd:Nat.ble (d+1) n=true:=by rfl):
  AL none P ops Q (⟨some d,.call {callee:=.value c,args:=ass.toArray,argTypes:=ts},T,pos,af,none⟩::rest) (CY n Φ (k,w0)) l H:=fun a w hf hh=>by
 subst hv
 have O:k<xs.length:=(Qc.1 N.at).1
 refine callY hf hd hc hx (W.y k w0 w _ O hJ hh.ch ⟨x,cs,N.at,rfl,Qcr (Dat.rep hh t hD) fun b hb hl=>?_⟩) ?_
 ·rcases hb.2 with I|I|I
  ·exact .inl I
  ·exact .inr I
  ·cases I
 ·rintro e w' (⟨rfl,I⟩|⟨rfl,I⟩)
  ·exact⟨_,rfl,fun a' hf'=>ht w' I N.next a' w' hf' (W.dat _ _ I).nds⟩
  ·exact⟨_,rfl,fun a' hf'=>he w' I a' w' hf' ⟨Ch.refl' _ _,fun k r h=>(by cases h),fun k b ⟨_,h,_⟩=>(by cases h),fun k k' b ⟨_,h,_⟩=>(by cases h),fun k r j h=>(by cases h)⟩⟩
theorem AE.rtY {fn:Func}{l:List (Nat×Value)}{H:List (Nat×Res)}{k:Nat}{w0:World}(I:Yl P lid J Jx Φ Hc t ag xs)(N:J k w0)(O:Rem xs k [])(h:fn.results=#[]:=by rfl):AE none P (bodyPost P fn fun e W'=>e=.returned (.tuple #[])∧(J xs.length W'∨Jx W')) [] .normal (CY n Φ (k,w0)) l H:=fun a w W hh=>
 Z.endv W (Z.res0 h w) ⟨rfl,.inl (O.nil▸I.js _ _ _ N hh.ch)⟩
theorem AX.rtX {fn:Func}{K:List Kx}{l:List (Nat×Value)}{H:List (Nat×Res)}{w0:World}{F:Nat→Prop}(I:Yl P lid J Jx Φ Hc t ag xs)(N:Jx w0)(h:fn.results=#[]:=by rfl):AX none P (bodyPost P fn fun e W'=>e=.returned (.tuple #[])∧(J xs.length W'∨Jx W')) K .ret ⟨n,[],w0,[],F⟩ l H:=AX.ret0 fun a w O W=>
 Z.retv O (Z.res0 h w) ⟨rfl,.inr (I.jx _ _ N W.ch)⟩
end
section
variable {r:Option Nat}{P:Program}{Y:Exit→Act→World→Prop}{K:List Kx}{C:Cx}{l:List (Nat×Value)}{H:List (Nat×Res)}{ι:Type}{Cf:ι→Cx}
abbrev StC (Cf:ι→Cx) (l:List (Nat×Value)) (H:List (Nat×Res)) (ks hs:List Nat) (J:ι→List (Nat×Value)→List (Nat×Res)→Prop):Act→World→Prop:=fun a w=>∃i nl nh,J i nl nh∧Fr a (Cf i).n (Cf i).ds (cat nl (kp l ks))∧Hp (Cf i) (hcat nh (kpH H hs hs)) w
theorem AX.joinC (Cf:ι→Cx)(ks I:List Nat)(J:ι→List (Nat×Value)→List (Nat×Res)→Prop){x y:Code}(h:AX r P Y (.m (StC Cf l H ks I J)::K) x C l H)(N: ∀i nl nh,J i nl nh→AX r P Y K y (Cf i) (cat nl (kp l ks)) (hcat nh (kpH H I I))):AX r P Y K (.seq x y) C l H:=fun a w O W=>by
 refine wpIn_seq (wpIn_mono (h a w O W) fun e a w hq=>?_)
 cases e with
 |normal=>obtain⟨i,nl,nh,hJ,hf',hh'⟩:=hq;exact N i nl nh hJ a w hf' hh'
 |_=>exact hq
theorem AE.jC {l':List (Nat×Value)}{H':List (Nat×Res)}{ks I:List Nat}{J:ι→List (Nat×Value)→List (Nat×Res)→Prop}(i:ι)(gs:List Nat)(nl:List (Nat×Value))(nh:List (Nat×Res))(N:J i nl nh)(O:kp l ((cat nl (kp l' ks)).map (·.1))=cat nl (kp l' ks):=by kernel_rfl)(W:kpH H gs gs=hcat nh (kpH H' I I):=by kernel_rfl):
  AE r P Y (.m (StC Cf l' H' ks I J)::K) .normal (Cf i) l H:=fun a w hf hh=>⟨i,nl,nh,N,Fr.cov hf O,hh.cov gs W⟩
theorem AX.loopC (Cf:ι→Cx)(i0:ι)(ks I gs:List Nat)(J:Nat→ι→List (Nat×Value)→List (Nat×Res)→Prop)(m:Nat)(nl:List (Nat×Value))(nh:List (Nat×Res)){x:Code}(N:J m i0 nl nh)
  (h: ∀f i nl nh,J f i nl nh→AX r P Y (.m (StC Cf l H ks I fun i nl nh=>∃f',f'<f∧J f' i nl nh)::K) x (Cf i) (cat nl (kp l ks)) (hcat nh (kpH H I I)))
  (h1:kp l ((cat nl (kp l ks)).map (·.1))=cat nl (kp l ks):=by kernel_rfl) (h2:kpH H gs gs=hcat nh (kpH H I I):=by kernel_rfl):AX r P Y K (.loop x) (Cf i0) l H:=fun a w O W=>by
 refine Z.loop (fun f a w=>StC Cf l H ks I (J f) a w) m ⟨i0,nl,nh,N,Fr.cov O h1,W.cov gs h2⟩ fun f a w ⟨i,nl,nh,N,O,W⟩=>?_
 refine wpIn_mono (h f i nl nh N a w O W) fun e a w hq=>?_
 cases e with
 |normal=>obtain⟨i,nl,nh,⟨f',hlt,hJ'⟩,hf',hh'⟩:=hq;exact⟨f',hlt,i,nl,nh,hJ',hf',hh'⟩
 |_=>exact hq
end
theorem drop_at {α:Type}{xs:List α}{k:Nat}{x:α}(h:xs[k]?=some x):xs.drop k=x::xs.drop (k+1):=by
 obtain⟨I,rfl⟩:=Qc.1 h
 exact Xy I
section
variable {P:Program}{kt et tt:TypeId}{κ:Type}[DecidableEq κ]{enc:κ→Value}{w:World}{b:Nat}
theorem Qie {arr:List MapEntry}{clock:Nat}{ks:List κ}{z:Value}(K:Ky P kt enc)(ht:P.underlying tt=some (.map kt et))(hz: ∀w,(zeroValue et).run P w=.ok z w)(hb:w.heap[b]?=some (.map arr.toArray clock))(hk:arr.map (·.key)=ks.map enc)(N: ∀e,e∈arr→e.born<clock)(hnd:(arr.map (·.born)).Nodup)(k:κ):
  ∃(arr1:List MapEntry) (clock1 i:Nat) (e1:MapEntry),(Instr.mapEntry tt (.map (some b)) (enc k)).run P w=.ok (.tuple #[e1.val,goInt e1.born]) (w.putObj b (.map arr1.toArray clock1))∧arr1[i]?=some e1∧e1.key=enc k∧(∀e,e∈arr1→e.born<clock1)∧(arr1.map (·.born)).Nodup∧
   ((loc k ks=some i∧arr1=arr)∨(loc k ks=none∧i=arr.length∧arr1=arr++[e1]∧e1.val=z)):=by
 have hfind:=Qbt K k w arr ks hk
 have hget:(getObj b).run P w=.ok (.map arr.toArray clock) w:=by simp[getObj,Sem.run,hb]
 cases hloc:loc k ks with
 |none=>
  rw[hloc]at hfind
  refine⟨arr++[{key:=enc k,val:=z,born:=clock}],clock+1,arr.length,{key:=enc k,val:=z,born:=clock},?_,by simp,rfl,?_,?_,.inr ⟨rfl,rfl,rfl,rfl⟩⟩
  ·simp only[Instr.mapEntry,Sem.run_bind,run_underlying ht,Result.andThen_ok,hget,K.check,hfind,Option.bind_none,hz,MapC.set hb,Sem.run_pure,List.push_toArray]
  ·intro e I
   rcases Qn.1 I with I|I
   ·have:=N e I;omega
   ·simp at I;subst I;simp
  ·rw[Yg,Wz]
   refine⟨hnd,by simp,fun x hx y hy=>?_⟩
   simp at hy;subst hy
   obtain⟨e,I,rfl⟩:=Qv.1 hx
   have:=N e I;omega
 |some i=>
  rw[hloc]at hfind
  have hi:i<ks.length:=by
   have: ∀(ks:List κ) (i:Nat),loc k ks=some i→i<ks.length∧ks[i]?=some k:=by
    intro ks
    induction ks with
    |nil=>intro i h;cases h
    |cons a r ih=>
     intro i h
     unfold loc at h
     split at h
     ·rename_i e;injection h with h;subst h;subst e;exact⟨by simp,rfl⟩
     ·cases O:loc k r with
      |none=>rw[O]at h;cases h
      |some j=>rw[O]at h;injection h with h;subst h;have:=ih j O;exact⟨by simp;omega,by simpa using this.2⟩
   exact(this ks i hloc).1
  have hks:ks[i]?=some k:=by
   have: ∀(ks:List κ) (i:Nat),loc k ks=some i→ks[i]?=some k:=by
    intro ks
    induction ks with
    |nil=>intro i h;cases h
    |cons a r ih=>
     intro i h
     unfold loc at h
     split at h
     ·rename_i e;injection h with h;subst h;subst e;rfl
     ·cases O:loc k r with
      |none=>rw[O]at h;cases h
      |some j=>rw[O]at h;injection h with h;subst h;simpa using ih j O
   exact this ks i hloc
  have hlen:arr.length=ks.length:=by have:=congrArg List.length hk;simpa using this
  obtain⟨e,I⟩: ∃e,arr[i]?=some e:=⟨_,Qd (by omega)⟩
  have W:e.key=enc k:=by
   have h6:(arr.map (·.key))[i]?=some e.key:=by rw[Qt,I];rfl
   rw[hk,Qt,hks]at h6
   simpa using h6.symm
  have hstay:(Instr.keyThatStays (enc k) (enc k)).run P w=.ok (enc k) w:=by simp[Instr.keyThatStays,K.bits]
  have hsame:(arr.toArray.modify i fun e=>{e with key:=enc k})=arr.toArray:=by
   have:(arr.toArray.modify i fun e=>{e with key:=enc k})=(arr.modify i fun e=>{e with key:=enc k}).toArray:=by simp
   rw[this]
   refine congrArg List.toArray (Wu fun j=>?_)
   rw[Wx]
   by_cases hij:i=j
   ·subst hij;rw[I];simp[←W]
   ·simp[hij]
  refine⟨arr,clock,i,e,?_,I,W,N,hnd,.inl ⟨rfl,rfl⟩⟩
  simp only[Instr.mapEntry,Sem.run_bind,run_underlying ht,Result.andThen_ok,hget,K.check,hfind,Qa,I,Wj,Ws,Jd,W,hstay,hsame,MapC.set hb,Sem.run_pure]
theorem run_entryStore {arr:List MapEntry}{clock i:Nat}{e1:MapEntry}(W:w.heap[b]?=some (.map arr.toArray clock))(hi:arr[i]?=some e1)(I:(arr.map (·.born)).Nodup)(v:Value):
  (Instr.entryStore tt (.map (some b)) (goInt e1.born) v).run P w=.ok () (w.putObj b (.map (arr.modify i fun e=>{e with val:=v}).toArray clock)):=by
 have hget:(getObj b).run P w=.ok (.map arr.toArray clock) w:=by simp[getObj,Sem.run,W]
 have hidx:arr.toArray.findIdx? (fun e=>(e.born:Int)==(e1.born:Int))=some i:=by
  rw[Array.findIdx?_eq_some_iff_getElem]
  obtain⟨hl,hg⟩:=Qc.1 hi
  refine⟨by simpa using hl,by simp[hg],fun j hj=>?_⟩
  have N:j<arr.length:=by omega
  have hne:arr[j].born≠e1.born:=fun h=>by
   have:=(List.getElem_inj I (i:=j) (j:=i) (h₀:=by simpa using N) (h₁:=by simpa using hl)).1 (by simp[hg,h])
   omega
  simp only[List.getElem_toArray,beq_iff_eq]
  omega
 have O:(asIntOf (Value.int IntKind.i64 (e1.born:Int))).run P w=.ok (.i64,(e1.born:Int)) w:=by simp[asIntOf]
 simp only[Instr.entryStore,Sem.run_bind,hget,Result.andThen_ok,goInt,asInt,O,hidx,MapC.set W,Sem.run_pure,List.modify_toArray]
end
section
variable {P:Program}{kt et tt st ty:TypeId}{κ:Type}[DecidableEq κ]{enc:κ→Value}{w:World}{b:Nat}{t:Ty}{e:TypeId}{F G:Nat→Prop}{As:List (Option Addr×Nat)}{m:List (κ×List t.den)}
theorem Mr.asF {F':Nat→Prop}(h:Mr enc t e w F b As m)(I: ∀x,F x→x<w.heap.size→F' x):Mr enc t e w F' b As m:=h.to (S:=[]) (Ch.refl w) (by simp) fun x N O=>⟨by simp,I x N O⟩
theorem Qfi {i:Nat}{a a':Option Addr×Nat}(h:As[i]?=some a): ∀x,x∈rbl (As.set i a')→x∈rbl As∨x∈obl a'.1:=fun x O=>by
 obtain⟨y,N,I⟩:=Xi.1 O
 rcases List.mem_or_eq_of_mem_set N with N|rfl
 ·exact .inl (Xi.2 ⟨y,N,I⟩)
 ·exact .inr I
theorem rbl_other {i j:Nat}{a c:Option Addr×Nat}(hn:(rbl As).Nodup)(N:As[i]?=some a)(O:As[j]?=some c)(W:i≠j): ∀x,x∈obl a.1→x∉obl c.1:=by
 induction As generalizing i j with
 |nil=>simp at N
 |cons y r ih=>
  have hn':(obl y.1++rbl r).Nodup:=hn
  rw[Wz]at hn'
  cases i with
  |zero=>
   cases j with
   |zero=>exact absurd rfl W
   |succ j=>
    simp only[Xd,Qr]at N;subst N
    simp only[Wq]at O
    exact fun x hx I=>hn'.2.2 x hx x (Qba O I) rfl
  |succ i=>
   simp only[Wq]at N
   cases j with
   |zero=>
    simp only[Xd,Qr]at O;subst O
    exact fun x hx I=>hn'.2.2 x I x (Qba N hx) rfl
   |succ j=>
    simp only[Wq]at O
    exact ih hn'.2.1 N O (by omega)
theorem Qfj {i:Nat}{a a':Option Addr×Nat}(hn:(rbl As).Nodup)(h:As[i]?=some a)(ha:(obl a'.1).Nodup)(hx: ∀x,x∈obl a'.1→x∈obl a.1∨x∉rbl As):(rbl (As.set i a')).Nodup:=by
 induction As generalizing i with
 |nil=>simp at h
 |cons y r ih=>
  have hn':(obl y.1++rbl r).Nodup:=hn
  rw[Wz]at hn'
  cases i with
  |zero=>
   simp only[Xd,Qr]at h;subst h
   show(obl a'.1++rbl r).Nodup
   rw[Wz]
   refine⟨ha,hn'.2.1,fun x N z W e=>?_⟩
   subst e
   rcases hx x N with I|I
   ·exact hn'.2.2 x I x W rfl
   ·exact I (Q8 _ W)
  |succ i=>
   simp only[Wq]at h
   show(obl y.1++rbl (r.set i a')).Nodup
   rw[Wz]
   refine⟨hn'.1,ih hn'.2.1 h fun x N=>?_,fun x N z W e=>?_⟩
   ·rcases hx x N with I|I
    ·exact .inl I
    ·exact .inr fun O=>I (Q8 _ O)
   ·subst e
    rcases Qfi h x W with I|I
    ·exact hn'.2.2 x N x I rfl
    ·rcases hx x I with O|O
     ·exact hn'.2.2 x N x (Qba h O) rfl
     ·exact O (Q6 _ N)
theorem Mr.keys {arr:List MapEntry}{es:List (Value×Value)}(N:arr.map (fun e=>(e.key,e.val))=es)(W:es.length=m.length)(hA:As.length=m.length)(O: ∀(i:Nat) (p:κ×List t.den) (a:Option Addr×Nat),m[i]?=some p→As[i]?=some a→es[i]?=some (enc p.1,.slice a.1 p.2.length a.2)∧Own t e 0 w F a.1 a.2 p.2):arr.map (·.key)=(m.map Prod.fst).map enc:=by
 have e1:arr.map (·.key)=es.map Prod.fst:=by rw[←N,List.map_map];rfl
 rw[e1]
 refine Wu fun i=>?_
 simp only[Qt]
 cases I:m[i]? with
 |none=>
  have:=List.getElem?_eq_none_iff.1 I
  rw[Q5 (by omega)];rfl
 |some p=>
  have hi:=(Qc.1 I).1
  rw[(O i p As[i] I (Qd (by omega))).1];rfl
theorem Qha (A:Option Addr):(obl A).Nodup:=by cases A<;>simp[obl]
theorem Mr.app {i:TypeInfo}{z:Value}{bytes:Nat}(K:Ky P kt enc)(ht:P.underlying tt=some (.map kt et))(hz0: ∀w,(zeroValue et).run P w=.ok (.slice none 0 0) w)(hst:P.underlying st=some (.slice e))(hi:P.info? e=some i)(hz:i.zero=some z)(hsize:i.size=t.size)(hby:i.bytes=bytes)(hzs:z.cells.size=t.size)(hbp:0<bytes)
  (hm:Mr enc t e w F b As m) (hF: ∀x,F x→x∉b::rbl As) (hFl: ∀x,F x→x<w.heap.size) {A2:Option Addr} {c2:Nat} {ys:List t.den} (hr:Row t w F G A2 c2 ys) (hG: ∀x,G x→x≠b) (k:κ) (h63:((mget [] m k).length+ys.length)*bytes≤140737488355328):
  ∃A c n w1 A' c' w2 w3,(Instr.mapEntry tt (.map (some b)) (enc k)).run P w=.ok (.tuple #[.slice A (mget [] m k).length c,goInt n]) w1∧(Builtin.append_ #[st,st] ty #[.slice A (mget [] m k).length c,.slice A2 ys.length c2]).run P w1=.ok (.slice A' ((mget [] m k).length+ys.length) c') w2∧
   (Instr.entryStore tt (.map (some b)) (goInt n) (.slice A' ((mget [] m k).length+ys.length) c')).run P w2=.ok () w3∧Ch (b::rbl As) w w3∧∃As',Mr enc t e w3 F b As' (mins m k (mget [] m k++ys))∧∀x,x∈rbl As'→x∈rbl As∨(w.heap.size≤x∧x<w3.heap.size):=by
 obtain⟨es,⟨arr,clock,hb,h1,hlt,hnd⟩,hl,hA,hN,hsz,he⟩:=hm
 have hblt:=(Qo.1 hb).1
 rw[Wm]at hN
 have hk:=Mr.keys h1 hl hA he
 have hlen:arr.length=m.length:=by rw[←hl,←h1,Qw]
 obtain⟨arr1,clock1,W,e1,hrun,hi1,hek,hlt1,hnd1,hcase⟩:=Qie K ht hz0 hb hk hlt hnd k
 have hc1:=Ch.putObj w b (.map arr1.toArray clock1)
 have hrow: ∃A c,e1.val=.slice A (mget [] m k).length c∧Own t e 0 w F A c (mget [] m k)∧(∀x,x∈obl A→x∈rbl As)∧((loc k (m.map Prod.fst)=some W∧arr1=arr∧As[W]?=some (A,c))∨(loc k (m.map Prod.fst)=none∧W=arr.length∧arr1=arr++[e1]∧obl A=[])):=by
  rcases hcase with⟨hloc,rfl⟩|⟨hloc,hi0,harr,hv⟩
  ·have hmi:=Qfm hloc []
   have hil:=(Qc.1 hmi).1
   have hAi:As[W]?=some As[W]:=Qd (by omega)
   obtain⟨N,h3⟩:=he W _ _ hmi hAi
   rw[←h1,Qt,hi1]at N
   injection N with N;injection N with _ N
   exact⟨_,_,N,h3,fun x I=>Qba hAi I,.inl ⟨hloc,rfl,hAi⟩⟩
  ·have hg:mget [] m k=[]:=mget_none ((Qik m k).1 hloc)
   rw[hg]
   exact⟨none,0,hv,Own.nil t e 0 w F,(fun x I=>by cases I),.inr ⟨hloc,hi0,harr,rfl⟩⟩
 obtain⟨A,c,hval,hO,hOb,hcase2⟩:=hrow
 rw[hval]at hrun
 have hO1:Own t e 0 (w.putObj b (.map arr1.toArray clock1)) F A c (mget [] m k):=Own.to hO hc1 (fun x I _ _=>by rw[Qj];rintro rfl;exact hN.1 (hOb x I)) fun x I _=>⟨by rw[Qj];rintro rfl;exact hF x I (Qg ..),I⟩
 have hR1:Row t (w.putObj b (.map arr1.toArray clock1)) F G A2 c2 ys:=Row.to hr hc1 (fun x I _=>⟨by rw[Qj];rintro rfl;exact hF x I (Qg ..),I⟩) fun x I _=>⟨by rw[Qj];exact hG x I,I⟩
 obtain⟨A',c',w2,happ,hO2,hc2,hnew⟩:=run_appendR (P:=P) (ty:=ty) hst hi hz hsize hby hzs hO1 hR1 h63 hbp (fun x I hxA=>hF x I (Qe _ (hOb x hxA))) (Xq _)
 have hbA:b∉obl A:=fun I=>hN.1 (hOb b I)
 have hb1:(w.putObj b (.map arr1.toArray clock1)).heap[b]?=some (.map arr1.toArray clock1):=World.putObj_heap_same hblt
 have hb2:w2.heap[b]?=some (.map arr1.toArray clock1):=(hc2.block b (by simpa using hblt) hbA).trans hb1
 have hstore:=run_entryStore (P:=P) (tt:=tt) hb2 hi1 hnd1 (.slice A' ((mget [] m k).length+ys.length) c')
 have hsz1:(w.putObj b (.map arr1.toArray clock1)).heap.size=w.heap.size:=by simp
 have hsz2:w.heap.size≤w2.heap.size:=by rw[←hsz1];exact hc2.size
 have hlt2: ∀x,x∈obl A'→x<w2.heap.size:=fun x I=>(hO2.lt x I).2
 have hnew': ∀x,x∈obl A'→x∈obl A∨x∉rbl As:=fun x I=>by
  rcases hnew x I with N|N
  ·exact .inl N
  ·exact .inr fun h3=>by have:=hsz x h3;omega
 have hc3:=Ch.putObj w2 b (.map (arr1.modify W fun e=>{e with val:=.slice A' ((mget [] m k).length+ys.length) c'}).toArray clock1)
 have hall:Ch (b::rbl As) w (w2.putObj b (.map (arr1.modify W fun e=>{e with val:=.slice A' ((mget [] m k).length+ys.length) c'}).toArray clock1)):=
  ((hc1.mono (by simp)).then (U:=b::rbl As) (hc2.mono fun x I=>.inl (hOb x I)) (fun x I=>.inl I) (fun x I=>.inl (Qe _ I))).then (U:=b::rbl As) hc3 (fun x I=>.inl I) (fun x I=>.inl (by rw[Qj]at I;subst I;exact Qg ..))
 refine⟨A,c,e1.born,_,A',c',w2,_,hrun,happ,hstore,hall,?_⟩
 obtain⟨v,hv⟩: ∃v,v=Value.slice A' ((mget [] m k).length+ys.length) c':=⟨_,rfl⟩
 rw[←hv]at hc3 ⊢
 have hb3:(w2.putObj b (.map (arr1.modify W fun e=>{e with val:=v}).toArray clock1)).heap[b]?=some (.map (arr1.modify W fun e=>{e with val:=v}).toArray clock1):=World.putObj_heap_same (Q4 hblt hsz2)
 have hborn: ∀x,x∈arr1.modify W (fun e=>{e with val:=v})→x.born<clock1:=fun x I=>by
  obtain⟨j,hj⟩:=Wp.1 I
  rw[Wx]at hj
  cases O:arr1[j]? with
  |none=>rw[O]at hj;simp at hj
  |some e0=>
   rw[O]at hj
   have hb0:=hlt1 e0 (Qf O)
   simp only[Y0,Wj,Qr]at hj
   subst hj
   split<;>exact hb0
 have hborns:(arr1.modify W fun e=>{e with val:=v}).map (·.born)=arr1.map (·.born):=by
  refine Wu fun j=>?_
  simp only[Qt,Wx]
  cases arr1[j]? with
  |none=>rfl
  |some e0=>simp only[Y0,Wj,Qr];split<;>rfl
 have hO3:Own t e 0 (w2.putObj b (.map (arr1.modify W fun e=>{e with val:=v}).toArray clock1)) F A' c' (mget [] m k++ys):=Own.to hO2 hc3 (fun x I _ _=>by
   rw[Qj];rintro rfl
   rcases hnew x I with N|N
   ·exact hbA N
   ·omega) fun x I _=>⟨by rw[Qj];rintro rfl;exact hF x I (Qg ..),I⟩
 have hOj: ∀(j:Nat) (p:κ×List t.den) (a:Option Addr×Nat),m[j]?=some p→As[j]?=some a→(∀x,x∈obl a.1→x∉obl A)→Own t e 0 (w2.putObj b (.map (arr1.modify W fun e=>{e with val:=v}).toArray clock1)) F a.1 a.2 p.2:=fun j p a hp O hdis=>by
  have N:=(he j p a hp O).2
  have h3:Own t e 0 (w.putObj b (.map arr1.toArray clock1)) F a.1 a.2 p.2:=Own.to N hc1 (fun x I _ _=>by rw[Qj];rintro rfl;exact hN.1 (Qba O I)) fun x I _=>⟨by rw[Qj];rintro rfl;exact hF x I (Qg ..),I⟩
  have h4:Own t e 0 w2 F a.1 a.2 p.2:=Own.to h3 hc2 (fun x I _ _=>hdis x I) fun x I _=>⟨fun hxA=>hF x I (Qe _ (hOb x hxA)),I⟩
  exact Own.to h4 hc3 (fun x I _ _=>by rw[Qj];rintro rfl;exact hN.1 (Qba O I)) fun x I _=>⟨by rw[Qj];rintro rfl;exact hF x I (Qg ..),I⟩
 have hsz3:(w2.putObj b (.map (arr1.modify W fun e=>{e with val:=v}).toArray clock1)).heap.size=w2.heap.size:=by simp
 have hbA':b∉obl A':=fun I=>by
  rcases hnew b I with N|N
  ·exact hbA N
  ·omega
 have hnew2: ∀x,x∈obl A'→x∈rbl As∨(w.heap.size≤x∧x<(w2.putObj b (.map (arr1.modify W fun e=>{e with val:=v}).toArray clock1)).heap.size):=fun x I=>by
  rcases hnew x I with N|N
  ·exact .inl (hOb x N)
  ·exact .inr ⟨by omega,by rw[hsz3];exact hlt2 x I⟩
 rcases hcase2 with⟨hloc,rfl,hAi⟩|⟨hloc,hi0,harr,hA0⟩
 ·refine⟨As.set W (A',c'),⟨_,⟨_,_,hb3,rfl,hborn,by rw[hborns];exact hnd1⟩,?_,?_,?_,?_,?_⟩,?_⟩
  ·rw[Qbf,hloc];simp[hlen]
  ·rw[Qbf,hloc];simp[hA]
  ·rw[Wm]
   refine⟨fun I=>?_,Qfj hN.2 hAi (Qha A') hnew'⟩
   rcases Qfi hAi b I with N|N
   ·exact hN.1 N
   ·exact hbA' N
  ·intro x I
   rw[hsz3]
   rcases Qfi hAi x I with N|N
   ·exact Q4 (hsz x N) hsz2
   ·exact hlt2 x N
  ·intro j p a hp O
   rw[Qbf,hloc]at hp
   simp only[Wx]at hp
   rw[Ja]at O
   have hil:=(Qc.1 hAi).1
   by_cases hij:W=j
   ·subst hij
    rw[Qfm hloc []]at hp
    simp only[if_true,hil]at O
    injection O with O;subst O
    simp only[if_true,Y0,Wj,Qr]at hp
    subst hp
    refine⟨?_,hO3⟩
    rw[Qt,Wx,hi1]
    simp[hek,hv]
   ·simp only[hij,if_false]at O hp
    simp only[Y0,id_map']at hp
    have hp':m[j]?=some p:=by cases hmj:m[j]?<;>rw[hmj]at hp<;>simp at hp ⊢;exact hp
    refine⟨?_,hOj j p a hp' O (rbl_other hN.2 O hAi (Ne.symm hij))⟩
    have N:=(he j p a hp' O).1
    rw[←h1,Qt]at N
    rw[Qt,Wx]
    simp only[hij,if_false]
    cases harj:arr1[j]? with
    |none=>rw[harj]at N;cases N
    |some e0=>rw[harj]at N;simpa using N
  ·intro x I
   rcases Qfi hAi x I with N|N
   ·exact .inl N
   ·exact hnew2 x N
 ·have hmod:(arr1.modify W fun e=>{e with val:=v})=arr++[{e1 with val:=v}]:=by
   rw[harr,hi0]
   refine Wu fun j=>?_
   rw[Wx]
   rcases Nat.lt_trichotomy j arr.length with N|N|N
   ·rw[Q7 N,Q7 N];have hne:arr.length≠j:=by omega
    simp[hne]
   ·subst N;simp
   ·rw[Q5 (by simp;omega),Q5 (by simp;omega)];rfl
  have hdis: ∀x,x∈obl A'→x∉rbl As:=fun x I hx2=>by
   rcases hnew x I with N|N
   ·rw[hA0]at N;cases N
   ·have:=hsz x hx2;omega
  have hrbl:rbl (As++[(A',c')])=rbl As++obl A':=by simp[rbl]
  refine⟨As++[(A',c')],⟨_,⟨_,_,hb3,rfl,hborn,by rw[hborns];exact hnd1⟩,?_,?_,?_,?_,?_⟩,?_⟩
  ·rw[Qbf,hloc,hmod];simp[hlen]
  ·rw[Qbf,hloc];simp[hA]
  ·rw[hrbl,Wm,Qn,Wz]
   exact⟨fun N=>N.elim hN.1 hbA',hN.2,Qha A',fun x I y hy e=>hdis y hy (e▸I)⟩
  ·intro x I
   rw[hsz3]
   rw[hrbl,Qn]at I
   rcases I with N|N
   ·exact Q4 (hsz x N) hsz2
   ·exact hlt2 x N
  ·intro j p a hp O
   rw[Qbf,hloc]at hp
   rcases Nat.lt_trichotomy j m.length with N|N|N
   ·rw[Q7 N]at hp
    rw[Q7 (by omega)]at O
    refine⟨?_,hOj j p a hp O fun x I hx2=>by rw[hA0]at hx2;cases hx2⟩
    have h3:=(he j p a hp O).1
    rw[←h1,Qt]at h3
    rw[hmod,Qt,Q7 (by omega)]
    exact h3
   ·subst N
    rw[We (Q1 _)]at hp
    rw[We (by omega)]at O
    simp[hA]at hp O
    subst hp;subst O
    refine⟨?_,hO3⟩
    rw[hmod,Qt,We (by omega)]
    simp[hlen,hek,hv]
   ·rw[Q5 (by simp;omega)]at hp;cases hp
  ·intro x I
   rw[hrbl,Qn]at I
   rcases I with N|N
   ·exact .inl N
   ·exact hnew2 x N
end
section
variable {r:Option Nat}{P:Program}{ops:Array Oper}{Q:Exit→Act→World→Prop}{rest:List Oper}{C:Cx}{l:List (Nat×Value)}{H:List (Nat×Res)}
theorem lk_hd (d:Nat)(v:Value)(l:List (Nat×Value)):lk ((d,v)::l) d=some v:=by simp[lk]
theorem AL.mkmr {d:Nat}{T tt:TypeId}{pos:String}{af:Array Edge}(k:Nat)(κ:Type)(enc:κ→Value)(t:Ty)(e:TypeId)(h: ∀b,AL r P ops Q rest C ((d,.map (some b))::l) ((k,.mr κ enc t e b [] [])::H))(N:Nat.ble (d+1) C.n=true:=by rfl)(O:hk H k=none:=by kernel_rfl):
  AL r P ops Q (⟨some d,.makeMap tt none,T,pos,af,none⟩::rest) C l H:=fun a w W hh=>by
 refine Z.valw (w':=w.alloc (.map #[] 0)) (v:=.map (some w.heap.size)) W N (by simp[execOp,Instr.makeMap]) fun a' hf'=>h _ a' _ hf' (hh.new O (Ch.alloc w _) (fun x I=>?_) (fun j hj=>by cases hj) fun F B _ _ _=>?_)
 ·simp[Res.bl,rbl]at I;subst I;simp
 ·exact⟨[],⟨[],0,heap_alloc_new w _,rfl,by simp,by simp⟩,rfl,rfl,by simp[rbl],by simp[rbl],fun i p a hp=>by simp at hp⟩
theorem frzM {X:Act→World→Prop}(k:Nat)(js:List Nat){κ:Type}{enc:κ→Value}{t:Ty}{e:TypeId}{b:Nat}{As:List (Option Addr×Nat)}{m:List (κ×List t.den)}(h: ∀a w,Fr a C.n C.ds l→Hp C ((k,.mp κ enc (.slice t) false b m)::ded js H) w→X a w)(I:hk H k=some (.mr κ enc t e b As m):=by rfl)(W:hng [k] js H=true:=by kernel_rfl): ∀a w,Fr a C.n C.ds l→Hp C H w→X a w:=fun a w hf hh=>by
 refine h a w hf (Hp.dd (hh.upd (S:=[]) (Ch.refl w) (by simp) (fun x N=>.inl ⟨_,I,by simp[Res.bl]at N ⊢;exact .inl N⟩) (fun j W=>by cases W) fun F B h1 h2 _ _ _=>?_) W)
 obtain⟨es,c1,c2,c3,c4,c5,c6⟩:Mr enc t e w (Fh C H) b As m:=hh.hold k _ I
 refine⟨es,c1,c2,fun i p hp=>?_⟩
 have hi:=(Qc.1 hp).1
 have ha:As[i]?=some As[i]:=Qd (by omega)
 obtain⟨c7,cells,hr,o1,o2⟩:=c6 i p _ hp ha
 refine⟨[.slice As[i].1 p.2.length As[i].2],c7,?_⟩
 have hO':Own t e 0 w F As[i].1 As[i].2 p.2:=⟨cells,hr,o1,fun i x hi=>Qcr (o2 i x hi) fun b hb hl=>h1 b hb hl⟩
 refine hO'.rep (fun _ h=>h) fun x N=>h2 x ⟨_,I,by simp only[Res.bl];exact Qe _ (Qba ha N)⟩ fun O=>?_
 simp only[Res.bl,Qj]at O
 subst O
 exact(Wm.1 c4).1 (Qba ha N)
theorem AL.mapp {κ:Type}[DecidableEq κ]{enc:κ→Value}{kt et tt st e:TypeId}{t:Ty}{b d1 d2 d3 d4 n2:Nat}{As:List (Option Addr×Nat)}{m:List (κ×List t.den)}{mx kx y:Operand}{i:TypeInfo}{z:Value}{bytes sz:Nat}{A2:Option Addr}{c2:Nat}{ys:List t.den}
  {T1 T2 T3 T4 T5:TypeId} {p1 p2 p3 p4 p5:String} {f1 f2 f3 f4 f5:Array Edge} (k ky:Nat) (js:List Nat) (K:Ky P kt enc) (key:κ) (hz0: ∀w,(zeroValue et).run P w=.ok (.slice none 0 0) w)
  (hinf:P.info? e=some i∧i.zero=some z∧i.size=sz∧i.bytes=bytes∧z.cells.size=sz) (h63:((mget [] m key).length+ys.length)*bytes≤140737488355328)
  (h: ∀As' v1 v2 v3 v4,AL r P ops Q rest C ((d4,v4)::(d3,v3)::(d2,v2)::(d1,v1)::l) ((k,.mr κ enc t e b As' (mins m key (mget [] m key++ys)))::ded js H))
  (hk1:hk H k=some (.mr κ enc t e b As m):=by rfl) (hk2:hk H ky=some (.own t e A2 c2 ys):=by rfl) (O:Nat.beq k ky=false:=by rfl) (I:ev l mx=some (.map (some b)):=by rfl) (hy:ev l kx=some (enc key):=by rfl) (hyy:ev l y=some (.slice A2 n2 c2):=by rfl) (hn2:n2=ys.length:=by rfl) (hsz:sz=t.size:=by rfl) (hbp:Nat.ble 1 bytes=true:=by rfl)
  (ht:P.underlying tt=some (.map kt et):=by rfl) (hst:P.underlying st=some (.slice e):=by rfl) (hd1:Nat.ble (d1+1) C.n=true:=by rfl) (hd2:Nat.ble (d2+1) C.n=true:=by rfl) (hd3:Nat.ble (d3+1) C.n=true:=by rfl) (hd4:Nat.ble (d4+1) C.n=true:=by rfl)
  (hl: ∀v1 v2 v3 v4,ev ((d2,v2)::(d1,v1)::l) y=ev l y∧ev ((d4,v4)::(d3,v3)::(d2,v2)::(d1,v1)::l) mx=ev l mx∧lk ((d3,v3)::(d2,v2)::(d1,v1)::l) d1=some v1∧lk ((d4,v4)::(d3,v3)::(d2,v2)::(d1,v1)::l) d3=some v3:=by exact fun _ _ _ _=>⟨rfl,rfl,rfl,rfl⟩) (hj:hng [k] js H=true:=by kernel_rfl):
  AL r P ops Q (⟨some d1,.mapEntry tt mx kx,T1,p1,f1,none⟩::⟨some d2,.extract (.tmp d1) 0,T2,p2,f2,none⟩::⟨some d3,.call {callee:=.builtin .append,args:=#[.tmp d2,y],argTypes:=#[st,st]},T3,p3,f3,none⟩::⟨some d4,.extract (.tmp d1) 1,T4,p4,f4,none⟩::⟨none,.entryStore tt mx (.tmp d4) (.tmp d3),T5,p5,f5,none⟩::rest) C l H:=fun a w hf hh=>by
 subst hn2;subst hsz
 obtain⟨hi,hz,hsize,hby,hzs⟩:=hinf
 have O:k≠ky:=fun e=>by rw[e,Jn]at O;cases O
 have hM:Mr enc t e w (Fh C H) b As m:=hh.hold k _ hk1
 have hM2:Mr enc t e w (fun x=>Fh C H x∧x<w.heap.size) b As m:=by
  obtain⟨es,c1,c2,c3,c4,c5,c6⟩:=hM
  refine⟨es,c1,c2,c3,c4,c5,fun i p a hp ha=>?_⟩
  obtain⟨c7,cells,hr,o1,o2⟩:=c6 i p a hp ha
  exact⟨c7,cells,hr,o1,fun i x hi=>Qaf t (o2 i x hi)⟩
 obtain⟨G,hR,hG⟩:=rowO hk2 w hh
 have hR2:Row t w (fun x=>Fh C H x∧x<w.heap.size) G A2 c2 ys:=by
  obtain⟨r1,r2,cs,r3,r4,r5⟩:=hR
  exact⟨r1,r2,cs,r3,r4,fun i x hi=>Qaf t (r5 i x hi)⟩
 have N: ∀x,x∈b::rbl As→Bk H k x:=fun x I=>⟨_,hk1,I⟩
 obtain⟨A,c,n,w1,A',c',w2,w3,e1,e2,e3,hch,As',hM3,hnew⟩:=hM2.app (ty:=T3) K ht hz0 hst hi hz hsize hby hzs (Q0 hbp) (fun x I hxb=>I.1.1 k (N x hxb)) (fun x I=>I.2) hR2 (fun x hgx hxb=>O (hh.dis k ky b (N b (Qg ..)) (hxb▸hG x hgx))) key h63
 refine Z.valw (w':=w1) (v:=.tuple #[.slice A (mget [] m key).length c,goInt n]) hf hd1 ?_ fun a1 hf1=>?_
 ·simp only[execOp,Sem.run_bind,hf.eval I,hf.eval hy,e1,Result.andThen_ok,Sem.run_pure]
 refine Z.val (v:=.slice A (mget [] m key).length c) hf1 hd2 (Z.r_extract (hf1.eval (x:=.tmp d1) (lk_hd _ _ _)) rfl) fun a2 hf2=>?_
 obtain⟨q1,_,_,_⟩:=hl (.tuple #[.slice A (mget [] m key).length c,goInt n]) (.slice A (mget [] m key).length c) undef undef
 refine Z.valw (w':=w2) (v:=.slice A' ((mget [] m key).length+ys.length) c') hf2 hd3 ?_ fun a3 hf3=>?_
 ·simp only[execOp,resolve,invoke,builtin,Sem.run_bind,Sem.run_pure,Result.andThen_ok,X9,Q3,Xt,hf2.eval (x:=.tmp d2) (v:=.slice A (mget [] m key).length c) (lk_hd _ _ _),hf2.eval (q1.trans hyy),e2]
 obtain⟨_,_,q3,_⟩:=hl (.tuple #[.slice A (mget [] m key).length c,goInt n]) (.slice A (mget [] m key).length c) (.slice A' ((mget [] m key).length+ys.length) c') undef
 refine Z.val (v:=goInt n) hf3 hd4 (Z.r_extract (hf3.eval (x:=.tmp d1) q3) rfl) fun a4 W=>?_
 obtain⟨_,q2,_,q4⟩:=hl (.tuple #[.slice A (mget [] m key).length c,goInt n]) (.slice A (mget [] m key).length c) (.slice A' ((mget [] m key).length+ys.length) c') (goInt n)
 refine Z.skipw (w':=w3) W ?_ fun a5 hf5=>h As' _ _ _ _ a5 w3 hf5 (Hp.dd (hh.upd hch N (fun x I=>?_) (fun j hj=>by cases hj) fun F B hF _ _ _ _=>hM3.asF fun x I _=>hF x I.1 I.2) hj)
 ·simp only[execOp,Sem.run_bind,W.eval (q2.trans I),W.eval (x:=.tmp d4) (v:=goInt n) (lk_hd _ _ _),W.eval (x:=.tmp d3) q4,e3,Result.andThen_ok,Sem.run_pure]
 ·simp only[Res.bl]at I
  rcases Qk.1 I with rfl|I
  ·exact .inl (N _ (Qg ..))
  ·rcases hnew x I with h2|h2
   ·exact .inl (N _ (Qe _ h2))
   ·exact .inr h2
end
end Go.A
end
section
namespace Go.A
open Go.RowKit Go.Z Go.Shelf Go.Proofs Go.Lib
def tabF:List Value:=(List.range 256).map fun c=>.int .u8 (firstT c)
def tabA:List Value:=(List.range 32).map fun j=>.int .u8 (if j%2=0 then accLo (j / 2)else accHi (j / 2))
theorem tabs_of {w:World}{I N:Nat}(W:Cells w ⟨I,0,none⟩ tabF)(O:Cells w ⟨N,0,none⟩ tabA):Lib.Utf8Tabs I N w:=by
 refine⟨fun c hc=>?_,fun i hi=>⟨?_,?_⟩⟩
 ·have:=W c (.int .u8 (firstT c)) (by simp[tabF,hc])
  rw[Addr.add_lit,Wf]at this;exact this
 ·have:=O (2*i) (.int .u8 (accLo i)) (by
   have:2*i<32:=by omega
   simp[tabA,this])
  rw[Addr.add_lit,Wf]at this;exact this
 ·have:=O (2*i+1) (.int .u8 (accHi i)) (by
   have h3:2*i+1<32:=by omega
   have h4:(2*i+1)%2=1:=by omega
   have h5:(2*i+1) / 2=i:=by omega
   simp[tabA,h3,h4,h5])
  rw[Addr.add_lit,Wf]at this;exact this
theorem Ct.valid {P:Program}{ρ:Ren}{f N O:Nat}(L:Lays.n196 P ρ)(hf:ρ.f 196=f)(h3:ρ.g 3=N)(h4:ρ.g 4=O)(s:ByteArray)(hs:s.size≤maxLen)(r:Bool)(I:some (Lib.validD s.data.toList)=some r):
  Ct P f [.string s] [(0,.el none N 0 tabF),(1,.el none O 0 tabA)] [] (fun v H'=>v=.bool r∧H'=[]):=fun w F W=>by
 subst hf;subst h3;subst h4
 have I:=Qp I
 subst I
 have h1:Cells w ⟨ρ.g 3,0,none⟩ tabF:=(W.hold 0 (.el none (ρ.g 3) 0 tabF) rfl).1
 have h2:Cells w ⟨ρ.g 4,0,none⟩ tabA:=(W.hold 1 (.el none (ρ.g 4) 0 tabA) rfl).1
 refine(Any.utf8_ValidString L s w (by simp only[maxLen]at hs;omega) (tabs_of h1 h2)).mono ?_
 rintro e w' ⟨rfl,hb⟩
 exact⟨_,[],rfl,⟨rfl,rfl⟩,(Ch.of_below hb),fun k r h=>(by cases h),fun k b ⟨_,h,_⟩=>(by cases h),fun k k' b ⟨_,h,_⟩=>(by cases h),fun k r j h=>(by cases h)⟩
end Go.A
end
section
namespace Go.A
open Go.RowKit
abbrev i (x:Int):Value:=.int .i64 x
abbrev h6:=IntKind.i64.has
abbrev ti:=Z.Ty.int .i64
abbrev TI:=Z.Ty.slice ti
theorem si{α:Type}{a b:α}(h:some a=some b):a=b:=Qp h
end Go.A
end
section
namespace Go.Proofs.YtlbnpmfggfbdoaaGreatDoor
open Go.RowKit Go.Shelf Go.Lib
def Tryz.laysValid_ren:Go.Shelf.Ren:=⟨fun|196=>165|259=>184|n=>n,fun|9=>9|4=>4|3=>3|5=>5|12=>12|119=>226|0=>0|46=>129|139=>229|138=>228|53=>169|n=>n,fun|3=>0|4=>1|n=>n⟩
theorem Tryz.laysValid:Go.Proofs.Lays.n196 Tryz.prog Tryz.laysValid_ren where
 mixed:=by kernel_rfl
 f196:=Tryz.func165.trans (congrArg some (by kernel_rfl))
 f259:=Tryz.func184.trans (congrArg some (by kernel_rfl))
 t0:=Tryz.underlying0
 a0:=Tryz.isAgg0
 z0:=Tryz.sizeOf0
 v0:=Tryz.zeroValue0
 t3:=Tryz.underlying3
 a3:=Tryz.isAgg3
 z3:=Tryz.sizeOf3
 v3:=Tryz.zeroValue3
 t4:=Tryz.underlying4
 a4:=Tryz.isAgg4
 z4:=Tryz.sizeOf4
 v4:=Tryz.zeroValue4
 t5:=Tryz.underlying5
 a5:=Tryz.isAgg5
 z5:=Tryz.sizeOf5
 v5:=Tryz.zeroValue5
 t9:=Tryz.underlying9
 a9:=Tryz.isAgg9
 z9:=Tryz.sizeOf9
 v9:=Tryz.zeroValue9
 t12:=Tryz.underlying12
 a12:=Tryz.isAgg12
 z12:=Tryz.sizeOf12
 v12:=Tryz.zeroValue12
 t46:=Tryz.underlying129
 a46:=Tryz.isAgg129
 z46:=Tryz.sizeOf129
 v46:=Tryz.zeroValue129
 t53:=Tryz.underlying169
 a53:=Tryz.isAgg169
 z53:=Tryz.sizeOf169
 v53:=Tryz.zeroValue169
 t119:=Tryz.underlying226
 a119:=Tryz.isAgg226
 z119:=Tryz.sizeOf226
 t138:=Tryz.underlying228
 a138:=Tryz.isAgg228
 z138:=Tryz.sizeOf228
 v138:=Tryz.zeroValue228
 t139:=Tryz.underlying229
 a139:=Tryz.isAgg229
 z139:=Tryz.sizeOf229
 v139:=Tryz.zeroValue229
 g3:=by kernel_rfl
 g4:=by kernel_rfl
def F.b3 (h:ByteArray):Option Bool:=some (Lib.validD h.data.toList)
theorem o_ag (h:ByteArray)(h1:h.size≤maxLen)(r:Bool)(k:F.b3 h=some r):
  A.Ct Tryz.prog 165 [.string h] [(0,.el none 0 0 A.tabF),(1,.el none 1 0 A.tabA)] [] (fun v H'=>v=.bool r∧H'=[]):=
 A.Ct.valid Tryz.laysValid rfl rfl rfl h h1 r k
end Go.Proofs.YtlbnpmfggfbdoaaGreatDoor
end
section
namespace Go.A
open Go.RowKit Go.Z
def mb:Nat→Nat→List Bool
 |0,_=>[]
 |n+1,m=>Nat.beq (m%2) 1::mb n (m / 2)
def nxs:Nat→Option Code→List Kx→Option (Option Code×List Kx)
 |0,c,K=>some (c,K)
 |n+1,some (.seq x y),K=>nxs n (some x) (.c y::K)
 |n+1,some (.block id c),K=>nxs n (some c) (.b id::K)
 |n+1,some .skip,K=>nxs n none K
 |n+1,some (.label _),K=>nxs n none K
 |n+1,some (.exit id),K=>match popx id K with
  |some K'=>nxs n none K'
  |none=>none
 |n+1,none,.c y::K=>nxs n (some y) K
 |n+1,none,.b _::K=>nxs n none K
 |n+1,none,.s::K=>nxs n none K
 |_+1,_,_=>none
section
variable {r:Option Nat}{P:Program}{Y:Exit→Act→World→Prop}{C:Cx}{l:List (Nat×Value)}{H:List (Nat×Res)}{K K':List Kx}{c c':Code}
def GX (r:Option Nat)(P:Program)(Y:Exit→Act→World→Prop)(C:Cx)(l:List (Nat×Value))(H:List (Nat×Res)):Option Code→List Kx→Prop
 |some c,K=>AX r P Y K c C l H
 |none,K=>AE r P Y K .normal C l H
theorem o_aW: ∀{n:Nat} {c c':Option Code} {K K':List Kx},nxs n c K=some (c',K')→GX r P Y C l H c' K'→GX r P Y C l H c K:=by
 intro n;induction n with
 |zero=>intro c c' K K' e h;injection e with e;injection e with e1 e2;subst e1;subst e2;exact h
 |succ n I=>
  intro c c' K K' e h
  unfold nxs at e
  split at e
  ·injection e with e;injection e with e1 e2;subst e1;subst e2;exact h
  ·rename_i e0;cases e0;exact AX.seq (I e h)
  ·rename_i e0;cases e0;exact AX.block (I e h)
  ·rename_i e0;cases e0;exact AX.skip (I e h)
  ·rename_i e0;cases e0;exact AX.label (I e h)
  ·rename_i e0
   cases e0
   split at e
   ·rename_i hp;exact AX.exit hp (I e h)
   ·cases e
  ·rename_i e0;cases e0;exact AE.c (I e h)
  ·rename_i e0;cases e0;exact AE.b (I e h)
  ·rename_i e0;cases e0;exact AE.s (I e h)
  ·cases e
theorem xx (n:Nat)(h:AX r P Y K' c' C l H)(e:nxs n (some c) K=some (some c',K'):=by rfl):AX r P Y K c C l H:=o_aW (c:=some c) (c':=some c') e h
theorem xe (n:Nat)(h:AE r P Y K' .normal C l H)(e:nxs n (some c) K=some (none,K'):=by rfl):AX r P Y K c C l H:=o_aW (c:=some c) (c':=none) e h
theorem ex (n:Nat)(h:AX r P Y K' c' C l H)(e:nxs n none K=some (some c',K'):=by rfl):AE r P Y K .normal C l H:=o_aW (c:=none) (c':=some c') e h
theorem ee (n:Nat)(h:AE r P Y K' .normal C l H)(e:nxs n none K=some (none,K'):=by rfl):AE r P Y K .normal C l H:=o_aW (c:=none) (c':=none) e h
theorem xl (n:Nat){id:Nat}{lo:List Oper}(h:AL r P lo.toArray (kont r P Y K') lo C l H)(e:nxs n (some c) K=some (some (.region id lo.toArray false),K'):=by rfl):AX r P Y K c C l H:=xx n (AX.reg h) e
theorem el (n:Nat){id:Nat}{lo:List Oper}(h:AL r P lo.toArray (kont r P Y K') lo C l H)(e:nxs n none K=some (some (.region id lo.toArray false),K'):=by rfl):AE r P Y K .normal C l H:=ex n (AX.reg h) e
theorem dl (n:Nat){ops:Array Oper}{id:Nat}{lo:List Oper}(h:AL r P lo.toArray (kont r P Y K') lo C l H)(e:nxs n none K=some (some (.region id lo.toArray false),K'):=by rfl):AL r P ops (kont r P Y K) [] C l H:=AL.done (el n h e)
theorem dx (n:Nat){ops:Array Oper}(h:AX r P Y K' c' C l H)(e:nxs n none K=some (some c',K'):=by rfl):AL r P ops (kont r P Y K) [] C l H:=AL.done (ex n h e)
theorem de (n:Nat){ops:Array Oper}(h:AE r P Y K' .normal C l H)(e:nxs n none K=some (none,K'):=by rfl):AL r P ops (kont r P Y K) [] C l H:=AL.done (ee n h e)
end
section
variable {r:Option Nat}{P:Program}{ops:Array Oper}{Q:Exit→Act→World→Prop}{lst rest:List Oper}{C:Cx}{l:List (Nat×Value)}{H:List (Nat×Res)}{T:TypeId}{pos:String}{af:Array Edge}
theorem q0 (bs es:List Nat)(I:List Hint)(nl:List (Nat×Value))(h:AL r P ops Q (lst.drop I.length) C (cat nl l) H)
  (hq:((qs P ⟨knb H bs,kne H es⟩ C.n ops I lst (Z.q0 l)).bind (qfin l (nl.map Prod.fst)))=some ([],nl):=by kernel_rfl)
  (N:(qs P ⟨knb H bs,kne H es⟩ C.n ops I lst (Z.q0 l)).map (fun s=>s.q.map Prod.fst)=(qs P ⟨knb H bs,kne H es⟩ C.n ops I lst (Z.q0 l)).map (fun s=>s.q.map Prod.snd):=by kernel_rfl):AL r P ops Q lst C l H:=
 AL.q bs es I (nl.map Prod.fst) [] nl trivial h hq N
theorem q (bs es:List Nat)(I:List Hint)(cs:List Prop)(nl:List (Nat×Value))(N:conj cs)(h:AL r P ops Q (lst.drop I.length) C (cat nl l) H)
  (hq:((qs P ⟨knb H bs,kne H es⟩ C.n ops I lst (Z.q0 l)).bind (qfin l (nl.map Prod.fst)))=some (cs,nl):=by kernel_rfl)
  (O:(qs P ⟨knb H bs,kne H es⟩ C.n ops I lst (Z.q0 l)).map (fun s=>s.q.map Prod.fst)=(qs P ⟨knb H bs,kne H es⟩ C.n ops I lst (Z.q0 l)).map (fun s=>s.q.map Prod.snd):=by kernel_rfl):AL r P ops Q lst C l H:=
 AL.q bs es I (nl.map Prod.fst) cs nl N h hq O
theorem sw (k:Nat)(js:List Nat)(new:List Value){t bt:TypeId}{x y:Operand}{g o m:Nat}{cs:List Value}{v:Value}(h:AL r P ops Q rest C l ((k,.blk g bt new)::ded js H))
  (I:hk H k=some (.blk g bt cs):=by rfl) (N:ev l x=some (.pointer (some ⟨g,o,none⟩)):=by rfl) (O:ev l y=some v:=by rfl) (W:szB P t=some m:=by kernel_rfl)
  (hv:v.cells=new.toArray:=by rfl) (hm:new.length=m:=by rfl) (ho:Nat.ble (o+m) cs.length=true:=by rfl) (h1:new.all (fun u=>u.oneCell')=true:=by rfl) (hc:cs.take o++new++cs.drop (o+m)=new:=by rfl) (hj:hng [k] js H=true:=by kernel_rfl):
  AL r P ops Q (⟨none,.store t x y,T,pos,af,none⟩::rest) C l H:=AL.store k js h I N O W hv hm ho h1 hc hj
end
section
variable {r:Option Nat}{P:Program}{Y:Exit→Act→World→Prop}{K:List Kx}{C:Cx}{l:List (Nat×Value)}{H:List (Nat×Res)}
theorem j {l':List (Nat×Value)}{H':List (Nat×Res)}{ks I:List Nat}{J:List (Nat×Value)→List (Nat×Res)→Prop}{nl:List (Nat×Value)}{nh:List (Nat×Res)}(N:J nl nh)(O:kp l ((cat nl (kp l' ks)).map (·.1))=cat nl (kp l' ks):=by kernel_rfl)(W:kpH H (nh.map (·.1)++I) (nh.map (·.1)++I)=hcat nh (kpH H' I I):=by kernel_rfl):
  AE r P Y (.m (St C l' H' ks I J)::K) .normal C l H:=AE.j (nh.map (·.1)++I) nl nh N O W
theorem lp_ (ks I:List Nat)(J:Nat→List (Nat×Value)→List (Nat×Res)→Prop){nl:List (Nat×Value)}{nh:List (Nat×Res)}{x:Code}(N:J FU nl nh)
  (h: ∀f nl nh,J f nl nh→AX r P Y (.m (St C l H ks I fun nl nh=>∃f',f'<f∧J f' nl nh)::K) x C (cat nl (kp l ks)) (hcat nh (kpH H I I)))
  (O:kp l ((cat nl (kp l ks)).map (·.1))=cat nl (kp l ks):=by kernel_rfl) (W:kpH H (nh.map (·.1)++I) (nh.map (·.1)++I)=hcat nh (kpH H I I):=by kernel_rfl):AX r P Y K (.loop x) C l H:=
 AX.loop ks I (nh.map (·.1)++I) J FU nl nh N h O W
end
section
variable {r:Option Nat}{P:Program}{ops:Array Oper}{Q:Exit→Act→World→Prop}{Hq:List (Nat×Res)}{m g:Nat}{li:List Bool}{C:Cx}{l:List (Nat×Value)}{H:List (Nat×Res)}
theorem hq (N:Pq Q)(gs qs bs es:List Nat)(li':List Bool)(f:Nat)(is:List (Nat×Hint))(nl:List (Nat×Value))(h:AH r P ops Q (kpH H qs qs) m f li' C (cat nl l) H)
  (O:g=f+is.length:=by rfl) (W:is.all (fun p=>bon ops m p.1)=true:=by kernel_rfl) (I:cloB ops li.toArray=true:=by kernel_rfl) (hn:(Region.noSelect ops&&Qbb ops)=true:=by kernel_rfl)
  (hq:((dqs P ⟨knb (kpH H qs qs) bs,kne (kpH H qs qs) es⟩ C.n ops is li.toArray (Z.q0 l)).bind fun x=>(qfin l (nl.map Prod.fst) x.2).map fun y=>(x.1.toList,y))=some (li',[],nl):=by kernel_rfl)
  (he:(dqs P ⟨knb (kpH H qs qs) bs,kne (kpH H qs qs) es⟩ C.n ops is li.toArray (Z.q0 l)).map (fun s=>s.2.q.map Prod.fst)=(dqs P ⟨knb (kpH H qs qs) bs,kne (kpH H qs qs) es⟩ C.n ops is li.toArray (Z.q0 l)).map (fun s=>s.2.q.map Prod.snd):=by kernel_rfl)
  (e:kpH (kpH H qs qs) gs gs=Hq:=by kernel_rfl):AH r P ops Q Hq m g li C l H:=AH.q N gs qs bs es li' f is (nl.map Prod.fst) [] nl trivial h O W I hn hq he e
end
section
variable {r:Option Nat}{P:Program}{l:List (Nat×Value)}{H:List (Nat×Res)}{fn:Func}{K:List Kx}{w0:World}{S:List Nat}{F:Nat→Prop}{n:Nat}{R:Value→List (Nat×Res)→Prop}
theorem rt1 (ps:List (Nat×Nat)){t:Nat}{v:Value}(I:R v (A.ren H ps))(N:fn.results=#[.tmp t]:=by rfl)(O:lk l t=some v:=by rfl)(W:nod (ps.map (·.1))=true:=by rfl)(h2:nod (ps.map (·.2))=true:=by rfl):
  AX r P (bodyPost P fn fun e w'=>∃v H',e=.returned v∧R v H'∧Hp ⟨0,[],w0,S,F⟩ H' w') K .ret ⟨n,[],w0,S,F⟩ l H:=AX.ret ps v (fun a w h hh=>Z.resv1 N (Z.rv_t h O)) I W h2
theorem rt2 (ps:List (Nat×Nat)){t u:Nat}{v I:Value}(N:R (.tuple #[v,I]) (A.ren H ps))(O:fn.results=#[.tmp t,.tmp u]:=by rfl)(W:lk l t=some v:=by rfl)(hu:lk l u=some I:=by rfl)(h1:nod (ps.map (·.1))=true:=by rfl)(h2:nod (ps.map (·.2))=true:=by rfl):
  AX r P (bodyPost P fn fun e w'=>∃v H',e=.returned v∧R v H'∧Hp ⟨0,[],w0,S,F⟩ H' w') K .ret ⟨n,[],w0,S,F⟩ l H:=AX.ret ps (.tuple #[v,I]) (fun a w h hh=>Z.resv2 O (Z.rv_t h W) (Z.rv_t h hu)) N h1 h2
end
theorem pb {r:Option Nat}{P:Program}{fn:Func}{R:Ending→World→Prop}{K:List Kx}:Pq (kont r P (bodyPost P fn R) K):=pk_kont (Z.Pq.body _ _ _)
section
variable {P:Program}{C:Cx}{l:List (Nat×Value)}{H:List (Nat×Res)}
end
end Go.A
end
section
namespace Go.Z
open Go.RowKit
section
variable {κ:Type}[DecidableEq κ]{α:Type}
end
section
variable {r:Option Nat}{P:Program}{ops:Array Oper}{Q:Exit→Act→World→Prop}{a:Act}{w:World}{rest:List Oper}{n:Nat}{ds:List Deferred}{l:List (Nat×Value)}{d:Nat}{T:TypeId}{pos:String}{af:Array Edge}
variable {κ:Type}[DecidableEq κ]{enc:κ→Value}{kt et tt kt2:TypeId}{t:Ty}{agg:Bool}{F:Nat→Prop}{b:Nat}{m:List (κ×t.den)}
theorem valw0 {op:Op}{v:Value}{w':World}(I:Fr a n ds l)(N:(execOp a.eval ⟨none,op,T,pos,af,none⟩).run P w=.ok (.value v) w')
  (h: ∀a',Fr a' n ds l→WL r P ops Q rest a' w'):WL r P ops Q (⟨none,op,T,pos,af,none⟩::rest) a w:=
 stepw rfl N (fun _ h=>by cases h) fun _ O=>O _ _ (h _ (I.put_none v))
theorem zc_get (zs:List Value)(n q:Nat)(h:q<n*zs.length)(I:0<zs.length):(Builtin.zeroCells zs.toArray n).toList[q]?=zs[q%zs.length]?:=by
 have N:=Jo q I
 simp[Builtin.zeroCells,h,N]
theorem run_clearOwn {t:Ty}{e tt ty:TypeId}{B:Nat}{F:Nat→Prop}{A:Option Addr}{c:Nat}{xs:List t.den}(h:Own t e B w F A c xs)(ht:P.underlying tt=some (.slice e)){z:Value}{zs:List Value}(hz: ∀w,(zeroValue e).run P w=.ok z w)
  (hzc:z.cells=zs.toArray) (N:zs.length=t.size) (h1z: ∀u∈zs,u.oneCell'=true) {z0:t.den} (hz0:t.rep w no zs z0) {u:Nat} (hu:u≤xs.length) (hF: ∀b,F b→b∉obl A):
  ∃w',(Builtin.clear_ #[tt] ty #[.slice (cutA A c u t.size) (xs.length-u) (c-u)]).run P w=.ok (.tuple #[]) w'∧Ch (obl A) w w'∧w'.heap.size=w.heap.size∧Own t e B w' F A c (xs.take u++List.replicate (xs.length-u) z0):=by
 rcases Nat.eq_or_lt_of_le hu with he|hlt
 ·subst he
  refine⟨w,?_,Ch.refl w |>.mono (by simp),rfl,by simpa using h⟩
  rw[Nat.sub_self]
  cases cutA A c xs.length t.size<;>simp[Builtin.clear_,run_underlying ht]
 obtain⟨cells,⟨hl,hrow⟩,h1c,h2⟩:=h
 rcases hrow with⟨hv0,hn⟩|⟨g,cap,cur,hv0,hb,hg,hnc,hcm,hcs,htake⟩
 ·omega
 injection hv0 with hA' _ hc'
 subst hA';subst hc'
 have hpos:=Qal t
 have hl:cells.length=xs.length*t.size:=hl
 have hcur:xs.length*t.size≤cur.size:=by rw[hcs];exact Q9 _ hnc
 have hcell: ∀q,q<xs.length*t.size→cur.toList[q]?=cells[q]?:=fun q hq=>by rw[←htake,Qq hq]
 have hBlk:Blk w g e cur.toList:=by unfold Blk;simpa using hg
 obtain⟨zc,hzcd⟩: ∃zc,zc=(Builtin.zeroCells zs.toArray (xs.length-u)).toList:=⟨_,rfl⟩
 have hzcl:zc.length=(xs.length-u)*t.size:=by rw[hzcd];simp[Builtin.zeroCells,N]
 have hsum:u*t.size+zc.length=xs.length*t.size:=by rw[hzcl,←Xv];congr 1;omega
 have hzq: ∀q,q<zc.length→zc[q]?=zs[q%t.size]?:=fun q hq=>by rw[hzcd,zc_get zs _ q (by rw[N,←hzcl];exact hq) (by omega),N]
 have h1zc: ∀v∈zc,v.oneCell'=true:=fun v hv=>by
  obtain⟨q,hq⟩:=Wp.1 hv
  have:=hzq q (Qc.1 hq).1
  rw[this]at hq;exact h1z v (Qf hq)
 have O:=run_storeCells_at P g (u*t.size) e zc 0 cur w hg (by omega) h1zc
 rw[Yz]at O
 obtain⟨cs',hcs'⟩: ∃cs',cs'=cur.toList.take (u*t.size)++zc++cur.toList.drop (u*t.size+zc.length):=⟨_,rfl⟩
 rw[←hcs']at O
 have hlen':cs'.length=cur.size:=by rw[hcs'];simp;omega
 have hlt2:(xs.take u++List.replicate (xs.length-u) z0).length=xs.length:=by simp;omega
 have hget: ∀q,q<xs.length*t.size→(cs'.take (xs.length*t.size))[q]?=if q<u*t.size then cells[q]? else zc[q-u*t.size]?:=fun q hq=>by
  rw[Qq hq,hcs',Qdk (by simp;omega),hcell q hq]
  split
  ·rfl
  ·rw[if_pos (by omega)]
 have W:Ch (obl (some (⟨g,0,none⟩:Addr))) w (w.setRow g cs'.toArray):=Ch.setRow w g _
 refine⟨w.setRow g cs'.toArray,?_,W,by simp[World.setRow],cs'.take (xs.length*t.size),⟨by rw[hlt2,Qu,hlen',X7 hcur],.inr ⟨g,c,cs'.toArray,by rw[hlt2],hb,?_,by rw[hlt2];exact hnc,hcm,by rw[Yf,hlen',hcs],by rw[hlt2]⟩⟩,?_,?_⟩
 ·have hne:xs.length-u≠0:=by omega
  obtain⟨m,hm⟩: ∃m,xs.length-u=m+1:=⟨xs.length-u-1,by omega⟩
  have hcut:cutA (some (⟨g,0,none⟩:Addr)) c u t.size=some ⟨g,u*t.size,none⟩:=by
   unfold cutA;rw[if_neg (by omega)];simp[Addr.add_lit]
  rw[hcut]
  have hst2:(storeCells ⟨g,u*t.size,none⟩ (Builtin.zeroCells z.cells (xs.length-u)).toList 0).run P w=.ok () (w.setRow g cs'.toArray):=by rw[hzc,←hzcd];exact O
  rw[hm]at hst2 ⊢
  simp[Builtin.clear_,run_underlying ht,hz,hst2]
 ·have:=hBlk.setRow (cs':=cs')
  unfold Blk at this;exact this
 ·intro v hv
  obtain⟨q,hq⟩:=Wp.1 hv
  have hql:q<xs.length*t.size:=by have:=(Qc.1 hq).1;rw[Qu]at this;omega
  rw[hget q hql]at hq
  split at hq
  ·exact h1c v (Qf hq)
  ·exact h1zc v (Qf hq)
 ·intro i x I
  have hil:i<xs.length:=by have:=(Qc.1 I).1;rwa[hlt2]at this
  have his:i*t.size+t.size≤xs.length*t.size:=by
   have:(i+1)*t.size≤xs.length*t.size:=Q9 _ hil
   rwa[Xv,X8]at this
  by_cases hiu:i<u
  ·have hx2:xs[i]?=some x:=by rwa[Q7 (by simp;omega),Qq hiu]at I
   have hiu2:i*t.size+t.size≤u*t.size:=by
    have:(i+1)*t.size≤u*t.size:=Q9 _ hiu
    rwa[Xv,X8]at this
   have e1:((cs'.take (xs.length*t.size)).drop (i*t.size)).take t.size=(cells.drop (i*t.size)).take t.size:=by
    refine Wu fun q=>?_
    rw[Qbs,Qbs]
    split
    ·rw[hget _ (by omega),if_pos (by omega)]
    ·rfl
   rw[e1]
   exact rep_to (h2 i x hx2) W fun b hb _=>⟨hF b hb,hb⟩
  ·have hx0:x=z0:=by
    rw[We (by simp;omega),Xc]at I
    split at I
    ·injection I with I;exact I.symm
    ·cases I
   subst hx0
   have hui:u*t.size≤i*t.size:=Q9 _ (by omega)
   have e1:((cs'.take (xs.length*t.size)).drop (i*t.size)).take t.size=zs:=by
    refine Wu fun q=>?_
    rw[Qbs]
    split
    ·rename_i hq
     rw[hget _ (by omega),if_neg (by omega),hzq _ (by omega)]
     have:i*t.size+q-u*t.size=q+(i-u)*t.size:=by rw[Nat.sub_mul];omega
     rw[this,Nat.add_mul_mod_self_right,Nat.mod_eq_of_lt hq]
    ·rw[Q5 (by omega)]
   rw[e1]
   exact rep_to (F':=F) hz0 W fun _ h _=>h.elim
end
end Go.Z
namespace Go.A
open Go.RowKit Go.Z
section
variable {r:Option Nat}{P:Program}{ops:Array Oper}{Q:Exit→Act→World→Prop}{rest lst:List Oper}{C:Cx}{l:List (Nat×Value)}{H:List (Nat×Res)}{d:Nat}{op:Op}{T:TypeId}{pos:String}{af:Array Edge}
variable {κ:Type}[DecidableEq κ]{enc:κ→Value}{kt et tt kt2:TypeId}{t:Ty}{agg:Bool}{b:Nat}{m:List (κ×t.den)}
end
section
variable {r:Option Nat}{P:Program}{ops:Array Oper}{Q:Exit→Act→World→Prop}{rest lst:List Oper}{C:Cx}{l:List (Nat×Value)}{H:List (Nat×Res)}{d:Nat}{op:Op}{T T2:TypeId}{pos pos2:String}{af af2:Array Edge}
theorem Dat.rep0 {w:World}: ∀(t:Ty) {cs:List Value} {x:t.den},Dat [] t cs x→t.rep w no cs x
 | .int _,_,_,h=>h
 | .byte,_,_,h=>h
 | .bool,_,_,h=>h
 | .str,_,_,h=>h
 | .slice e,cs,xs,h=>by
  rcases h with⟨k,h⟩|⟨I,N⟩
  ·cases h
  ·subst I;subst N;exact Qdg e
 | .pair a b,cs,x,h=>⟨_,_,(Xg a.size cs).symm,Dat.rep0 a h.1,Dat.rep0 b h.2⟩
theorem AL.clr (k:Nat)(js:List Nat){t:Ty}{tt e:TypeId}{x lo:Operand}{A:Option Addr}{c:Nat}{xs:List t.den}{k1:IntKind}{p:Int}{u:Nat}{z:Value}{zs:List Value}(z0:t.den)(hp:p=(u:Int))(h2:u≤xs.length)
  (hz: ∀w,(zeroValue e).run P w=.ok z w) (W:Dat [] t zs z0)
  (h:AL r P ops Q rest C l ((k,.own t e A c (xs.take u++List.replicate (xs.length-u) z0))::ded js H)) (hS: ∀w,(sizeOf e).run P w=.ok t.size w)
  (I:hk H k=some (.own t e A c xs):=by rfl) (hx:ev l x=some (.slice A xs.length c):=by rfl) (hlo:ev l lo=some (.int k1 p):=by rfl) (ht:P.underlying tt=some (.slice e):=by rfl)
  (hzc:z.cells=zs.toArray:=by rfl) (hzl:zs.length=t.size:=by rfl) (h1:zs.all (fun u=>u.oneCell')=true:=by rfl) (hd:Nat.ble (d+1) C.n=true:=by rfl) (hne:(l.any fun q=>Nat.beq q.1 d)=false:=by kernel_rfl) (hj:hng [k] js H=true:=by kernel_rfl):
  AL r P ops Q (⟨some d,.slice tt x (some lo) none none,T,pos,af,none⟩::⟨none,.call {callee:=.builtin .clear,args:=#[.tmp d],argTypes:=#[tt]},T2,pos2,af2,none⟩::rest) C l H:=fun a w hf hh=>by
 have hO:Own t e 0 w (Fh C H) A c xs:=hh.hold k _ I
 have hOi:Own t e 0 w (fun b=>Fh C H b∧b<w.heap.size) A c xs:=by
  obtain⟨cells0,p1,p2,p3⟩:=hO
  exact⟨cells0,p1,p2,fun i x hi=>Qaf t (p3 i x hi)⟩
 have hr0:t.rep w no zs z0:=Dat.rep0 t W
 refine Z.val (v:=.slice (cutA A c u t.size) (xs.length-u) (c-u)) hf hd (Qhs ht hS (hf.eval hx) (hf.eval hlo) hp h2) fun a1 O=>?_
 obtain⟨w',g1,g2,g3,g4⟩:=run_clearOwn (P:=P) (ty:=T2) hOi ht hz hzc hzl (fun u hu=>Qz.1 h1 u hu) hr0 h2 (fun b N hbA=>N.1.1 k ⟨_,I,hbA⟩)
 refine Z.valw0 (w':=w') (v:=.tuple #[]) O ?_ fun a' hf'=>h a' w' ⟨hf'.size,hf'.defs,fun q v hv=>hf'.get q v ?_⟩ (Hp.dd (hh.upd g2 (fun b N=>⟨_,I,N⟩) (fun b N=>.inl ⟨_,I,N⟩) (fun j hj=>by cases hj) fun F B hF _ _ _ _=>g4.more fun b N=>hF b N.1 N.2) hj)
 ·simp only[execOp,resolve,invoke,builtin,Sem.run_bind,Sem.run_pure,Result.andThen_ok,X9,Q3,Xt,O.eval (x:=.tmp d) (Qah l d _),g1]
 ·rw[Qae]
  ·exact hv
  ·intro e;subst e
   have: ∀l:List (Nat×Value),(l.any fun q=>Nat.beq q.1 d)=false→lk l d=none:=by
    intro l
    induction l with
    |nil=>intro _;rfl
    |cons q r ih=>
     intro h
     simp only[Xo,Bool.or_eq_false_iff]at h
     obtain⟨q1,q2⟩:=q
     simp only[lk,h.1,cond_false];exact ih h.2
   rw[this l hne]at hv;cases hv
end
end Go.A
end
section
namespace Go.Z
open Go.RowKit
section
variable {r:Option Nat}{P:Program}{ops:Array Oper}{Q:Exit→Act→World→Prop}{a:Act}{w:World}{rest:List Oper}{n:Nat}{ds:List Deferred}{l:List (Nat×Value)}{d:Nat}{T:TypeId}{pos:String}{af:Array Edge}
end
theorem run_copyN {P:Program}(w:World)(dT sT ty elem:TypeId)(g o dLen dCap:Nat)(a:Addr)(sLen sCap m:Nat)(cur:Array Value)(t:TypeId)(cs:List Value)
  (O:P.underlying dT=some (.slice elem)) (N:(P.info? elem).map (·.size)=some m)
  (W:w.heap[g]?=some (.cells cur t (0,0))) (hn:cs.length=Nat.min sLen dLen*m)
  (hsrc: ∀j v,cs[j]?=some v→w.cell? (a.add j)=some v) (hfit:o+cs.length≤cur.size) (h1: ∀v∈cs,v.oneCell'=true):
  (Builtin.copy_ #[dT,sT] ty #[.slice (some ⟨g,o,none⟩) dLen dCap,.slice (some a) sLen sCap]).run P w=
   .ok (goInt (Nat.min sLen dLen)) (w.setRow g (cur.toList.take o++cs++cur.toList.drop (o+cs.length)).toArray):=by
 have hl:=run_loadCells_list (P:=P) w a cs hsrc
 have I:=run_storeCells_at P g o t cs 0 cur w W (by simpa using hfit) h1
 cases hq:P.info? elem with
 |none=>simp[hq]at N
 |some i=>
  have hi:i.size=m:=by simpa[hq] using N
  simp[Builtin.copy_,run_underlying O,Builtin.lenOf,Builtin.firstCells,sizeOf,typeInfo,hq,hi,←hn,hl,I]
end Go.Z
namespace Go.A
open Go.RowKit Go.Z
section
variable {P:Program}{a:Act}{w:World}{d:Option Tmp}{T tt ty e:TypeId}{pos:String}{af:Array Edge}{n:Nat}{ds:List Deferred}{l:List (Nat×Value)}{x y:Operand}{A:Option Addr}
end
section
variable {C:Cx}{l:List (Nat×Value)}{H:List (Nat×Res)}{X:Act→World→Prop}
end
section
variable {r:Option Nat}{P:Program}{ops:Array Oper}{Q:Exit→Act→World→Prop}{rest lst:List Oper}{C:Cx}{l:List (Nat×Value)}{H:List (Nat×Res)}{d:Nat}{T:TypeId}{pos:String}{af:Array Edge}
end
section
variable {r:Option Nat}{P:Program}{ops:Array Oper}{Q:Exit→Act→World→Prop}{rest lst:List Oper}{C:Cx}{l:List (Nat×Value)}{H:List (Nat×Res)}{d:Nat}{T:TypeId}{pos:String}{af:Array Edge}
end
end Go.A
end
section
set_option linter.tactic.unusedName false
namespace Go.Dr
open Go
def R {α:Type}(n:Nat):Result α→Prop
 | .ok _ w=>n≤w.drawn
 | .halt _ w=>n≤w.drawn
theorem ask {α:Type}: ∀(a:Ask α) (w:World),w.drawn≤(w.ask a).2.drawn
 | .done a,w=>Q1 _
 | .ask what range k,w=>by
  unfold World.ask
  dsimp only
  split
  ·exact ask _ w
  ·exact Wh (Nat.le_succ _) (ask _ {w with drawn:=w.drawn+1})
theorem sys (w:World)(c:Sys):w.drawn≤(w.sys c).2.drawn:=by
 unfold World.sys
 have h:=ask (Kernel.perform c w.os) w
 split
 ·exact Q1 _
 ·rename_i e;rw[e]at h;exact h
def EP {ε α:Type}(P:α→Prop)(x:Except ε α):Prop:=∀a,x=.ok a→P a
theorem eb {ε α β:Type}{P:β→Prop}{x:Except ε α}{f:α→Except ε β}(h: ∀a,EP P (f a)):EP P (x >>= f):=fun b I=>by
 cases x with
 |error e=>cases I
 |ok a=>exact h a b I
theorem et {α:Type}{P:α→Prop}{e:String}:EP P (MonadExcept.throw e:Except String α):=fun _ h=>by cases h
theorem ep {ε α:Type}{P:α→Prop}{a:α}(h:P a):EP P (pure a:Except ε α):=fun b I=>by injection I with I;subst I;exact h
theorem vs0 (w:World)(p:Program)(at_:Addr)(u:TypeId)(a:Addr)(v:Value)(b:Bool):EP (fun r=>r.1.drawn=w.drawn) (w.viewStore p at_ u a v b):=by
 unfold World.viewStore
 dsimp only
 repeat' first|exact et|exact ep rfl|(refine eb fun _=>?_)|split|dsimp only
theorem vs {w w':World}{p:Program}{at_:Addr}{u:TypeId}{a:Addr}{v:Value}{b:Bool}{l:List Addr}(h:w.viewStore p at_ u a v b=.ok (w',l)):w'.drawn=w.drawn:=vs0 w p at_ u a v b _ h
theorem fs {w w':World}{p:Program}{a:Addr}{v:Value}{b:Bool}{l:List Addr}(h:w.farStore p a v b=.ok (w',l)):w'.drawn=w.drawn:=by
 unfold World.farStore at h
 split at h
 ·split at h
  ·rename_i e;injection h with h;subst h;exact vs e
  ·cases h
 ·cases h
theorem run {α:Type}(p:Program)(n:Nat): ∀(s:Sem α) (w:World),n≤w.drawn→R n (s.run p w):=by
 intro s
 induction s with
 |pure a=>intro w h;exact h
 |load m a k I=>
  intro w h;unfold Sem.run
  split
  ·exact I _ w h
  ·(split)
   ·exact I _ w h
   ·exact h
 |store m a v k I=>
  intro w h
  cases v
  all_goals
   unfold Sem.run
   first|exact h|skip
  all_goals
   split
   ·(split)
    ·exact h
    ·exact I _ h
   ·(split)
    ·rename_i e;exact I _ (by rw[fs e];exact h)
    ·exact h
 |choose q k I=>
  intro w h;unfold Sem.run
  split
  ·exact I _ w h
  ·exact I _ _ (Nat.le_succ_of_le h)
 |sys c k I=>intro w h;unfold Sem.run;exact I _ _ (Wh h (sys w c))
 |new o k I=>intro w h;unfold Sem.run;exact I _ _ h
 |shape r k I=>intro w h;unfold Sem.run;exact I _ _ h
 |freeze a n k I=>intro w h;unfold Sem.run;refine I _ ?_;unfold World.freeze;((repeat' split)<;>(exact h))
 |frozen a k I=>intro w h;unfold Sem.run;exact I _ _ h
 |getObj r k I=>intro w h;unfold Sem.run;((repeat' split)<;>(first|exact h|exact I _ _ h))
 |setObj r o k I=>intro w h;unfold Sem.run;((repeat' split)<;>(first|exact h|exact I _ h))
 |program k I=>intro w h;unfold Sem.run;exact I _ _ h
 |mark m k I=>intro w h;unfold Sem.run;exact I _ h
 |halt x=>intro w h;exact h
theorem runT {α:Type}(p:Program)(n:Nat)(s:Sem α)(w:World)(es:Array Event)(h:n≤w.drawn):R n (s.runT p w es).1:=by
 induction s generalizing w es with
 |pure a=>exact h
 |halt x=>exact h
 |choose q k I=>
  unfold Sem.runT
  split
  ·exact I _ w _ h
  ·exact I _ _ _ (Nat.le_succ_of_le h)
 |sys c k I=>unfold Sem.runT;exact I _ _ _ (Wh h (sys w c))
 |freeze a n k I=>unfold Sem.runT;refine I _ _ ?_;unfold World.freeze;((repeat' split)<;>(exact h))
 |store m a v k I=>
  cases v
  all_goals
   unfold Sem.runT
   first|exact h|skip
  all_goals
   split
   ·(split)
    ·exact h
    ·exact I _ _ h
   ·(split)
    ·rename_i e;exact I _ _ (by rw[fs e];exact h)
    ·exact h
 |_=>
  unfold Sem.runT
  repeat' split
  all_goals first|exact h|(rename_i I;exact I _ _ _ h)|(rename_i I;exact I _ _ h)|(rename_i I _;exact I _ _ _ h)|(rename_i I _;exact I _ _ h)|(rename_i I _ _;exact I _ _ _ h)|(rename_i I _ _;exact I _ _ h)|(rename_i I _ _ _;exact I _ _ _ h)|(rename_i I _ _ _;exact I _ _ h)|(rename_i I _ _ _ _;exact I _ _ _ h)|(rename_i I _ _ _ _;exact I _ _ h)|(rename_i I _ _ _ _ _;exact I _ _ _ h)|(rename_i I _ _ _ _ _ _;exact I _ _ _ h)
def G (n:Nat):GStep→Prop
 | .go _ w _| .comm _ _ _ _ w _| .spawn _ _ w _| .count _ w _| .timer _ _ w _| .alone _ _ w _| .newcoro _ _ _ w _| .coroswitch _ _ _ w _| .collect _ w _| .watch _ w _=>n≤w.drawn
 | .ended _ _ _=>True
theorem after {n:Nat}{es:Array Event}{g:GStep}(h:G n g):G n (g.after es):=by cases g<;>exact h
variable {p:Program}{n:Nat}{w:World}
theorem ro {α:Type}{s:Sem α}{v:α}{w':World}(e:s.run p w=.ok v w')(h:n≤w.drawn):n≤w'.drawn:=by have:=run p n s w h;rw[e]at this;exact this
theorem rh {α:Type}{s:Sem α}{v:Halt}{w':World}(e:s.run p w=.halt v w')(h:n≤w.drawn):n≤w'.drawn:=by have:=run p n s w h;rw[e]at this;exact this
theorem gi {c:Prop}[Decidable c]{a b:GStep}(I:G n a)(N:G n b):G n (if c then a else b):=by split<;>assumption
theorem rto {α:Type}{s:Sem α}{v:α}{w':World}{es es':Array Event}(e:s.runT p w es=(.ok v w',es'))(h:n≤w.drawn):n≤w'.drawn:=by have:=runT p n s w es h;rw[e]at this;exact this
theorem rtr {α:Type}{s:Sem α}{r:Result α}{es es':Array Event}(e:s.runT p w es=(r,es'))(h:n≤w.drawn):R n r:=by have:=runT p n s w es h;rw[e]at this;exact this
theorem rth {α:Type}{s:Sem α}{v:Halt}{w':World}{es es':Array Event}(e:s.runT p w es=(.halt v w',es'))(h:n≤w.drawn):n≤w'.drawn:=by have:=runT p n s w es h;rw[e]at this;exact this
theorem endThrow (fr:Frame)(m:String)(h:n≤w.drawn):G n (Go.endThrow fr m w):=h
theorem endPrinting (fr:Frame)(v:Value)(h:n≤w.drawn):G n (Go.endPrinting p fr v w):=by
 unfold Go.endPrinting;dsimp only;split
 ·exact h
 ·trivial
theorem endWith (fd:Nat)(t:ByteArray)(o:Outcome):G n (Go.endWith w fd t o):=by
 unfold Go.endWith;dsimp only;((repeat' split)<;>(trivial))
theorem endFatal (fr:Frame)(cs:List Frame)(d:Option Dying)(m:String)(h:n≤w.drawn):G n (Go.endFatal p fr cs d m w):=by
 unfold Go.endFatal;extract_lets
 split
 ·rename_i e;exact ro e h
 ·trivial
 ·trivial
theorem writeOn (fr:Frame)(d:Dying)(f:Fatal)(h:n≤w.drawn):G n (Go.writeOn p fr d f w):=by
 unfold Go.writeOn;extract_lets
 split
 ·trivial
 ·extract_lets
  split
  all_goals first|trivial|(rename_i e;exact rto e h)|(rename_i e;exact rth e h)
theorem die (fr:Frame)(d:Dying)(h:n≤w.drawn):G n (Go.die p fr d w):=by
 unfold Go.die
 split
 ·exact writeOn _ _ _ h
 ·(split)
  ·(split)
   ·exact h
   ·exact endWith _ _ _
  ·extract_lets d2
   split
   ·exact h
   ·(split)
    ·rename_i e;exact ro e h
    ·trivial
   ·rename_i t recv name _
    have I:=runT p n (invoke (.fn (.method name) #[]) #[.iface t recv]) w #[] h
    split
    rename_i r es e
    rw[e]at I
    refine after ?_
    split
    all_goals first|trivial|exact I|exact endPrinting _ _ I
   ·trivial
theorem doReturn (main:Bool)(fr:Frame)(cs:List Frame)(d:Option Dying)(v:Value)(h:n≤w.drawn):G n (Go.doReturn p main fr cs d v w):=by
 unfold Go.doReturn
 repeat' split
 all_goals first|trivial|exact h
theorem callDeferred (fr:Frame)(cs:List Frame)(dy:Option Dying)(d:Deferred)(h:n≤w.drawn):G n (Go.callDeferred p fr cs dy d w):=by
 unfold Go.callDeferred
 refine gi trivial ?_
 ·have I:=runT p n (invoke d.target d.args) w #[] h
  split
  rename_i r es e
  rw[e]at I
  extract_lets
  refine after ?_
  split
  all_goals first|trivial|exact I|exact endFatal _ _ _ _ I|exact endThrow _ _ I|(split<;>first|trivial|exact I)
theorem unwind (main:Bool)(fr:Frame)(cs:List Frame)(dy:Option Dying)(h:n≤w.drawn):G n (Go.unwind p main fr cs dy w):=by
 unfold Go.unwind
 split
 ·rename_i block _ _ _
  have I:=runT p n (Instr.takeDeferred block) w #[] h
  split
  rename_i r es e
  rw[e]at I
  refine after ?_
  split
  ·exact I
  ·trivial
 ·exact callDeferred _ _ _ _ h
 ·(split)
  ·trivial
  ·(split)
   ·trivial
   ·(split)
    ·exact h
    ·(split)
     ·(split)
      ·exact h
      ·(split)
       ·rename_i e;exact ro e h
       ·trivial
       ·trivial
     ·(split)
      ·exact endPrinting _ _ h
      ·trivial
  ·(split)
   ·exact doReturn _ _ _ _ _ h
   ·rename_i fn _
    have I:=runT p n (results fn fr.tmps) w #[] h
    split
    rename_i r es e
    rw[e]at I
    refine after ?_
    split
    ·exact doReturn _ _ _ _ _ I
    ·trivial
    ·trivial
theorem early (fr:Frame)(cs:List Frame)(dy:Option Dying)(g:Nat)(h:n≤w.drawn):G n (Go.early p fr cs dy g w):=by
 unfold Go.early;extract_lets refuse notYet
 have N: ∀w:World,n≤w.drawn→G n (notYet w):=fun w h=>by
  show G n (match w.heap[g]? with|some (.pending c elem)=>_|_=>_)
  split
  ·exact h
  ·trivial
 split
 ·exact N w h
 ·(split)
  ·trivial
  ·extract_lets there
   have I: ∀w:World,n≤w.drawn→G n (there w):=fun w h=>h
   repeat' split
   all_goals first|trivial|exact N w h|exact I w h|(rename_i e;exact N _ (ro e h))|(rename_i e;exact I _ (ro e h))|(rename_i e _;exact I _ (ro e h))|(rename_i _ e;exact I _ (ro e h))
theorem oe {α:Type}{o:Option α}{a:GStep}{f:α→GStep}(I:G n a)(N: ∀x,G n (f x)):G n (o.elim a f):=by cases o with
 |none=>exact I
 |some x=>exact N x
theorem app (listen:Bool)(fr:Frame)(cs:List Frame)(dy:Option Dying)(s:Sem Next)(h:n≤w.drawn):G n (Go.stepG.apply p listen fr cs dy s w):=by
 unfold Go.stepG.apply
 extract_lets
 have I:R n (if listen=true then s.runT p w #[]else(s.run p w,#[])).1:=by
  split
  ·exact runT p n s w #[] h
  ·exact run p n s w h
 split
 rename_i r es e
 rw[e]at I
 extract_lets
 refine after ?_
 split
 all_goals first|trivial|exact I|exact endFatal _ _ _ _ I|exact endThrow _ _ I|exact early _ _ _ _ I|(split<;>first|trivial|exact I|(exact gi (endThrow _ _ I) I))|exact gi (endThrow _ _ I) I
theorem oper (listen:Bool)(fr:Frame)(cs:List Frame)(dy:Option Dying)(h:n≤w.drawn):G n (Go.stepG.oper p listen fr cs dy w):=by
 unfold Go.stepG.oper
 repeat' split
 all_goals first|trivial|exact app _ _ _ _ _ h
theorem exec (main listen:Bool)(fr:Frame)(cs:List Frame)(dy:Option Dying)(h:n≤w.drawn):G n (Go.stepG.exec p main listen fr cs dy w):=by
 unfold Go.stepG.exec
 extract_lets go tgo lost leave
 have O: ∀fr w,n≤w.drawn→G n (go fr w):=fun _ _ h=>h
 have I: ∀k,G n (tgo k):=fun k=>h
 have hlost: ∀k,G n (lost k):=fun k=>trivial
 have hleave: ∀j,G n (leave j):=fun j=>by
  unfold leave
  split
  ·refine gi h trivial
  ·(split)
   rename_i r es e
   have N:=rtr e h
   refine after ?_
   split
   ·exact doReturn _ _ _ _ _ N
   ·trivial
 split
 case h_1=>exact hleave none
 case h_2=>exact hleave (some .ret)
 case h_13=>exact oe (hleave (some (.exit _))) I
 case h_14=>exact oe (hleave (some (.goto _))) I
 all_goals first
  |exact I _|trivial|exact app _ _ _ _ _ h|exact hlost _
  |(split<;>first|exact I _|exact hlost _)
  |(refine gi (I _) ?_;split<;>first|trivial|(rename_i e;exact ro e h))
  |(refine gi (oper _ _ _ _ h) ?_;exact h)
  |exact oe (hlost _) fun _=>app _ _ _ _ _ h
  |(split;rename_i r es e;have N:=rtr e h;refine after ?_;split<;>first|trivial|exact N|exact app _ _ _ _ _ N)
theorem stepG (main listen:Bool)(g:Goroutine)(h:n≤w.drawn):G n (Go.stepG p main g w listen):=by
 unfold Go.stepG
 split
 split
 ·exact die _ _ h
 ·exact exec _ _ _ _ _ h
 ·exact unwind _ _ _ _ h
def S (n:Nat):Stepped→Prop
 | .next m=>n≤m.world.drawn
 | .ended _ _=>True
theorem si {c:Prop}[Decidable c]{a b:Stepped}(I:S n a)(N:S n b):S n (if c then a else b):=by split<;>assumption
theorem si1 {α:Type}{c:Prop}[Decidable c]{a b:Stepped×α}(I:S n a.1)(N:S n b.1):S n (if c then a else b).1:=by split<;>assumption
theorem waitingAt {rest:Rest}{cs:Array CommCase}{w w':World}(h:Go.waitingAt rest cs w=some w'):w'.drawn=w.drawn:=by
 unfold Go.waitingAt at h
 split at h
 ·split at h
  ·injection h with h;subst h;rfl
  ·cases h
 ·injection h with h;subst h;rfl
theorem comm (rest:Rest)(gs:Array Goroutine)(i:Nat)(g:Goroutine)(cases:Array CommCase)(b:Bool)(sh:CommShape)(h:n≤w.drawn):S n (communicate p rest gs i g cases b sh w).1:=by
 unfold communicate
 extract_lets put
 refine si1 trivial ?_
 extract_lets ready
 refine si1 ?_ ?_
 ·refine si1 ?_ h
  split
  ·rename_i e;show n≤World.drawn _;rw[waitingAt e];exact h
  ·trivial
 ·extract_lets pick
  split
  ·trivial
  ·rename_i e
   have I:=ro e h
   extract_lets r
   split
   ·(split)
    ·rename_i e2;exact rh e2 I
    ·trivial
   ·exact I
   ·exact I
   ·extract_lets v buf
    split
    ·exact I
    ·(split)
     ·rename_i e3;have N:=ro e3 I;exact N
     ·trivial
   ·exact I
   ·exact I
   ·trivial
theorem look (gs:Array Goroutine)(rest:Rest)(h:n≤w.drawn):S n (Go.look p gs rest w):=by
 unfold Go.look
 split
 ·(split)
  extract_lets
  refine si trivial ?_
  extract_lets
  split
  ·trivial
  ·extract_lets
   split
   ·rename_i e;have I:=ro e h;exact I
   ·trivial
   ·trivial
 ·trivial
theorem drain (w:World)(c:Nat):(Go.drain w c).2.drawn=w.drawn:=by
 unfold Go.drain;split<;>rfl
theorem retime (m:Machine)(k:Nat)(t:Timer)(a b:Nat):(Go.retime m k t a b).2.world.drawn=m.world.drawn:=by
 unfold Go.retime
 split
 rename_i e
 split at e
 ·rename_i c _
  have:=drain m.world c
  rw[e]at this;exact this
 ·injection e with _ e;subst e;rfl
theorem named (m:Machine)(v:Addr)(f:Nat→Timer→Value×Machine){d:Nat}(I: ∀k t,(f k t).2.world.drawn=d){r:Value×Machine}(e:timerOp.named m v f=.ok r):r.2.world.drawn=d:=by
 unfold timerOp.named at e
 split at e
 ·injection e with e;subst e;exact I _ _
 ·cases e
theorem opened {m m':Machine}{v:Addr}(e:timerOp.opened m v=some m'):m'.world.drawn=m.world.drawn:=by
 unfold timerOp.opened at e
 split at e
 ·split at e
  ·injection e with e;subst e;rfl
  ·cases e
 ·injection e with e;subst e;rfl
theorem timer (m:Machine)(op:TimerOp){r:Value×Machine}(e:timerOp m op=.ok r):r.2.world.drawn=m.world.drawn:=by
 unfold timerOp at e
 split at e
 ·split at e
  ·injection e with e;subst e;rfl
  ·split at e
   ·split at e
    ·cases e
    ·injection e with e;subst e;rfl
   ·cases e
 ·exact named _ _ _ (fun _ _=>retime _ _ _ _ _) e
 ·split at e
  ·rename_i I e1
   exact(named _ _ _ (fun _ _=>retime _ _ _ _ _) e).trans (opened e1)
  ·cases e
 ·injection e with e;subst e;rfl
theorem commr {rest:Rest}{gs:Array Goroutine}{i:Nat}{g:Goroutine}{cases:Array CommCase}{b:Bool}{sh:CommShape}{r:Stepped}{ops:Array MemOp}(e:communicate p rest gs i g cases b sh w=(r,ops))(h:n≤w.drawn):S n r:=by have:=comm (p:=p) rest gs i g cases b sh h;rw[e]at this;exact this
theorem et1 {fr:Frame}{m:String}{g:GStep}(e:Go.endThrow fr m w=g)(h:n≤w.drawn):G n g:=e▸endThrow fr m h
theorem runM (m:Machine)(i:Nat)(listen:Bool)(h:n≤m.world.drawn):S n (Go.runT p m i listen).1:=by
 unfold Go.runT
 extract_lets rest world
 split
 extract_lets wake fn pos s ops done
 have N: ∀r,(done r).1=r:=fun _=>rfl
 have I:G n s:=stepG _ _ _ h
 clear_value s
 split
 ·trivial
 ·(split)
  rename_i e
  exact commr e I
 all_goals first|exact I|exact si trivial I|exact look _ _ I|skip
 ·rw[N]
  split
  ·exact I
  ·(split)
   ·rename_i e;exact et1 e I
   ·trivial
  ·trivial
 ·rw[N]
  split
  ·rename_i e;have O:=timer _ _ e;exact Wh I (Nat.le_of_eq O.symm)
  ·(split)
   ·rename_i e;exact et1 e I
   ·trivial
  ·trivial
  ·trivial
theorem serve (m:Machine)(k:Nat)(h:n≤m.world.drawn):S n (Go.serve p m k):=by
 unfold Go.serve
 split
 ·trivial
 ·exact h
 ·extract_lets
  split
  ·trivial
  ·exact h
def M (n:Nat):Move→Prop
 | .goroutine m _=>n≤m.world.drawn
 | .machine s _=>S n s
theorem askOn (m:Machine)(h:n≤m.world.drawn):M n (Go.askOn p m):=by
 unfold Go.askOn
 extract_lets mono rs ds pick
 have hp: ∀m:Machine,n≤m.world.drawn→M n (pick m):=fun m h=>by
  simp only[pick]
  split
  ·trivial
  ·rename_i e;have I:=ro e h
   split
   ·exact I
   ·(split)
    ·trivial
    ·rename_i e2;exact ro e2 I
 clear_value pick
 split
 ·trivial
 ·rename_i e;have I:=ro e h
  extract_lets O
  clear_value rs
  split
  ·exact serve _ _ I
  ·cases rs with
   |nil=>
    dsimp only
    split
    ·exact I
    ·(split)
     ·exact I
     ·split<;>trivial
   |cons a l=>
    dsimp only
    split
    ·exact hp _ I
    ·(split)
     ·trivial
     ·rename_i e3;exact hp _ (ro e3 I)
     ·rename_i e3;have N:=ro e3 I;exact N
     ·rename_i e3;have N:=ro e3 I;exact hp _ N
theorem ask2 (m:Machine)(h:n≤m.world.drawn):M n (Go.ask p m):=by
 unfold Go.ask
 split
 ·(split)
  ·trivial
  ·rename_i e;have I:=look (p:=p) m.gs m.rest (ro e h)
   split
   ·rename_i e2;rw[e2]at I;exact askOn _ I
   ·exact I
  ·rename_i e;exact askOn _ (ro e h)
 ·exact askOn _ h
theorem move (m:Machine)(h:n≤m.world.drawn):M n (Go.move p m):=by
 unfold Go.move
 split
 ·(split)
  ·exact h
  ·trivial
 ·(split)
  ·(split)
   ·exact h
   ·exact ask2 _ h
  ·exact ask2 _ h
theorem step (m:Machine)(h:n≤m.world.drawn):S n (Go.step p m):=by
 unfold Go.step stepT
 have:=move (p:=p) m h
 split
 ·rename_i e;rw[e]at this;exact runM _ _ _ this
 ·rename_i e;rw[e]at this;exact this
theorem runN: ∀(k:Nat) (m m':Machine),Go.runN p k m=.next m'→n≤m.world.drawn→n≤m'.world.drawn
 |0,m,m',e,h=>by injection e with e;subst e;exact h
 |k+1,m,m',e,h=>by
  have I:=step (p:=p) m h
  unfold Go.runN at e
  split at e
  ·rename_i e1;rw[e1]at I;exact runN k _ _ e I
  ·rename_i N;exact absurd e (N _)
theorem steps {m m':Machine}(h:Steps p m m'):m.world.drawn≤m'.world.drawn:=by
 obtain⟨k,hk⟩:=h
 exact runN k m m' hk (Q1 _)
theorem calls {f:FuncId}{args:Array Value}{w:World}{Q:Ending→World→Prop}(h:Calls p f args w Q):Calls p f args w fun e w'=>Q e w'∧∀v,e=.returned v→w.drawn≤w'.drawn:=fun cs=>by
 obtain⟨e,w',fr,hq,I,N,O⟩:=h cs
 refine⟨e,w',fr,⟨hq,fun v W=>?_⟩,I,N,O⟩
 subst W
 exact steps I
end Go.Dr
end
