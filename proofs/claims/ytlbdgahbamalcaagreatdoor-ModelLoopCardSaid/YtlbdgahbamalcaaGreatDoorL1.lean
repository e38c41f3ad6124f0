import Derived.Test.YtlbdgahbamalcaaGreatDoorL0
import Derived.Shelf.Unicode.ValidAny
set_option linter.unusedVariables false
set_option linter.unusedSimpArgs false
set_option linter.unusedSectionVars false
set_option maxRecDepth 20000
section
namespace Go.A
open Go.RowKit Go.Z
def ix {α:Type}(xs:List α)(i:Int):Option α:=if i<0 then none else xs[i.toNat]?
theorem Qaz {α:Type}{xs:List α}{i:Int}{x:α}(h:ix xs i=some x): ∃k:Nat,i=(k:Int)/\xs[k]?=some x:=by
 unfold ix at h
 split at h
 ·cases h
 ·exact⟨i.toNat,by omega,h⟩
def knb (H:List (Nat×Res)):List Nat->List (Nat×TypeId×List Value)
 | []=>[]
 |k::ks=>match hk H k with
  |some (.blk g e cs)=>(g,e,cs)::knb H ks
  |_=>knb H ks
def kne (H:List (Nat×Res)):List Nat->List (Addr×List Value)
 | []=>[]
 |k::ks=>match hk H k with
  |some (.el _ b o cs)=>(⟨b,o,none⟩,cs)::kne H ks
  |_=>kne H ks
theorem o_cU {C:Cx}{H:List (Nat×Res)}{w:World}(h:Hp C H w)(bs es:List Nat):Kn.ok ⟨knb H bs,kne H es⟩ w:=by
 refine⟨?_,?_⟩
 ·induction bs with
  |nil=>intro b hb;cases hb
  |cons k ks ih=>
   intro b hb;unfold knb at hb
   split at hb
   ·rename_i g e cs hg
    rcases Qk.1 hb with rfl|hb
    ·exact h.hold k _ hg
    ·exact ih b hb
   ·exact ih b hb
 ·induction es with
  |nil=>intro b hb;cases hb
  |cons k ks ih=>
   intro b hb;unfold kne at hb
   split at hb
   ·rename_i j g o cs hg
    rcases Qk.1 hb with rfl|hb
    ·exact(h.hold k _ hg).1
    ·exact ih b hb
   ·exact ih b hb
section
variable {r:Option Nat}{P:Program}{ops:Array Oper}{Q:Exit->Act->World->Prop}{rest lst:List Oper}{C:Cx}{l:List (Nat×Value)}{H:List (Nat×Res)}{d:Nat}{op:Op}{T:TypeId}{pos:String}{af:Array Edge}
theorem AL.q (bs es:List Nat)(hs:List Hint)(ks:List Nat)(cs:List Prop)(nl:List (Nat×Value))(hc:conj cs)(h:AL r P ops Q (lst.drop hs.length) C (cat nl l) H)
  (hq:((qs P ⟨knb H bs,kne H es⟩ C.n ops hs lst (q0 l)).bind (qfin l ks))=some (cs,nl):=by kernel_rfl)
  (he:(qs P ⟨knb H bs,kne H es⟩ C.n ops hs lst (q0 l)).map (fun s=>s.q.map Prod.fst)=(qs P ⟨knb H bs,kne H es⟩ C.n ops hs lst (q0 l)).map (fun s=>s.q.map Prod.snd):=by kernel_rfl):AL r P ops Q lst C l H:=fun a w hf hh=>
 Z.qr hs ks cs nl (o_cU hh bs es) hf (fun a' hf'=>h a' w hf' hh) hc hq he
theorem AL.val {v:Value}(hd:Nat.ble (d+1) C.n=true)(hr: ∀a w,Fr a C.n C.ds l->Hp C H w->(execOp a.eval ⟨some d,op,T,pos,af,none⟩).run P w=.ok (.value v) w)(h:AL r P ops Q rest C ((d,v)::l) H):AL r P ops Q (⟨some d,op,T,pos,af,none⟩::rest) C l H:=
 fun a w hf hh=>Z.val hf hd (hr a w hf hh) fun a' hf'=>h a' w hf' hh
theorem AL.on {dst:Option Tmp}{j dj:Nat}{b:Bool}(hj:(ops[j]?).bind (·.dst)=some dj)(hb:lk l dj=some (.bool b))(h:AL r P ops Q (⟨dst,op,T,pos,af,none⟩::rest) C l H):AL r P ops Q (⟨dst,op,T,pos,af,some (j,b)⟩::rest) C l H:=
 fun a w hf hh=>Z.on hf hj hb (h a w hf hh)
theorem AL.cnd {ρ:Type}{A B R:Option ρ}{j:Nat}{b:Bool}(hb:lk l j=some (.bool b))(hF:(if b=true then A else B)=R)(ht:A=R->AL r P ops Q rest C ((j,.bool true)::l) H)(he:B=R->AL r P ops Q rest C ((j,.bool false)::l) H):AL r P ops Q rest C l H:=fun a w hf hh=>by
 cases b with
 |true=>rw[Qj rfl]at hF;exact ht hF a w (hf.cons hf hb) hh
 |false=>rw[Qd (by simp)]at hF;exact he hF a w (hf.cons hf hb) hh
theorem AL.cnp {ρ:Type}{A B R:Option ρ}{j:Nat}{p:Prop}[Decidable p](hb:lk l j=some (.bool (decide p)))(hF:(if p then A else B)=R)(ht:p->A=R->AL r P ops Q rest C ((j,.bool true)::l) H)(he: ¬p->B=R->AL r P ops Q rest C ((j,.bool false)::l) H):AL r P ops Q rest C l H:=fun a w hf hh=>by
 by_cases hp:p
 ·rw[Qj hp]at hF;exact ht hp hF a w (hf.cons hf (by rw[hb,Wc hp])) hh
 ·rw[Qd hp]at hF;exact he hp hF a w (hf.cons hf (by rw[hb,Xc hp])) hh
theorem Qcl {K K':Lf->Prop}: ∀{n:Nat},(∀ps,K ps->K' ps)->tele n K->tele n K'
 |0,h,hk=>h [] hk
 |n+1,h,hk=>fun A c=>Qcl (fun ps=>h ((A,c)::ps)) (hk A c)
theorem AL.ixc {t:Ty}{A:Option Addr}{c kn:Nat}{xs:List t.den}{ko:Option Nat}{x y:Operand}{i:Int}{kd:IntKind}{v:t.den}{e tt:TypeId}
  (hrow: ∀w,Hp C H w->∃G:Nat->Prop,Row t w (Fh C H) G A c xs/\∀b,G b->match ko with|none=>∀k,¬Bk H k b|some k=>Bk H k b)
  (hko: ∀j,ko=some j->∀r,hk H j=some r->r.ref=none) (hx:ev l x=some (.slice A xs.length c)) (hy:ev l y=some (.int kd i)) (hi:ix xs i=some v) (ht:P.underlying tt=some (.slice e)) (hs:szB P e=some t.size)
  (h:t.ok v->tele (lv t) fun ps=>∀b o,(∃w,Hp C H w/\A=some ⟨b,o,none⟩)->AL r P ops Q rest C ((d,.pointer (some ⟨b,o+i.toNat*t.size,none⟩))::l) (hcat (kx (kn+1) (rs t v ps)) ((kn,.el ko b (o+i.toNat*t.size) (cl t v ps))::H)))
  (hd:Nat.ble (d+1) C.n=true) (hn: ∀ps:Lf,ps.length=lv t->nok H kn (1+(rs t v ps).length)=true):AL r P ops Q (⟨some d,.indexAddr tt x y,T,pos,af,none⟩::rest) C l H:=fun a w hf hh=>by
 obtain⟨k,rfl,hv⟩:=Qaz hi
 obtain⟨G,hR,hG⟩:=hrow w hh
 obtain⟨b,o,es,hA,hb,hbl,hc,hr⟩:=hR.at hv
 obtain⟨ps,hl,rfl,hrs⟩:=rep_cl (B:=Bk H) t (Qac t hr)
 have hlt:=(Qb.1 hv).1
 have hn':=hn ps hl
 have hnk:hk H kn=none:=Qbn hn' (Qo _) (by omega)
 have h1:Hp C ((kn,.el ko b (o+k*t.size) (cl t v ps))::H) w:=hh.add hnk rfl (fun j hj r hr=>hko j hj r hr) ⟨hc,hbl,by
  have:=hG b hb
  cases ko<;>exact this⟩
 have hnn: ∀n k',nok H k' n=true->(∀j,k'<=j->j<k'+n->j≠kn)->nok ((kn,.el ko b (o+k*t.size) (cl t v ps))::H) k' n=true:=by
  intro n
  induction n with
  |zero=>intro _ _ _;rfl
  |succ n ih=>
   intro k' h2 h3
   simp only[nok,Qe]at h2 ⊢
   refine⟨?_,ih (k'+1) h2.2 fun j h4 h5=>h3 j (by omega) (by omega)⟩
   rw[Qab,Qd (Ne.symm (h3 k' (Qo _) (by omega)))];exact h2.1
 have hn2:nok H (kn+1) (rs t v ps).length=true:=by
  rw[Ye 1]at hn'
  simp only[nok,Qe]at hn';exact hn'.2
 have h2:Hp C (hcat (kx (kn+1) (rs t v ps)) ((kn,.el ko b (o+k*t.size) (cl t v ps))::H)) w:=by
  refine h1.adds (hnn _ _ hn2 fun j h4 _=>by omega) fun r2 h4=>?_
  obtain⟨h5,h6,h7⟩:=hrs r2 h4
  have hbk: ∀j b',Bk ((kn,.el ko b (o+k*t.size) (cl t v ps))::H) j b'↔Bk H j b':=fun j b'=>by
   by_cases hj:j=kn
   ·subst hj
    rw[Bk.cons_eq]
    exact⟨fun h=>by simp[Res.bl]at h,fun⟨_,h8,_⟩=>by rw[hnk]at h8;cases h8⟩
   ·exact Bk.cons_ne hj
  exact⟨h6,h7,Res.to h5 (S:=[]) (Ch.refl w) (fun b' hF _=>⟨by simp,⟨fun j hj=>hF.1.1 j ((hbk j b').1 hj),hF.1.2⟩,hF.2⟩) (fun b' hB _=>⟨by simp,fun j hj=>hB j ((hbk j b').1 hj)⟩) (fun i b' _ hB=>⟨by simp,(hbk i b').2 hB⟩) (by simp)⟩
 subst hA
 refine Z.val (v:=.pointer (some ⟨b,o+k*t.size,none⟩)) hf hd ?_ fun a' hf'=>Qau (h (rep_ok t hr)) ps hl b o ⟨w,hh,rfl⟩ a' w hf' h2
 have:=r_indexAddrA (P:=P) (w:=w) (d:=some d) (T:=T) (pos:=pos) (af:=af) (gd:=none) ht (Qah hs) (hf.eval hx) rfl (hf.eval hy) rfl hlt
 rw[Addr.add_lit]at this
 exact this
theorem Qcb: ∀(t:Ty) (v:t.den) (ps:Lf),ps.length=lv t->(rs t v ps).length=lv t
 | .int _,_,_,_=>rfl
 | .byte,_,_,_=>rfl
 | .bool,_,_,_=>rfl
 | .str,_,_,_=>rfl
 | .slice _,_,[p],_=>rfl
 | .slice _,_,[],h=>by cases h
 | .slice _,_,_::_::_,h=>by simp[lv]at h
 | .pair a b,v,ps,h=>by
  simp only[rs,Wg]
  simp only[lv]at h
  rw[Qcb a v.1 _ (by rw[Qw];omega),Qcb b v.2 _ (by rw[Wy];omega)];rfl
theorem rowS {k:Nat}{t:Ty}{A:Option Addr}{c:Nat}{xs:List t.den}(h:hk H k=some (.sh (.slice t) [.slice A xs.length c] xs))(w:World)(hh:Hp C H w): ∃G:Nat->Prop,Row t w (Fh C H) G A c xs/\∀b,G b->∀k,¬Bk H k b:=
 ⟨Fh C H,Row.of (hh.hold k _ h),fun _ hb=>hb.1⟩
theorem rowL {k:Nat}{t:Ty}{A:Option Addr}{c:Nat}{xs:List t.den}(h:hk H k=some (.ln t A c xs))(w:World)(hh:Hp C H w): ∃G:Nat->Prop,Row t w (Fh C H) G A c xs/\∀b,G b->∀k,¬Bk H k b:=
 ⟨_,hh.hold k _ h,fun _ hb=>hb⟩
theorem rowO {k:Nat}{t:Ty}{e:TypeId}{A:Option Addr}{c:Nat}{xs:List t.den}(h:hk H k=some (.own t e A c xs))(w:World)(hh:Hp C H w): ∃G:Nat->Prop,Row t w (Fh C H) G A c xs/\∀b,G b->Bk H k b:=
 ⟨fun b=>b∈obl A,Row.own (hh.hold k _ h) fun _ h=>h,fun _ hb=>⟨_,h,hb⟩⟩
theorem AL.ixs (k kn:Nat){t:Ty}{A:Option Addr}{c:Nat}{xs:List t.den}{x y:Operand}{i:Int}{kd:IntKind}{v:t.den}{e tt:TypeId}(hi:ix xs i=some v)
  (h:t.ok v->tele (lv t) fun ps=>∀b o,AL r P ops Q rest C ((d,.pointer (some ⟨b,o,none⟩))::l) (hcat (kx (kn+1) (rs t v ps)) ((kn,.el none b o (cl t v ps))::H)))
  (hk1:hk H k=some (.sh (.slice t) [.slice A xs.length c] xs):=by rfl) (hx:ev l x=some (.slice A xs.length c):=by rfl) (hy:ev l y=some (.int kd i):=by rfl) (ht:P.underlying tt=some (.slice e):=by rfl) (hs:szB P e=some t.size:=by kernel_rfl)
  (hd:Nat.ble (d+1) C.n=true:=by rfl) (hn:nok H kn (1+lv t)=true:=by kernel_rfl):AL r P ops Q (⟨some d,.indexAddr tt x y,T,pos,af,none⟩::rest) C l H:=
 AL.ixc (ko:=none) (rowS hk1) (fun _ h=>by cases h) hx hy hi ht hs (fun ho=>Qcl (fun ps h b o _=>h b _) (h ho)) hd fun ps hl=>by rw[Qcb t v ps hl];exact hn
theorem AL.ixl (k kn:Nat){t:Ty}{A:Option Addr}{c:Nat}{xs:List t.den}{x y:Operand}{i:Int}{kd:IntKind}{v:t.den}{e tt:TypeId}(hi:ix xs i=some v)
  (h:t.ok v->tele (lv t) fun ps=>∀b o,AL r P ops Q rest C ((d,.pointer (some ⟨b,o,none⟩))::l) (hcat (kx (kn+1) (rs t v ps)) ((kn,.el none b o (cl t v ps))::H)))
  (hk1:hk H k=some (.ln t A c xs):=by rfl) (hx:ev l x=some (.slice A xs.length c):=by rfl) (hy:ev l y=some (.int kd i):=by rfl) (ht:P.underlying tt=some (.slice e):=by rfl) (hs:szB P e=some t.size:=by kernel_rfl)
  (hd:Nat.ble (d+1) C.n=true:=by rfl) (hn:nok H kn (1+lv t)=true:=by kernel_rfl):AL r P ops Q (⟨some d,.indexAddr tt x y,T,pos,af,none⟩::rest) C l H:=
 AL.ixc (ko:=none) (rowL hk1) (fun _ h=>by cases h) hx hy hi ht hs (fun ho=>Qcl (fun ps h b o _=>h b _) (h ho)) hd fun ps hl=>by rw[Qcb t v ps hl];exact hn
theorem AL.ixo (k kn:Nat){t:Ty}{e':TypeId}{A:Option Addr}{c:Nat}{xs:List t.den}{x y:Operand}{i:Int}{kd:IntKind}{v:t.den}{e tt:TypeId}(hi:ix xs i=some v)
  (h:t.ok v->tele (lv t) fun ps=>∀g,A=some ⟨g,0,none⟩->AL r P ops Q rest C ((d,.pointer (some ⟨g,i.toNat*t.size,none⟩))::l) (hcat (kx (kn+1) (rs t v ps)) ((kn,.el (some k) g (i.toNat*t.size) (cl t v ps))::H)))
  (hk1:hk H k=some (.own t e' A c xs):=by rfl) (hx:ev l x=some (.slice A xs.length c):=by rfl) (hy:ev l y=some (.int kd i):=by rfl) (ht:P.underlying tt=some (.slice e):=by rfl) (hs:szB P e=some t.size:=by kernel_rfl)
  (hd:Nat.ble (d+1) C.n=true:=by rfl) (hn:nok H kn (1+lv t)=true:=by kernel_rfl):AL r P ops Q (⟨some d,.indexAddr tt x y,T,pos,af,none⟩::rest) C l H:=
 AL.ixc (ko:=some k) (rowO hk1) (fun j h r hr=>by injection h with h;subst h;rw[hk1]at hr;injection hr with hr;subst hr;rfl) hx hy hi ht hs (fun ho=>Qcl (fun ps h b o ⟨w,hh,hA⟩=>by
  obtain⟨cells,hrow,_⟩:Own t e' 0 w (Fh C H) A c xs:=hh.hold k _ hk1
  rcases hrow.2 with⟨hv,_⟩|⟨g,cap,cur,hv,_⟩
  ·injection hv with hA' _ _;rw[hA]at hA';cases hA'
  ·injection hv with hA' _ _;rw[hA]at hA';injection hA' with hA';injection hA' with h1 h2 _;subst h2;have:=h b hA;simpa using this) (h ho)) hd fun ps hl=>by rw[Qcb t v ps hl];exact hn
theorem AL.box (k:Nat){e:TypeId}{x:Operand}{v:Value}{cs:List Value}(h: ∀g,AL r P ops Q rest C ((d,.pointer (some ⟨g,0,none⟩))::l) ((k,.blk g e cs)::H))
  (hx:ev l x=some v:=by rfl) (hc:v.cells=cs.toArray:=by rfl) (hd:Nat.ble (d+1) C.n=true:=by rfl) (hn:hk H k=none:=by kernel_rfl):AL r P ops Q (⟨some d,.box e x,T,pos,af,none⟩::rest) C l H:=fun a w hf hh=>
 Z.st_box hf hd hx hc fun g w' a' hg hs hb hch hf'=>h g a' w' hf' (hh.new hn hch (fun b hb'=>by simp only[Res.bl,Qm]at hb';omega) (fun j hj=>by cases hj) fun _ _ _ _ _=>hb)
theorem AL.alloc (k:Nat){e:TypeId}{z:Value}{cs:List Value}(hz: ∀w,(zeroValue e).run P w=.ok z w)(h: ∀g,AL r P ops Q rest C ((d,.pointer (some ⟨g,0,none⟩))::l) ((k,.blk g e cs)::H))
  (hc:z.cells=cs.toArray:=by rfl) (hd:Nat.ble (d+1) C.n=true:=by rfl) (hn:hk H k=none:=by kernel_rfl):AL r P ops Q (⟨some d,.alloc e,T,pos,af,none⟩::rest) C l H:=fun a w hf hh=>
 Z.st_alloc hf hd hz hc fun g w' a' hg hs hb hch hf'=>h g a' w' hf' (hh.new hn hch (fun b hb'=>by simp only[Res.bl,Qm]at hb';omega) (fun j hj=>by cases hj) fun _ _ _ _ _=>hb)
theorem AL.store (k:Nat)(js:List Nat){t bt:TypeId}{x y:Operand}{g o m:Nat}{cs new cs':List Value}{v:Value}(h:AL r P ops Q rest C l ((k,.blk g bt cs')::ded js H))
  (hb:hk H k=some (.blk g bt cs):=by rfl) (hx:ev l x=some (.pointer (some ⟨g,o,none⟩)):=by rfl) (hy:ev l y=some v:=by rfl) (hS:szB P t=some m:=by kernel_rfl)
  (hv:v.cells=new.toArray:=by rfl) (hm:new.length=m:=by rfl) (ho:Nat.ble (o+m) cs.length=true:=by rfl) (h1:new.all (fun u=>u.oneCell')=true:=by rfl) (hc:cs.take o++new++cs.drop (o+m)=cs':=by rfl) (hj:hng [k] js H=true:=by kernel_rfl):
  AL r P ops Q (⟨none,.store t x y,T,pos,af,none⟩::rest) C l H:=fun a w hf hh=>
 Z.st_store hf (hh.hold k _ hb) hx hy (Qah hS) hv hm ho (fun u hu=>Qx.1 h1 u hu) hc fun w' a' hs hb' hch hf'=>
  h a' w' hf' (Hp.dd (hh.upd hch (fun b hb2=>⟨_,hb,hb2⟩) (fun b hb2=>.inl ⟨_,hb,hb2⟩) (fun j hj=>by cases hj) fun _ _ _ _ _ _ _=>hb') hj)
def Dat (H:List (Nat×Res)):(t:Ty)->List Value->t.den->Prop
 | .int k,cs,x=>cs=[.int k x]/\k.has x
 | .byte,cs,x=>cs=[.int .u8 (x.toNat:Int)]
 | .bool,cs,x=>cs=[.bool x]
 | .str,cs,x=>cs=[.string x]/\x.size<=maxLen
 | .slice e,cs,xs=>(∃k,hk H k=some (.sh (.slice e) cs xs))\/(cs=[.slice none 0 0]/\xs=[])
 | .pair a b,cs,x=>Dat H a (cs.take a.size) x.1/\Dat H b (cs.drop a.size) x.2
theorem Dat.rep {w:World}(hh:Hp C H w): ∀(t:Ty) {cs:List Value} {x:t.den},Dat H t cs x->t.rep w (Fh C H) cs x
 | .int _,_,_,h=>h
 | .byte,_,_,h=>h
 | .bool,_,_,h=>h
 | .str,_,_,h=>h
 | .slice e,cs,xs,h=>by
  rcases h with⟨k,h⟩|⟨h1,h2⟩
  ·exact hh.hold k _ h
  ·subst h1;subst h2;exact Qev e
 | .pair a b,cs,x,h=>⟨_,_,(Jk a.size cs).symm,Dat.rep hh a h.1,Dat.rep hh b h.2⟩
def Dats (H:List (Nat×Res))(t:Ty):List Value->List t.den->Prop
 |cs,[]=>cs=[]
 |cs,x::xs=>Dat H t (cs.take t.size) x/\Dats H t (cs.drop t.size) xs
theorem Dats.all {w:World}(hh:Hp C H w){t:Ty}: ∀{cs:List Value} {xs:List t.den},Dats H t cs xs->cs.length=xs.length*t.size/\(∀u∈cs,u.oneCell'=true)/\∀(i:Nat) (x:t.den),xs[i]?=some x->t.rep w (Fh C H) ((cs.drop (i*t.size)).take t.size) x
 |cs,[],h=>by
  have h:cs=[]:=h
  subst h;exact⟨by simp,by simp,fun i x hi=>by simp at hi⟩
 |cs,x::xs,h=>by
  obtain⟨h1,h2⟩:=h
  obtain⟨h3,h4,h5⟩:=Dats.all hh h2
  have hr:=Dat.rep hh t h1
  have hl:=Qgf t hr
  rw[Qw]at hl
  rw[Wy]at h3
  have hlen:cs.length=(xs.length+1)*t.size:=by rw[Jt,<-h3];omega
  refine⟨hlen,fun u hu=>?_,fun i y hi=>?_⟩
  ·rw[<-Jk t.size cs,Q0]at hu
   exact hu.elim (Qgk t hr u) (h4 u)
  ·cases i with
   |zero=>
    simp only[Wl,Qc]at hi
    subst hi
    rw[Y0,Yv];exact hr
   |succ i=>
    rw[Xa]at hi
    have:=h5 i y hi
    rw[Xo]at this
    rw[Jt,Ye];exact this
theorem AL.bsl (k:Nat){ty:Ty}{t e:TypeId}{len sz:Nat}{z:Value}{parts:List (Nat×Operand)}{vs:List (Nat×Value)}{cs:List Value}(xs:List ty.den)(hD:Dats H ty cs xs)
  (h: ∀g,AL r P ops Q rest C ((d,.slice (some ⟨g,0,none⟩) len len)::l) ((k,.own ty e (some ⟨g,0,none⟩) len xs)::H))
  (hz: ∀w,(zeroValue e).run P w=.ok z w) (hS: ∀w,(sizeOf e).run P w=.ok sz w) (hl:xs.length=len:=by rfl) (hsz:ty.size=sz:=by rfl)
  (hp:evp l parts=some vs:=by rfl) (ht:P.underlying t=some (.slice e):=by rfl) (hs:Nat.ble (len*sz) 16777216=true:=by rfl) (h0:Nat.ble 1 (len*sz)=true:=by rfl)
  (hc:Instr.fill (fun i=>some (i*sz,sz)) ((Array.range (len*sz)).map (z.cells[· %z.cells.size]!)) vs=some cs.toArray:=by kernel_rfl)
  (hd:Nat.ble (d+1) C.n=true:=by rfl) (hn:hk H k=none:=by kernel_rfl):AL r P ops Q (⟨some d,.buildSlice t len parts.toArray,T,pos,af,none⟩::rest) C l H:=fun a w hf hh=>by
 subst hl;subst hsz
 refine Z.st_bslice hf hd ht hS hz hp hs h0 hc fun g w' a' hg hs' hb hch hf'=>h g a' w' hf' (hh.new hn hch (fun b hb'=>?_) (fun j hj=>by cases hj) fun F B h1 _ _=>?_)
 ·simp only[Res.bl,obl,Qm]at hb';omega
 ·obtain⟨d1,d2,d3⟩:=Dats.all hh hD
  refine Own.made (B:=0) hb (Xl _) d1 ?_ d2 fun i x hi=>rep_to (d3 i x hi) hch fun b hb hl=>⟨by simp,h1 b hb hl⟩
  have:=Qi hs
  have h2:xs.length<=xs.length*ty.size:=Yk _ (Qan ty)
  simp only[maxLen];omega
theorem AL.bs0 (k:Nat)(ty:Ty){t e:TypeId}(h: ∀g,AL r P ops Q rest C ((d,.slice (some ⟨g,0,none⟩) 0 0)::l) ((k,.own ty e (some ⟨g,0,none⟩) 0 [])::H))
  (hS: ∀w,(sizeOf e).run P w=.ok ty.size w) (ht:P.underlying t=some (.slice e):=by rfl) (hd:Nat.ble (d+1) C.n=true:=by rfl) (hn:hk H k=none:=by kernel_rfl):AL r P ops Q (⟨some d,.buildSlice t 0 #[],T,pos,af,none⟩::rest) C l H:=fun a w hf hh=>
 Z.st_bslice0 hf hd ht hS fun g w' a' hg hs' hb hch hf'=>h g a' w' hf' (hh.new hn hch (fun b hb'=>by simp only[Res.bl,obl,Qm]at hb';omega) (fun j hj=>by cases hj) fun F B h1 _ _=>Own.made (t:=ty) (xs:=[]) (B:=0) hb (Xl _) (by simp) (by simp[maxLen]) (by simp) (fun i x hi=>by simp at hi))
theorem Hp.frz {w:World}(hh:Hp C H w){k:Nat}{t:Ty}{e:TypeId}{A:Option Addr}{c:Nat}{xs:List t.den}(h:hk H k=some (.own t e A c xs)):Hp C ((k,.sh (.slice t) [.slice A xs.length c] xs)::drp k H) w:=
 hh.upd (S:=[]) (Ch.refl w) (by simp) (by simp[Res.bl]) (fun j hj=>by cases hj) fun F B h1 h2 _ _ _=>by
  have hO:Own t e 0 w (Fh C H) A c xs:=hh.hold k _ h
  obtain⟨cells,hr,o1,o2⟩:=hO
  have hO':Own t e 0 w F A c xs:=⟨cells,hr,o1,fun i x hi=>Qhe (o2 i x hi) fun b hb hl=>h1 b hb hl⟩
  exact hO'.rep (fun _ h=>h) fun b hb=>h2 b ⟨_,h,hb⟩ (by simp[Res.bl])
end
theorem Row.cells {t:Ty}{w:World}{F G:Nat->Prop}{A:Option Addr}{c:Nat}{xs:List t.den}(h:Row t w F G A c xs): ∃cells:List Value,cells.length=xs.length*t.size/\(∀u∈cells,u.oneCell'=true)/\(xs.length=0\/∃ad,A=some ad/\∀j u,cells[j]?=some u->w.cell? (ad.add j)=some u)/\
  ∀(i:Nat) (x:t.den),xs[i]?=some x->t.rep w F ((cells.drop (i*t.size)).take t.size) x:=by
 obtain⟨h2,h3,cells,h4,h5,h6⟩:=h
 refine⟨cells,h4,fun u hu=>?_,?_,h6⟩
 ·obtain⟨j,hj,rfl⟩:=Xe hu
  have hs:=Qan t
  have hi:j / t.size<xs.length:=Yf (by rw[Jg,<-h4];exact hj)
  have hr:=h6 (j / t.size) _ (Qh hi)
  refine Qgk t hr _ (Qt (i:=j%t.size) ?_)
  rw[Q6 (Ja _ hs),Q8,Jg,Nat.div_add_mod]
  exact Qh hj
 ·rcases h5 with h5|⟨b,o,rfl,hb,hcell⟩
  ·exact .inl h5
  ·exact .inr ⟨_,rfl,fun j u hu=>by rw[Addr.add_lit];exact hcell j u hu⟩
section
variable {P:Program}{t:Ty}{e:TypeId}{B:Nat}{w:World}{F G:Nat->Prop}{A:Option Addr}{c:Nat}{xs:List t.den}
theorem run_appendR {tt ty:TypeId}{i:TypeInfo}{z:Value}{bytes:Nat}(ht:P.underlying tt=some (.slice e))(hi:P.info? e=some i)(hz:i.zero=some z)(hsize:i.size=t.size)(hby:i.bytes=bytes)
  (hzs:z.cells.size=t.size) (hown:Own t e B w F A c xs) {A2:Option Addr} {c2:Nat} {ys:List t.den} (hr:Row t w F G A2 c2 ys) (h63:(xs.length+ys.length)*bytes<=140737488355328)
  (hbp:0<bytes) (hA: ∀b,F b->b∉obl A) (hB:B<=w.heap.size):
  ∃A' c' w',(Builtin.append_ #[tt,tt] ty #[.slice A xs.length c,.slice A2 ys.length c2]).run P w=.ok (.slice A' (xs.length+ys.length) c') w'/\Own t e B w' F A' c' (xs++ys)/\Ch (obl A) w w'/\
   (∀k,k∈obl A'->k∈obl A\/k=w.heap.size):=by
 obtain⟨cells,hrow,h1,h2⟩:=hown
 obtain⟨news,hnl,hn1,hn2,hn3⟩:=hr.cells
 have hsz:=Qan t
 have hbig:xs.length+ys.length<=maxLen:=by
  have:xs.length+ys.length<=(xs.length+ys.length)*bytes:=Yk _ hbp
  simp only[maxLen];omega
 by_cases hz2:ys.length=0
 ·have hy:ys=[]:=Wj hz2
  subst hy
  have hrun:(Builtin.append_ #[tt,tt] ty #[.slice A xs.length c,.slice A2 0 c2]).run P w=.ok (.slice A xs.length c) w:=by
   rcases hrow.2 with⟨hv,hn⟩|⟨g,cap,cur,hv,_,_,hnc,_⟩
   ·injection hv with hA' hn' hc
    subst hA';subst hc
    cases A2<;>simp[Builtin.append_,run_underlying ht,sizeOf,typeInfo,hi,Builtin.lenOf,Builtin.firstCells,hn,loadCells,loadCellsFrom]
   ·injection hv with hA' hn' hc
    subst hA';subst hc
    cases A2<;>simp[Builtin.append_,run_underlying ht,sizeOf,typeInfo,hi,Builtin.lenOf,Builtin.firstCells,hnc,storeCells,loadCells,loadCellsFrom]
  refine⟨A,c,w,by simpa using hrun,⟨cells,by simpa using hrow,h1,by simpa using h2⟩,Ch.refl' _ _,fun k hk=>.inl hk⟩
 ·rcases hn2 with hn2|⟨ad,rfl,hcell⟩
  ·exact absurd hn2 hz2
  ·obtain⟨v',w',hrun,h3,h4,_,h5⟩:=run_append_own_at (P:=P) w B tt ty e i z t.size bytes ht hi hz hsize hby hzs hsz _ xs.length cells hrow ad ys.length c2 news hnl hcell hn1 hbig h63 hB
   have hform: ∃A' c',v'=.slice A' (xs.length+ys.length) c':=by
    rcases h3.2 with⟨hv,hn⟩|⟨g,cap,cur,hv,_⟩
    ·exact⟨none,0,by rw[hv,show xs.length+ys.length=0 from by omega]⟩
    ·exact⟨_,_,hv⟩
   obtain⟨A',c',rfl⟩:=hform
   have hch:Ch (obl A) w w':=by have:=Ch.of_grown h4;rwa[ownBlock_slice]at this
   refine⟨A',c',w',hrun,⟨cells++news,?_,?_,?_⟩,hch,fun k hk=>?_⟩
   ·rw[Wg];exact h3
   ·intro u hu
    rcases Q0.1 hu with hu|hu
    ·exact h1 u hu
    ·exact hn1 u hu
   ·exact Qfj hrow.1 (fun i x hi=>rep_ch hch hA t (h2 i x hi)) (fun i x hi=>rep_ch hch hA t (hn3 i x hi))
   ·rcases h5 with h5|h5
    ·left
     have:obl A'=obl A:=by rw[<-ownBlock_slice A' (xs.length+ys.length) c',h5,ownBlock_slice]
     rwa[<-this]
    ·right
     have:obl A'=[w.heap.size]:=by rw[<-ownBlock_slice A' (xs.length+ys.length) c',h5];rfl
     rw[this]at hk
     simpa using hk
theorem Own.take (h:Own t e B w F A c xs){k:Nat}(hk:k<=xs.length):Own t e B w F A c (xs.take k):=by
 obtain⟨cells,hr,h1,h2⟩:=h
 have hl:(xs.take k).length=k:=by rw[Qw];omega
 have hmul:k*t.size<=xs.length*t.size:=Q5 _ hk
 refine⟨cells.take (k*t.size),⟨by rw[Qw,hr.1,hl];omega,?_⟩,fun u hu=>h1 u (List.mem_of_mem_take hu),fun i x hi=>?_⟩
 ·rcases hr.2 with⟨hv,hn⟩|⟨g,cap,cur,hv,hb,hg,hnc,hcm,hcs,htake⟩
  ·left
   injection hv with hA' _ hc
   subst hA';subst hc
   exact⟨by rw[hl];congr 1;omega,by omega⟩
  ·right
   injection hv with hA' _ hc
   subst hA';subst hc
   refine⟨g,c,cur,rfl,hb,hg,by omega,hcm,hcs,?_⟩
   rw[hl,<-htake,List.take_take,Xy hmul]
 ·have hik:i<k:=by
   have:=(Qb.1 hi).1
   omega
  have hx:xs[i]?=some x:=by rwa[Q6 hik]at hi
  have:=h2 i x hx
  have hm:(i+1)*t.size<=k*t.size:=Q5 _ hik
  rw[W6,X7]at hm
  rw[List.drop_take,List.take_take,Xy (by omega)]
  exact this
end
section
variable {r:Option Nat}{P:Program}{ops:Array Oper}{Q:Exit->Act->World->Prop}{rest lst:List Oper}{C:Cx}{l:List (Nat×Value)}{H:List (Nat×Res)}{d:Nat}{op:Op}{T:TypeId}{pos:String}{af:Array Edge}
theorem AL.app {k:Nat}(js:List Nat){t:Ty}{tt e:TypeId}{x y:Operand}{i:TypeInfo}{z:Value}{bytes m n1 n2:Nat}{A A2:Option Addr}{c c2:Nat}{xs ys:List t.den}{kp':(Nat->Prop)->Prop}(hrow: ∀w,Hp C H w->∃G:Nat->Prop,Row t w (Fh C H) G A2 c2 ys/\kp' G)
  (hinf:P.info? e=some i/\i.zero=some z/\i.size=m/\i.bytes=bytes/\z.cells.size=m) (hl:(xs.length+ys.length)*bytes<=140737488355328)
  (h: ∀A' c',AL r P ops Q rest C ((d,.slice A' (xs++ys).length c')::l) ((k,.own t e A' c' (xs++ys))::ded js H))
  (hk1:hk H k=some (.own t e A c xs):=by rfl) (hx:ev l x=some (.slice A n1 c):=by rfl) (hy:ev l y=some (.slice A2 n2 c2):=by rfl) (hn1:n1=xs.length:=by rfl) (hn2:n2=ys.length:=by rfl) (hm:m=t.size:=by rfl) (hbp:Nat.ble 1 bytes=true:=by rfl)
  (ht:P.underlying tt=some (.slice e):=by rfl) (hd:Nat.ble (d+1) C.n=true:=by rfl) (hj:hng [k] js H=true:=by kernel_rfl):AL r P ops Q (⟨some d,.call {callee:=.builtin .append,args:=#[x,y],argTypes:=#[tt,tt]},T,pos,af,none⟩::rest) C l H:=fun a w hf hh=>by
 subst hn1;subst hn2;subst hm
 obtain⟨hi,hz,hsize,hby,hzs⟩:=hinf
 obtain⟨G,hR,_⟩:=hrow w hh
 have hO:Own t e 0 w (Fh C H) A c xs:=hh.hold k _ hk1
 obtain⟨A',c',w',hrun,h1,h2,h3⟩:=run_appendR (P:=P) (ty:=T) ht hi hz hsize hby hzs hO hR hl (Qi hbp) (fun b hb hbA=>hb.1 k ⟨_,hk1,hbA⟩) (Xl _)
 refine Z.valw (w':=w') (v:=.slice A' (xs++ys).length c') hf hd ?_ fun a' hf'=>h A' c' a' w' hf' (Hp.dd (hh.upd h2 (fun b hb=>⟨_,hk1,hb⟩) (fun b hb=>?_) (fun j hj=>by cases hj) fun F B hF _ _ _ hB=>?_) hj)
 ·rw[Wg]
  simp only[execOp,resolve,invoke,builtin,Sem.run_bind,Sem.run_pure,Result.andThen_ok,Xi,Qz,Jh,hf.eval hx,hf.eval hy,hrun]
 ·rcases h3 b hb with h4|h4
  ·exact .inl ⟨_,hk1,h4⟩
  ·exact .inr ⟨by omega,(h1.lt b hb).2⟩
 ·obtain⟨cells,o1,o2,o3⟩:=h1
  obtain⟨cells0,p1,p2,p3⟩:=hO
  obtain⟨cells2,q1,q2,q3,q4⟩:=hR.cells
  have hFo: ∀b,Fh C H b->b∉obl A:=fun b hb hbA=>hb.1 k ⟨_,hk1,hbA⟩
  have h1':Own t e 0 w' (Fh C H) A' c' (xs++ys):=⟨cells,o1,o2,o3⟩
  have hOi:Own t e 0 w (fun b=>Fh C H b/\b<w.heap.size) A c xs:=⟨cells0,p1,p2,fun i x hi=>Qac t (p3 i x hi)⟩
  have hRi:Row t w (fun b=>Fh C H b/\b<w.heap.size) (fun _=>True) A2 c2 ys:=by
   obtain⟨r1,r2,cs,r3,r4,r5⟩:=hR
   refine⟨r1,r2,cs,r3,?_,fun i x hi=>Qac t (r5 i x hi)⟩
   rcases r4 with r4|⟨b,o,r4,_,r6⟩
   ·exact .inl r4
   ·exact .inr ⟨b,o,r4,trivial,r6⟩
  obtain⟨A3,c3,w3,hrun3,h13,h23,_⟩:=run_appendR (P:=P) (ty:=T) ht hi hz hsize hby hzs hOi hRi hl (Qi hbp) (fun b hb=>hFo b hb.1) (Xl _)
  rw[hrun]at hrun3
  injection hrun3 with e1 e2
  injection e1 with e1 _ e3
  subst e1;subst e2;subst e3
  exact h13.more fun b hb=>hF b hb.1 hb.2
theorem AL.setel (k ke:Nat)(js:List Nat){t:Ty}{e tt:TypeId}{A:Option Addr}{c g o m:Nat}{xs:List t.den}{px py:Operand}{u:Value}{new es:List Value}{i:Int}{v:t.den}(y:t.den)(hi:ix xs i=some v)(hA:A=some ⟨g,0,none⟩)
  (hD:Dat H t (es.take o++new++es.drop (o+m)) y) (h:AL r P ops Q rest C l ((k,.own t e A c (xs.set i.toNat y))::ded js H))
  (hk1:hk H k=some (.own t e A c xs):=by rfl) (hke:hk H ke=some (.el (some k) g (i.toNat*t.size) es):=by rfl) (hx:ev l px=some (.pointer (some ⟨g,i.toNat*t.size+o,none⟩)):=by rfl) (hy:ev l py=some u:=by rfl) (hS:szB P tt=some m:=by kernel_rfl)
  (hv:u.cells=new.toArray:=by rfl) (hm:new.length=m:=by rfl) (ho:Nat.ble (o+m) t.size=true:=by rfl) (h1:new.all (fun u=>u.oneCell')=true:=by rfl) (hel:es.length=t.size:=by rfl) (hj:hng [k] js H=true:=by kernel_rfl):
  AL r P ops Q (⟨none,.store tt px py,T,pos,af,none⟩::rest) C l H:=fun a w hf hh=>by
 obtain⟨n,rfl,hn⟩:=Qaz hi
 have hlt:=(Qb.1 hn).1
 have hO:Own t e 0 w (Fh C H) A c xs:=hh.hold k _ hk1
 have hOi:Own t e 0 w (fun b=>Fh C H b/\b<w.heap.size) A c xs:=by
  obtain⟨cells0,p1,p2,p3⟩:=hO
  exact⟨cells0,p1,p2,fun i x hi=>Qac t (p3 i x hi)⟩
 have hc:=(hh.hold ke _ hke).1
 refine Z.st_setel (F:=fun b=>Fh C H b/\b<w.heap.size) hf hOi (k:=n) (o:=o) (m:=m) hlt (Qah hS) ho hA (by rw[hx,Addr.add_lit,Addr.add_lit];simp) hy hv hm (fun u hu=>Qx.1 h1 u hu) (by rw[Addr.add_lit];simpa using hc) hel (Qac t (Dat.rep hh t hD)) (fun b hb hbA=>hb.1.1 k ⟨_,hk1,hbA⟩) fun w' a' hch hs hO' hf'=>
  h a' w' hf' (Hp.dd (hh.upd hch (fun b hb=>⟨_,hk1,hb⟩) (fun b hb=>.inl ⟨_,hk1,hb⟩) (fun j hj=>by cases hj) fun F B hF _ _ _ _=>hO'.more fun b hb=>hF b hb.1 hb.2) hj)
theorem AL.cut (k kn:Nat){t:Ty}{tt e:TypeId}{x lo hi:Operand}{A:Option Addr}{c:Nat}{xs:List t.den}{k1 k2:IntKind}{p q:Int}{u v:Nat}(hp:p=(u:Int))(hq:q=(v:Int))(h1:u<=v)(h2:v<=xs.length)
  (h: ∀A' c',AL r P ops Q rest C ((d,.slice A' ((xs.take v).drop u).length c')::l) ((kn,.sh (.slice t) [.slice A' ((xs.take v).drop u).length c'] ((xs.take v).drop u))::H))
  (hk1:hk H k=some (.sh (.slice t) [.slice A xs.length c] xs):=by rfl) (hx:ev l x=some (.slice A xs.length c):=by rfl) (hlo:ev l lo=some (.int k1 p):=by rfl) (hhi:ev l hi=some (.int k2 q):=by rfl) (hS:szB P e=some t.size:=by kernel_rfl)
  (ht:P.underlying tt=some (.slice e):=by rfl) (hd:Nat.ble (d+1) C.n=true:=by rfl) (hn:hk H kn=none:=by kernel_rfl):AL r P ops Q (⟨some d,.slice tt x (some lo) (some hi) none,T,pos,af,none⟩::rest) C l H:=fun a w hf hh=>by
 have hr:(Ty.slice t).rep w (Fh C H) [.slice A xs.length c] xs:=hh.hold k _ hk1
 have hlen:=rep_slice_len hr
 have hlen2:((xs.take v).drop u).length=v-u:=by rw[Wy,Qw];omega
 refine Z.val (v:=.slice (cutA A c u t.size) (v-u) (c-u)) hf hd (r_slice_lh ht (Qah hS) (hf.eval hx) (hf.eval hlo) (hf.eval hhi) hp hq h1 (by omega)) fun a' hf'=>?_
 have hr2:(Ty.slice t).rep w (Fh C H) [.slice (cutA A c u t.size) (v-u) (c-u)] ((xs.take v).drop u):=by
  refine rep_drop (rep_take hr h2) (by rw[Qw];omega) (by omega) (by omega) fun hlt ad hA=>?_
  rw[Qw]at hlt
  unfold cutA
  rw[Qd (by omega),hA];rfl
 rw[<-hlen2]at hr2 hf'
 exact h _ _ a' w hf' (hh.add hn rfl (fun j hj=>by cases hj) (Qac _ hr2))
theorem AL.cuth (k kn:Nat){t:Ty}{tt e:TypeId}{x hi:Operand}{A:Option Addr}{c:Nat}{xs:List t.den}{k2:IntKind}{q:Int}{v:Nat}(hq:q=(v:Int))(h2:v<=xs.length)
  (h: ∀c',AL r P ops Q rest C ((d,.slice A (xs.take v).length c')::l) ((kn,.sh (.slice t) [.slice A (xs.take v).length c'] (xs.take v))::H))
  (hk1:hk H k=some (.sh (.slice t) [.slice A xs.length c] xs):=by rfl) (hx:ev l x=some (.slice A xs.length c):=by rfl) (hhi:ev l hi=some (.int k2 q):=by rfl) (hS:szB P e=some t.size:=by kernel_rfl)
  (ht:P.underlying tt=some (.slice e):=by rfl) (hd:Nat.ble (d+1) C.n=true:=by rfl) (hn:hk H kn=none:=by kernel_rfl):AL r P ops Q (⟨some d,.slice tt x none (some hi) none,T,pos,af,none⟩::rest) C l H:=fun a w hf hh=>by
 have hr:(Ty.slice t).rep w (Fh C H) [.slice A xs.length c] xs:=hh.hold k _ hk1
 have hlen:=rep_slice_len hr
 have hl2:(xs.take v).length=v:=by rw[Qw];omega
 refine Z.val (v:=.slice A v c) hf hd (Qho ht (Qah hS) (hf.eval hx) (hf.eval hhi) hq (by omega)) fun a' hf'=>?_
 have hr2:=rep_take hr h2
 rw[<-hl2]at hf'
 have hr3:(Ty.slice t).rep w (Fh C H) [.slice A (xs.take v).length c] (xs.take v):=by rw[hl2];exact hr2
 exact h _ a' w hf' (hh.add hn rfl (fun j hj=>by cases hj) (Qac _ hr3))
theorem AL.cuto (k:Nat)(js:List Nat){t:Ty}{tt e e':TypeId}{x hi:Operand}{A:Option Addr}{c:Nat}{xs:List t.den}{k2:IntKind}{q:Int}{v:Nat}(hq:q=(v:Int))(h2:v<=xs.length)
  (h:AL r P ops Q rest C ((d,.slice A (xs.take v).length c)::l) ((k,.own t e' A c (xs.take v))::ded js H))
  (hk1:hk H k=some (.own t e' A c xs):=by rfl) (hx:ev l x=some (.slice A xs.length c):=by rfl) (hhi:ev l hi=some (.int k2 q):=by rfl) (hS:szB P e=some t.size:=by kernel_rfl)
  (ht:P.underlying tt=some (.slice e):=by rfl) (hd:Nat.ble (d+1) C.n=true:=by rfl) (hj:hng [k] js H=true:=by kernel_rfl):AL r P ops Q (⟨some d,.slice tt x none (some hi) none,T,pos,af,none⟩::rest) C l H:=fun a w hf hh=>by
 have hO:Own t e' 0 w (Fh C H) A c xs:=hh.hold k _ hk1
 have hlen:=hO.len
 have hl2:(xs.take v).length=v:=by rw[Qw];omega
 refine Z.val (v:=.slice A v c) hf hd (Qho ht (Qah hS) (hf.eval hx) (hf.eval hhi) hq (by omega)) fun a' hf'=>?_
 rw[<-hl2]at hf'
 refine h a' w hf' (Hp.dd (hh.upd (S:=[]) (Ch.refl w) (by simp) (fun b hb=>.inl ⟨_,hk1,hb⟩) (fun j hj=>by cases hj) fun F B hF _ _ _ _=>?_) hj)
 obtain⟨cells,o1,o2,o3⟩:=Own.take hO h2
 exact⟨cells,o1,o2,fun i x hi=>Qhe (o3 i x hi) fun b hb hl=>hF b hb hl⟩
theorem AL.ixt {tt:TypeId}{x y:Operand}{s:ByteArray}{kd:IntKind}{i:Int}{v:UInt8}(hi:ix s.data.toList i=some v)(h:AL r P ops Q rest C ((d,.int .u8 (v.toNat:Int))::l) H)
  (ht:P.underlying tt=some .string:=by rfl) (hx:ev l x=some (.string s):=by rfl) (hy:ev l y=some (.int kd i):=by rfl) (hd:Nat.ble (d+1) C.n=true:=by rfl):AL r P ops Q (⟨some d,.index tt x y,T,pos,af,none⟩::rest) C l H:=by
 obtain⟨k,rfl,hv⟩:=Qaz hi
 have hlt:=(Qb.1 hv).1
 refine AL.val hd (fun a w hf hh=>?_) h
 have:=r_indexStr (P:=P) (w:=w) (d:=some d) (T:=T) (pos:=pos) (af:=af) (gd:=none) ht (hf.eval hx) (hf.eval hy) rfl (show k<s.size from hlt)
 rw[this]
 have hb:bat s k=v:=by
  unfold bat
  rw[Q1,<-Wh,hv];rfl
 rw[hb]
theorem AL.rgs (k:Nat){tt:TypeId}{x:Operand}{s:ByteArray}(h: ∀g,AL r P ops Q rest C ((d,.pointer (some ⟨g,0,none⟩))::l) ((k,.si g s 0)::H))
  (ht:P.underlying tt=some .string:=by rfl) (hx:ev l x=some (.string s):=by rfl) (hd:Nat.ble (d+1) C.n=true:=by rfl) (hn:hk H k=none:=by kernel_rfl):AL r P ops Q (⟨some d,.range tt x,T,pos,af,none⟩::rest) C l H:=fun a w hf hh=>
 Z.st_rangeStr hf hd ht hx fun g w' a' hg hs hb hch hf'=>h g a' w' hf' (hh.new hn hch (fun b hb'=>by simp only[Res.bl,Qm]at hb';omega) (fun j hj=>by cases hj) fun _ _ _ _ _=>hb)
theorem AL.nxs (k:Nat)(js:List Nat){x:Operand}{s:ByteArray}{g p:Nat}{ρ:Type}{A B R:Option ρ}(hF:(if p<s.size then A else B)=R)
  (h2:p<s.size->A=R->AL r P ops Q rest C ((d,.tuple #[.bool true,.int .i64 (p:Int),.int .i32 ((Utf8.decode s p).1:Int)])::l) ((k,.si g s (p+(Utf8.decode s p).2))::ded js H))
  (h1: ¬p<s.size->B=R->AL r P ops Q rest C ((d,.tuple #[.bool false])::l) H)
  (hk1:hk H k=some (.si g s p):=by rfl) (hx:ev l x=some (.pointer (some ⟨g,0,none⟩)):=by rfl) (hd:Nat.ble (d+1) C.n=true:=by rfl) (hj:hng [k] js H=true:=by kernel_rfl):AL r P ops Q (⟨some d,.next x true,T,pos,af,none⟩::rest) C l H:=fun a w hf hh=>
 Z.st_nextStr hf hd hx (hh.hold k _ hk1) (fun hp a' hf'=>h1 hp (by rw[Qd hp]at hF;exact hF) a' w hf' hh) fun hp w' a' hch hs hsi hf'=>
  h2 hp (by rw[Qj hp]at hF;exact hF) a' w' hf' (Hp.dd (hh.upd hch (fun b hb=>⟨_,hk1,hb⟩) (fun b hb=>.inl ⟨_,hk1,hb⟩) (fun j hj=>by cases hj) fun _ _ _ _ _ _ _=>hsi) hj)
section
variable {κ:Type}[DecidableEq κ]{enc:κ->Value}{kt et tt:TypeId}{t:Ty}{agg:Bool}{b:Nat}{m:List (κ×t.den)}
theorem AL.mkm (k:Nat)(κ:Type)(enc:κ->Value)(t:Ty)(agg:Bool)(h: ∀b,AL r P ops Q rest C ((d,.map (some b))::l) ((k,.mp κ enc t agg b [])::H))(hd:Nat.ble (d+1) C.n=true:=by rfl)(hn:hk H k=none:=by kernel_rfl):
  AL r P ops Q (⟨some d,.makeMap tt none,T,pos,af,none⟩::rest) C l H:=fun a w hf hh=>
 Z.st_makeMap rfl hf hd enc t agg no fun g w' a' hg hs hb hch hf'=>h g a' w' hf' (hh.new hn hch (fun b hb'=>by simp only[Res.bl,Qm]at hb';omega) (fun j hj=>by cases hj) fun F B h1 _ _=>hb.to (Ch.refl w') (by simp) fun b hb _=>hb.elim)
def asmp:Option Res->Option Res
 |some (.lmp κ enc t agg b m)=>some (.mp κ enc t agg b m)
 |r=>r
theorem Qgg {κ:Type}{enc:κ->Value}{t:Ty}{agg:Bool}{b:Nat}{m:List (κ×t.den)}{C:Cx}{H:List (Nat×Res)}{w:World}(hh:Hp C H w){k:Nat}(h:asmp (hk H k)=some (.mp κ enc t agg b m)):Mt enc t agg w (Fh C H) b m:=by
 cases hj:hk H k with
 |none=>rw[hj]at h;cases h
 |some r=>
  rw[hj]at h
  have h2:=hh.hold k r hj
  cases r with
  |lmp κ' enc' t' agg' b' m'=>
   have h:some (Res.mp κ' enc' t' agg' b' m')=_:=h
   injection h with h;cases h;exact h2.1
  |mp κ' enc' t' agg' b' m'=>
   have h:some (Res.mp κ' enc' t' agg' b' m')=_:=h
   injection h with h;cases h;exact h2
  |_=>injection h with h;cases h
theorem Qft {w:World}{x:t.den}{cs:List Value}(hh:Hp C H w)(hr:t.rep w (Fh C H) cs x)(kn:Nat)(hn:nok H kn (lv t)=true): ∃ps:Lf,ps.length=lv t/\cs=cl t x ps/\Hp C (hcat (kx kn (rs t x ps)) H) w:=by
 obtain⟨ps,hl,hc,hrs⟩:=rep_cl (B:=Bk H) t (Qac t hr)
 exact⟨ps,hl,hc,hh.adds (by rw[Qcb t x ps hl];exact hn) fun r2 h4=>⟨(hrs r2 h4).2.1,(hrs r2 h4).2.2,(hrs r2 h4).1⟩⟩
theorem AL.lku (k kn:Nat){x y:Operand}{z v:t.den}{zs:List Value}(K:Ky P kt enc)(key:κ)(hz: ∀w,(zeroValue et).run P w=.ok (vof agg zs) w)(hD:Dat H t zs z)(hv:mget z m key=v)
  (h:t.ok v->tele (lv t) fun ps=>AL r P ops Q rest C ((d,vof agg (cl t (v) ps))::l) (hcat (kx kn (rs t (v) ps)) H))
  (hk1:asmp (hk H k)=some (.mp κ enc t agg b m):=by rfl) (hx:ev l x=some (.map (some b)):=by rfl) (hy:ev l y=some (enc key):=by rfl) (ht:P.underlying tt=some (.map kt et):=by rfl) (hd:Nat.ble (d+1) C.n=true:=by rfl) (hn:nok H kn (lv t)=true:=by kernel_rfl):
  AL r P ops Q (⟨some d,.lookup tt x y false,T,pos,af,none⟩::rest) C l H:=fun a w hf hh=>by
 subst hv
 exact Z.st_lookup hf hd K ht hz z (Dat.rep hh t hD) (Qgg hh hk1) hx key hy fun cs a' hr hf'=>by
  obtain⟨ps,hl,rfl,h2⟩:=Qft hh hr kn hn
  exact Qau (h (rep_ok t hr)) ps hl a' w hf' h2
theorem AL.lk2 (k kn:Nat){x y:Operand}{z v:t.den}{zs:List Value}(K:Ky P kt enc)(key:κ)(hz: ∀w,(zeroValue et).run P w=.ok (vof agg zs) w)(hD:Dat H t zs z)(hv:mget z m key=v)
  (h:t.ok v->tele (lv t) fun ps=>AL r P ops Q rest C ((d,.tuple #[vof agg (cl t (v) ps),.bool (mhas m key)])::l) (hcat (kx kn (rs t (v) ps)) H))
  (hk1:asmp (hk H k)=some (.mp κ enc t agg b m):=by rfl) (hx:ev l x=some (.map (some b)):=by rfl) (hy:ev l y=some (enc key):=by rfl) (ht:P.underlying tt=some (.map kt et):=by rfl) (hd:Nat.ble (d+1) C.n=true:=by rfl) (hn:nok H kn (lv t)=true:=by kernel_rfl):
  AL r P ops Q (⟨some d,.lookup tt x y true,T,pos,af,none⟩::rest) C l H:=fun a w hf hh=>by
 subst hv
 exact Z.st_lookup2 hf hd K ht hz z (Dat.rep hh t hD) (Qgg hh hk1) hx key hy fun cs a' hr hf'=>by
  obtain⟨ps,hl,rfl,h2⟩:=Qft hh hr kn hn
  exact Qau (h (rep_ok t hr)) ps hl a' w hf' h2
theorem AL.mup (k:Nat)(js:List Nat){x y v:Operand}{cs:List Value}{u:t.den}(K:Ky P kt enc)(key:κ)(hD:Dat H t cs u)(h:AL r P ops Q rest C l ((k,.mp κ enc t agg b (mins m key u))::ded js H))
  (hk1:hk H k=some (.mp κ enc t agg b m):=by rfl) (hx:ev l x=some (.map (some b)):=by rfl) (hy:ev l y=some (enc key):=by rfl) (hv:ev l v=some (vof agg cs):=by rfl) (ht:P.underlying tt=some (.map kt et):=by rfl) (hj:hng [k] js H=true:=by kernel_rfl):
  AL r P ops Q (⟨none,.mapUpdate tt x y v,T,pos,af,none⟩::rest) C l H:=fun a w hf hh=>by
 have hm:Mt enc t agg w (Fh C H) b m:=hh.hold k _ hk1
 have hm':Mt enc t agg w (fun b=>Fh C H b/\b<w.heap.size) b m:=by
  obtain⟨es,h1,h2,h3⟩:=hm
  refine⟨es,h1,h2,fun i p hp=>?_⟩
  obtain⟨cs,h4,h5⟩:=h3 i p hp
  exact⟨cs,h4,Qac t h5⟩
 refine Z.st_mapUpdate hf K ht hm' hx key hy hv (Qac t (Dat.rep hh t hD)) (fun b' hb' e=>hb'.1.1 k ⟨_,hk1,by rw[e];simp[Res.bl]⟩) fun w' a' hch hs hm2 hf'=>
  h a' w' hf' (Hp.dd (hh.upd hch (fun b' hb'=>⟨_,hk1,hb'⟩) (fun b' hb'=>.inl ⟨_,hk1,hb'⟩) (fun j hj=>by cases hj) fun F B hF _ _ _ _=>?_) hj)
 exact hm2.to (Ch.refl w') (by simp) fun b' hb' _=>⟨by simp,hF b' hb'.1 hb'.2⟩
end
def Ct (P:Program)(f:FuncId)(vs:List Value)(H:List (Nat×Res))(S:List Nat)(R:Value->List (Nat×Res)->Prop):Prop:=
 ∀(w:World) (F:Nat->Prop),Hp ⟨0,[],w,S,F⟩ H w->Calls P f vs.toArray w fun e w'=>∃v H',e=.returned v/\R v H'/\Hp ⟨0,[],w,S,F⟩ H' w'
theorem Ct.enter {f:FuncId}{fn:Func}{c:Code}{vs:List Value}{n:Nat}{S:List Nat}{R:Value->List (Nat×Res)->Prop}(hf:P.funcs[f]?=some fn)(hb:fn.body=some c)(hn:fn.ntmps=n)(hm:Nat.ble vs.length n=true)
  (h: ∀w F,AX none P (bodyPost P fn fun e w'=>∃v H',e=.returned v/\R v H'/\Hp ⟨0,[],w,S,F⟩ H' w') [] c ⟨n,[],w,S,F⟩ (argl vs 0) H):Ct P f vs H S R:=fun w F hh=>
 Z.enter hf hb hn (Qi hm) fun a hfr=>h w F a w hfr ⟨hh.ch,hh.hold,hh.bnd,hh.dis,hh.ref⟩
theorem AX.ret {fn:Func}{K:List Kx}{w0:World}{S:List Nat}{F:Nat->Prop}{n:Nat}{R:Value->List (Nat×Res)->Prop}(ps:List (Nat×Nat))(v:Value)(hres: ∀a w,Fr a n [] l->Hp ⟨n,[],w0,S,F⟩ H w->(results fn a.tmps).run P w=.ok v w)(hR:R v (A.ren H ps))(h1:nod (ps.map (·.1))=true:=by rfl)(h2:nod (ps.map (·.2))=true:=by rfl):
  AX r P (bodyPost P fn fun e w'=>∃v H',e=.returned v/\R v H'/\Hp ⟨0,[],w0,S,F⟩ H' w') K .ret ⟨n,[],w0,S,F⟩ l H:=AX.ret0 fun a w hf hh=>by
 have h3:=hh.ren ps h1 h2
 exact Z.retv hf (hres a w hf hh) ⟨v,_,rfl,hR,⟨h3.ch,h3.hold,h3.bnd,h3.dis,h3.ref⟩⟩
theorem AE.ret {fn:Func}{w0:World}{S:List Nat}{F:Nat->Prop}{n:Nat}{R:Value->List (Nat×Res)->Prop}(ps:List (Nat×Nat))(v:Value)(hres: ∀a w,Fr a n [] l->Hp ⟨n,[],w0,S,F⟩ H w->(results fn a.tmps).run P w=.ok v w)(hR:R v (A.ren H ps))(h1:nod (ps.map (·.1))=true:=by rfl)(h2:nod (ps.map (·.2))=true:=by rfl):
  AE r P (bodyPost P fn fun e w'=>∃v H',e=.returned v/\R v H'/\Hp ⟨0,[],w0,S,F⟩ H' w') [] .normal ⟨n,[],w0,S,F⟩ l H:=fun a w hf hh=>by
 have h3:=hh.ren ps h1 h2
 exact Z.endv hf (hres a w hf hh) ⟨v,_,rfl,hR,⟨h3.ch,h3.hold,h3.bnd,h3.dis,h3.ref⟩⟩
end
inductive Sub (H:List (Nat×Res)):List (Nat×Res)->List (Nat×Nat)->List Nat->Prop
 |nil:Sub H [] [] []
 |s (k:Nat) {k0:Nat} {r:Res} {H0:List (Nat×Res)} {ms:List (Nat×Nat)} {ls:List Nat} (h:Sub H H0 ms ls) (h1:hk H k=some r:=by rfl) (hb:r.bl=[]:=by rfl) (hr:r.ref=none:=by rfl):Sub H ((k0,r)::H0) ms ls
 |o (k:Nat) {k0:Nat} {t:Ty} {e:TypeId} {A:Option Addr} {c:Nat} {xs:List t.den} {H0:List (Nat×Res)} {ms:List (Nat×Nat)} {ls:List Nat} (h:Sub H H0 ms ls) (h1:hk H k=some (.own t e A c xs):=by rfl):Sub H ((k0,.ln t A c xs)::H0) ms (k::ls)
 |l (k:Nat) {k0:Nat} {t:Ty} {A:Option Addr} {c:Nat} {xs:List t.den} {H0:List (Nat×Res)} {ms:List (Nat×Nat)} {ls:List Nat} (h:Sub H H0 ms ls) (h1:hk H k=some (.sh (.slice t) [.slice A xs.length c] xs):=by rfl):Sub H ((k0,.ln t A c xs)::H0) ms ls
 |nl {k0:Nat} {t:Ty} {H0:List (Nat×Res)} {ms:List (Nat×Nat)} {ls:List Nat} (h:Sub H H0 ms ls):Sub H ((k0,.ln t none 0 [])::H0) ms ls
 |ns {k0:Nat} {t:Ty} {H0:List (Nat×Res)} {ms:List (Nat×Nat)} {ls:List Nat} (h:Sub H H0 ms ls):Sub H ((k0,.sh (.slice t) [.slice none 0 0] [])::H0) ms ls
 |b (k:Nat) {k0:Nat} {g:Nat} {e:TypeId} {cs:List Value} {H0:List (Nat×Res)} {ms:List (Nat×Nat)} {ls:List Nat} (h:Sub H H0 ms ls) (h1:hk H k=some (.blk g e cs):=by rfl):Sub H ((k0,.el none g 0 cs)::H0) ms (k::ls)
 |lm (k:Nat) {k0:Nat} {κ:Type} {enc:κ->Value} {t:Ty} {agg:Bool} {b:Nat} {m:List (κ×t.den)} {H0:List (Nat×Res)} {ms:List (Nat×Nat)} {ls:List Nat} (h:Sub H H0 ms ls) (h1:hk H k=some (.mp κ enc t agg b m):=by rfl):Sub H ((k0,.lmp κ enc t agg b m)::H0) ms (k::ls)
 |m (k:Nat) {k0:Nat} {r:Res} {H0:List (Nat×Res)} {ms:List (Nat×Nat)} {ls:List Nat} (h:Sub H H0 ms ls) (h1:hk H k=some r:=by rfl) (hr:r.ref=none:=by rfl):Sub H ((k0,r)::H0) ((k0,k)::ms) ls
def blks (H:List (Nat×Res)):List (Nat×Nat)->List Nat
 | []=>[]
 |(_,k)::ms=>match hk H k with
  |some r=>r.bl++blks H ms
  |none=>blks H ms
theorem Qdq {H:List (Nat×Res)}{b:Nat}: ∀{ms:List (Nat×Nat)},b∈blks H ms↔∃p,p∈ms/\Bk H p.2 b
 | []=>by simp[blks]
 |(i,k)::ms=>by
  unfold blks
  cases hj:hk H k with
  |none=>
   simp only[]
   rw[Qdq]
   exact⟨fun⟨p,h1,h2⟩=>⟨p,Qf _ h1,h2⟩,fun⟨p,h1,h2⟩=>by
    rcases Qk.1 h1 with rfl|h1
    ·obtain⟨r,h3,_⟩:=h2;rw[hj]at h3;cases h3
    ·exact⟨p,h1,h2⟩⟩
  |some r=>
   simp only[Q0]
   rw[Qdq]
   constructor
   ·rintro(h|⟨p,h1,h2⟩)
    ·exact⟨(i,k),Qg ..,r,hj,h⟩
    ·exact⟨p,Qf _ h1,h2⟩
   ·rintro⟨p,h1,h2⟩
    rcases Qk.1 h1 with rfl|h1
    ·obtain⟨r2,h3,h4⟩:=h2;rw[hj]at h3;injection h3 with h3;subst h3;exact .inl h4
    ·exact .inr ⟨p,h1,h2⟩
theorem Sub.hp {C:Cx}{H:List (Nat×Res)}{w:World}(hh:Hp C H w){H0:List (Nat×Res)}{ms:List (Nat×Nat)}{ls:List Nat}(h:Sub H H0 ms ls)(h1:nod (H0.map (·.1))=true)(h2:nod (ms.map (·.2))=true)(h3:ls.all (fun k=> !(ms.map (·.2)).any (Nat.beq k))=true):
  Hp ⟨0,[],w,blks H ms,Fh C H⟩ H0 w:=by
 have hvis: ∀{H0:List (Nat×Res)} {k:Nat} {r:Res},hk H0 k=some r->(k,r)∈H0:=by
  intro H0
  induction H0 with
  |nil=>intro k r h;cases h
  |cons p q ih=>
   obtain⟨d,u⟩:=p
   intro k r h
   rw[Qab]at h
   split at h
   ·rename_i e;subst e;injection h with h;subst h;exact Qg ..
   ·exact Qf _ (ih h)
 have hmoved: ∀{H0:List (Nat×Res)} {ms:List (Nat×Nat)} {ls:List Nat},Sub H H0 ms ls->∀k r,(k,r)∈H0->r.ref=none/\∀b,b∈r.bl->∃j,(k,j)∈ms/\hk H j=some r:=by
  intro H0 ms ls h
  induction h with
  |nil=>intro k r hm;cases hm
  |s k _ h1 hb hr ih=>
   intro k r hm
   rcases Qk.1 hm with e|hm
   ·injection e with e1 e2;subst e1;subst e2;exact⟨hr,fun b hb2=>by rw[hb]at hb2;cases hb2⟩
   ·exact ih k r hm
  |m k _ h1 hr ih=>
   intro k r hm
   rcases Qk.1 hm with e|hm
   ·injection e with e1 e2;subst e1;subst e2;exact⟨hr,fun b hb2=>⟨_,Qg ..,h1⟩⟩
   ·obtain⟨h4,h5⟩:=ih k r hm
    exact⟨h4,fun b hb=>by obtain⟨j,h6,h7⟩:=h5 b hb;exact⟨j,Qf _ h6,h7⟩⟩
  |_=>
   rename_i ih
   intro k r hm
   rcases Qk.1 hm with e|hm
   ·injection e with e1 e2;subst e1;subst e2;exact⟨rfl,fun b hb2=>by cases hb2⟩
   ·exact ih k r hm
 have hbk: ∀k b,Bk H0 k b->∃j,(k,j)∈ms/\Bk H j b:=fun k b ⟨r,h4,h5⟩=>by
  obtain⟨j,h6,h7⟩:=(hmoved h k r (hvis h4)).2 b h5
  exact⟨j,h6,r,h7,h5⟩
 have hnb: ∀b,(∀k,¬Bk H k b)->∀k,¬Bk H0 k b:=fun b hB k hk=>by obtain⟨j,_,h4⟩:=hbk k b hk;exact hB j h4
 have hF: ∀b,Fh C H b->Fh ⟨0,[],w,blks H ms,Fh C H⟩ H0 b:=fun b hb=>⟨hnb b hb.1,.inl hb⟩
 have hholds: ∀{H1:List (Nat×Res)} {ms1:List (Nat×Nat)} {ls1:List Nat},Sub H H1 ms1 ls1->(∀k,k∈ls1->∀p,p∈ms->p.2≠k)->∀k r,(k,r)∈H1->r.holds w (Fh ⟨0,[],w,blks H ms,Fh C H⟩ H0) (Bk H0):=by
  intro H1 ms1 ls1 h
  have go: ∀k r,hk H k=some r->r.ref=none->r.holds w (Fh ⟨0,[],w,blks H ms,Fh C H⟩ H0) (Bk H0):=fun k r h4 h5=>
   Res.to (hh.hold k r h4) (S:=[]) (Ch.refl w) (fun b hb _=>⟨by simp,hF b hb⟩) (fun b hb _=>⟨by simp,hnb b hb⟩) (fun i b hi _=>by rw[h5]at hi;cases hi) (by simp)
  induction h with
  |nil=>intro _ k r hm;cases hm
  |s k _ h1 hb hr ih=>
   intro hl k r hm
   rcases Qk.1 hm with e|hm
   ·injection e with e1 e2;subst e1;subst e2;exact go _ _ h1 hr
   ·exact ih hl k r hm
  |m k _ h1 hr ih=>
   intro hl k r hm
   rcases Qk.1 hm with e|hm
   ·injection e with e1 e2;subst e1;subst e2;exact go _ _ h1 hr
   ·exact ih hl k r hm
  |o k _ h1 ih=>
   intro hl k' r hm
   rcases Qk.1 hm with e|hm
   ·injection e with e1 e2;subst e1;subst e2
    obtain⟨G,h4,h5⟩:=rowO h1 w hh
    refine Row.to h4 (S:=[]) (Ch.refl w) (fun b hb _=>⟨by simp,hF b hb⟩) fun b hb _=>⟨by simp,fun k2 hk2=>?_⟩
    obtain⟨j,h6,h7⟩:=hbk k2 b hk2
    exact hl k (Qg ..) _ h6 (hh.dis j k b h7 (h5 b hb))
   ·exact ih (fun k hk=>hl k (Qf _ hk)) k' r hm
  |b k _ h1 ih=>
   intro hl k' r hm
   rcases Qk.1 hm with e|hm
   ·injection e with e1 e2;subst e1;subst e2
    have hB:Blk w _ _ _:=hh.hold k _ h1
    refine⟨fun j u hu=>?_,hB.lt,fun k2 hk2=>?_⟩
    ·rw[Addr.add_lit,Wm,hB.cell];exact hu
    ·obtain⟨j,h6,h7⟩:=hbk k2 _ hk2
     exact hl k (Qg ..) _ h6 (hh.dis j k _ h7 ⟨_,h1,by simp[Res.bl]⟩)
   ·exact ih (fun k hk=>hl k (Qf _ hk)) k' r hm
  |lm k _ h1 ih=>
   intro hl k' r hm
   rcases Qk.1 hm with e|hm
   ·injection e with e1 e2;subst e1;subst e2
    have hB:Mt _ _ _ w (Fh C H) _ _:=hh.hold k _ h1
    refine⟨Mt.to hB (S:=[]) (Ch.refl w) (by simp) fun b hb _=>⟨by simp,hF b hb⟩,fun k2 hk2=>?_⟩
    obtain⟨j,h6,h7⟩:=hbk k2 _ hk2
    exact hl k (Qg ..) _ h6 (hh.dis j k _ h7 ⟨_,h1,by simp[Res.bl]⟩)
   ·exact ih (fun k hk=>hl k (Qf _ hk)) k' r hm
  |l k _ h1 ih=>
   intro hl k' r hm
   rcases Qk.1 hm with e|hm
   ·injection e with e1 e2;subst e1;subst e2
    obtain⟨G,h4,h5⟩:=rowS h1 w hh
    exact Row.to h4 (S:=[]) (Ch.refl w) (fun b hb _=>⟨by simp,hF b hb⟩) fun b hb _=>⟨by simp,hnb b (h5 b hb)⟩
   ·exact ih hl k' r hm
  |nl _ ih=>
   intro hl k' r hm
   rcases Qk.1 hm with e|hm
   ·injection e with e1 e2;subst e1;subst e2
    exact⟨Qo _,by simp[maxLen],[],by simp,.inl rfl,fun i x hi=>by simp at hi⟩
   ·exact ih hl k' r hm
  |ns _ ih=>
   intro hl k' r hm
   rcases Qk.1 hm with e|hm
   ·injection e with e1 e2;subst e1;subst e2;exact Qev _
   ·exact ih hl k' r hm
 have hls: ∀k,k∈ls->∀p,p∈ms->p.2≠k:=fun k hk p hp e=>by
  have h4:=Qx.1 h3 k hk
  simp only[Xt,List.any_map,Yt]at h4
  exact h4 p hp (by simp[Function.comp,e])
 refine⟨Ch.refl' _ _,fun k r hk1=>hholds h hls k r (hvis hk1),fun k b hb=>?_,fun k k' b hb hb'=>?_,fun k r j hk1 hr=>?_⟩
 ·obtain⟨j,h4,h5⟩:=hbk k b hb
  exact⟨.inr (Qdq.2 ⟨_,h4,h5⟩),(hh.bnd j b h5).2⟩
 ·obtain⟨j,h4,h5⟩:=hbk k b hb
  obtain⟨j',h6,h7⟩:=hbk k' b hb'
  exact Qia (f:=fun p:Nat×Nat=>p.2) (g:=fun p:Nat×Nat=>p.1) h2 (k,j) (k',j') h4 h6 (hh.dis j j' b h5 h7)
 ·rw[(hmoved h k r (hvis hk1)).1]at hr;cases hr
def kill:List Nat->List (Nat×Res)->List (Nat×Res)
 | [],H=>H
 |k::ks,H=>(k,.dead)::drp k (kill ks H)
theorem Qdv {H:List (Nat×Res)}: ∀{ks:List Nat} {j:Nat} {r:Res},hk (kill ks H) j=some r->r=.dead\/(hk H j=some r/\j∉ks/\∀k,k∈ks->r.ref≠some k)
 | [],j,r,h=>.inr ⟨h,by simp,by simp⟩
 |k::ks,j,r,h=>by
  unfold kill at h
  rw[Qab]at h
  split at h
  ·injection h with h;exact .inl h.symm
  ·rename_i hne
   rcases Qcw k _ j r h with h1|⟨h1,h2⟩
   ·exact .inl h1
   ·rcases Qdv h1 with h3|⟨h3,h4,h5⟩
    ·exact .inl h3
    ·refine .inr ⟨h3,fun hm=>?_,fun i hi=>?_⟩
     ·rcases Qk.1 hm with e|hm
      ·exact hne e.symm
      ·exact h4 hm
     ·rcases Qk.1 hi with rfl|hi
      ·exact h2
      ·exact h5 i hi
theorem Qex {k:Nat}: ∀{H:List (Nat×Res)} {j:Nat} {r:Res},hk H j=some r->r.ref≠some k->hk (drp k H) j=some r
 | [],_,_,h,_=>by cases h
 |(d,u)::q,j,r,h1,h2=>by
  unfold drp
  rw[Qab]at h1 ⊢
  by_cases hd:d=j
  ·rw[Qj hd]at h1 ⊢
   injection h1 with h1
   subst h1
   cases hu:u.ref with
   |none=>rfl
   |some i=>
    simp only[]
    have:Nat.beq i k=false:=by cases hb:Nat.beq i k with
     |false=>rfl
     |true=>exact absurd (by rw[hu,Ql hb]) h2
    rw[this];rfl
  ·rw[Qd hd]at h1 ⊢
   exact Qex h1 h2
theorem Qfh {H:List (Nat×Res)}: ∀{ks:List Nat} {j:Nat} {r:Res},hk H j=some r->j∉ks->(∀k,k∈ks->r.ref≠some k)->hk (kill ks H) j=some r
 | [],_,_,h,_,_=>h
 |k::ks,j,r,h,h1,h2=>by
  unfold kill
  rw[Qab,Qd (fun e=>h1 (by rw[e];exact Qg ..))]
  exact Qex (Qfh h (fun hm=>h1 (Qf _ hm)) fun i hi=>h2 i (Qf _ hi)) (h2 k (Qg ..))
def sft (n:Nat):List (Nat×Res)->List (Nat×Res)
 | []=>[]
 |(k,r)::H=>(k+n,r)::sft n H
theorem Qgx {n:Nat}{H0:List (Nat×Res)}: ∀{H:List (Nat×Res)} {j:Nat} {r:Res},hk (hcat (sft n H) H0) j=some r->(∃k,j=k+n/\hk H k=some r)\/(hk H0 j=some r/\∀k,j=k+n->hk H k=none)
 | [],j,r,h=>.inr ⟨h,fun _ _=>rfl⟩
 |(d,u)::H,j,r,h=>by
  replace h:hk ((d+n,u)::hcat (sft n H) H0) j=some r:=h
  rw[Qab]at h
  split at h
  ·rename_i e;injection h with h;subst h;exact .inl ⟨d,e.symm,by rw[Qab,Qj rfl]⟩
  ·rename_i hne
   rcases Qgx h with⟨k,h1,h2⟩|⟨h1,h2⟩
   ·exact .inl ⟨k,h1,by rw[Qab,Qd (fun e=>hne (by rw[e,h1]))];exact h2⟩
   ·exact .inr ⟨h1,fun k hk=>by rw[Qab,Qd (fun e=>hne (by rw[e,hk]))];exact h2 k hk⟩
def outs:List (Nat×Res)->Bool
 | []=>true
 |(_,r)::H=>(match r with| .ln _ _ _ _=>false| .el _ _ _ _=>false| .mit _ _ _ _ _ _=>false| .lmp _ _ _ _ _ _=>false|_=>true)&&outs H
theorem Qcm: ∀{H:List (Nat×Res)} {k:Nat} {r:Res},outs H=true->hk H k=some r->(∀t A c xs,r≠ .ln t A c xs)/\(∀k b o cs,r≠ .el k b o cs)/\r.ref=none
 | [],_,_,_,h=>by cases h
 |(d,u)::H,k,r,ho,h=>by
  simp only[outs,Qe]at ho
  rw[Qab]at h
  split at h
  ·injection h with h;subst h
   cases u<;>simp_all [Res.ref]
  ·exact Qcm ho.2 h
theorem outs_lmp: ∀{H:List (Nat×Res)} {k:Nat} {κ:Type} {enc:κ->Value} {t:Ty} {agg:Bool} {b:Nat} {m:List (κ×t.den)},outs H=true->hk H k=some (.lmp κ enc t agg b m)->False
 | [],_,_,_,_,_,_,_,_,h=>by cases h
 |(d,u)::H,k,_,_,_,_,_,_,ho,h=>by
  simp only[outs,Qe]at ho
  rw[Qab]at h
  split at h
  ·injection h with h;subst h;exact absurd ho.1 (by simp)
  ·exact outs_lmp ho.2 h
def frs (n:Nat)(H:List (Nat×Res)):List (Nat×Res)->Bool
 | []=>true
 |(k,_)::H'=>(match hk H (k+n)with|none=>true|some _=>false)&&frs n H H'
theorem Hp.back {C:Cx}{H H':List (Nat×Res)}{w w':World}{ms:List (Nat×Nat)}{n:Nat}(h:Hp C H w)(h':Hp ⟨0,[],w,blks H ms,Fh C H⟩ H' w')(ho:outs H'=true)(hf:frs n H H'=true):Hp C (hcat (sft n H') (kill (ms.map (·.2)) H)) w':=by
 have hS: ∀b,b∈blks H ms->∃k,k∈ms.map (·.2)/\Bk H k b:=fun b hb=>by
  obtain⟨p,h1,h2⟩:=Qdq.1 hb;exact⟨p.2,Wx.2 ⟨p,h1,rfl⟩,h2⟩
 have hbk: ∀j b,Bk (hcat (sft n H') (kill (ms.map (·.2)) H)) j b->(∃k,j=k+n/\Bk H' k b)\/((∀k,j=k+n->hk H' k=none)/\Bk H j b/\j∉ms.map (·.2)):=fun j b ⟨r,h1,h2⟩=>by
  rcases Qgx h1 with⟨k,h3,h4⟩|⟨h3,h4⟩
  ·exact .inl ⟨k,h3,r,h4,h2⟩
  ·rcases Qdv h3 with rfl|⟨h5,h6,_⟩
   ·cases h2
   ·exact .inr ⟨h4,⟨r,h5,h2⟩,h6⟩
 have hnew: ∀k b,Bk H' k b->(w.heap.size<=b\/b∈blks H ms)/\b<w'.heap.size:=fun k b hb=>h'.bnd k b hb
 have hold: ∀b,(∀k,¬Bk H k b)->b<w.heap.size->b∉blks H ms/\∀j,¬Bk (hcat (sft n H') (kill (ms.map (·.2)) H)) j b:=fun b hB hl=>by
  refine⟨fun hb=>by obtain⟨k,_,h1⟩:=hS b hb;exact hB k h1,fun j hj=>?_⟩
  rcases hbk j b hj with⟨k,_,h1⟩|⟨_,h1,_⟩
  ·rcases(hnew k b h1).1 with h2|h2
   ·omega
   ·obtain⟨k,_,h3⟩:=hS b h2;exact hB k h3
  ·exact hB j h1
 have hch:=h'.ch
 have hsz:w.heap.size<=w'.heap.size:=hch.size
 have hrefk: ∀j r i,hk H j=some r->r.ref=some i->i∉ms.map (·.2)->∀b,Bk H i b->Bk (hcat (sft n H') (kill (ms.map (·.2)) H)) i b:=fun j r i hj hr hi b hb=>by
  obtain⟨r2,h1,h2⟩:=hb
  have h3:=(h.ref j r i hj hr).2 r2 h1
  refine⟨r2,?_,h2⟩
  have h4:hk (kill (ms.map (·.2)) H) i=some r2:=Qfh h1 hi fun k _=>by rw[h3];simp
  have h5: ∀{H':List (Nat×Res)},frs n H H'=true->hk (hcat (sft n H') (kill (ms.map (·.2)) H)) i=some r2:=by
   intro H'
   induction H' with
   |nil=>intro _;exact h4
   |cons p q ih=>
    obtain⟨d,u⟩:=p
    intro hf
    simp only[frs,Qe]at hf
    show hk ((d+n,u)::hcat (sft n q) _) i=some r2
    rw[Qab,Qd (fun e=>by subst e;rw[h1]at hf;exact absurd hf.1 (by simp))]
    exact ih hf.2
  exact h5 hf
 refine⟨?_,fun j r hj=>?_,fun j b hj=>?_,fun j j' b hj hj'=>?_,fun j r i hj hri=>?_⟩
 ·have hc0:=h.ch
  refine⟨hch.os.trans hc0.os,hch.tape.trans hc0.tape,hch.output.trans hc0.output,Wd hc0.size hch.size,fun b hb hn=>?_⟩
  have hb2:b∉blks H ms:=fun hbS=>by
   obtain⟨k,_,h1⟩:=hS b hbS
   rcases(h.bnd k b h1).1 with h2|h2
   ·omega
   ·exact hn h2
  rw[hch.block b (Qq hb hc0.size) hb2]
  exact hc0.block b hb hn
 ·rcases Qgx hj with⟨k,rfl,h1⟩|⟨h1,_⟩
  ·obtain⟨o1,o2,o3⟩:=Qcm ho h1
   have hh:=h'.hold k r h1
   have hF: ∀b,Fh ⟨0,[],w,blks H ms,Fh C H⟩ H' b->b<w'.heap.size->Fh C (hcat (sft n H') (kill (ms.map (·.2)) H)) b:=fun b hb hl=>by
    refine⟨fun j hj=>?_,?_⟩
    ·rcases hbk j b hj with⟨k,_,h2⟩|⟨_,h2,h3⟩
     ·exact hb.1 k h2
     ·rcases hb.2 with h4|h4|h4
      ·exact h4.1 j h2
      ·have:=(h.bnd j b h2).2;have h4:w.heap.size<=b:=h4;omega
      ·obtain⟨k,h5,h6⟩:=hS b h4;exact h3 (by rw[h.dis j k b h2 h6];exact h5)
    ·rcases hb.2 with h4|h4|h4
     ·exact h4.2
     ·exact .inr (.inl (Wd h.ch.size h4))
     ·obtain⟨k,_,h6⟩:=hS b h4;exact .inr (h.bnd k b h6).1
   cases r with
   |ln t A c xs=>exact absurd rfl (o1 t A c xs)
   |el k b o cs=>exact absurd rfl (o2 k b o cs)
   |mit k g b n seen la=>cases o3
   |dead=>trivial
   |sh t cs x=>exact rep_to hh (S:=[]) (Ch.refl w') fun b hb hl=>⟨by simp,hF b hb hl⟩
   |own t e A c xs=>exact Own.to hh (S:=[]) (Ch.refl w') (by simp) fun b hb hl=>⟨by simp,hF b hb hl⟩
   |blk g e cs=>exact hh
   |mp κ enc t agg b m=>exact Mt.to hh (S:=[]) (Ch.refl w') (by simp) fun b hb hl=>⟨by simp,hF b hb hl⟩
   |si g s p=>exact hh
   |ob g p=>exact hh
   |lmp κ enc t agg b m=>exact(outs_lmp ho h1).elim
   |mr κ enc t e b As m=>exact Mr.to hh (S:=[]) (Ch.refl w') (by simp) fun b hb hl=>⟨by simp,hF b hb hl⟩
   |gn bs p hp=>exact hp hh (S:=[]) (Ch.refl w') (by simp) fun b hb hl=>⟨by simp,hF b hb hl⟩
  ·rcases Qdv h1 with rfl|⟨h2,h3,h4⟩
   ·trivial
   ·refine Res.to (h.hold j r h2) hch (fun b hb hl=>⟨(hold b hb.1 hl).1,(hold b hb.1 hl).2,hb.2⟩) (fun b hb hl=>hold b hb hl) (fun i b hi hB=>⟨fun hbS=>?_,?_⟩) fun b hb hbS=>?_
    ·obtain⟨k,h5,h6⟩:=hS b hbS;exact h4 k h5 (by rw[hi,h.dis i k b hB h6])
    ·exact hrefk j r i h2 hi (fun hm=>h4 i hm hi) b hB
    ·obtain⟨k,h5,h6⟩:=hS b hbS;exact h3 (by rw[h.dis j k b ⟨r,h2,hb⟩ h6];exact h5)
 ·rcases hbk j b hj with⟨k,_,h1⟩|⟨_,h1,_⟩
  ·obtain⟨h2,h3⟩:=hnew k b h1
   refine⟨?_,h3⟩
   rcases h2 with h2|h2
   ·exact .inl (Wd h.ch.size h2)
   ·obtain⟨k,_,h6⟩:=hS b h2;exact(h.bnd k b h6).1
  ·exact⟨(h.bnd j b h1).1,Qq (h.bnd j b h1).2 hsz⟩
 ·have cross: ∀k j b,Bk H' k b->Bk H j b->j∉ms.map (·.2)->False:=fun k j b h1 h2 h3=>by
   rcases(hnew k b h1).1 with h4|h4
   ·have:=(h.bnd j b h2).2;omega
   ·obtain⟨i,h5,h6⟩:=hS b h4;exact h3 (by rw[h.dis j i b h2 h6];exact h5)
  rcases hbk j b hj with⟨k,rfl,h1⟩|⟨_,h1,h3⟩<;>rcases hbk j' b hj' with⟨k',rfl,h2⟩|⟨_,h2,h4⟩
  ·rw[h'.dis k k' b h1 h2]
  ·exact(cross k j' b h1 h2 h4).elim
  ·exact(cross k' j b h2 h1 h3).elim
  ·exact h.dis j j' b h1 h2
 ·rcases Qgx hj with⟨k,rfl,h1⟩|⟨h1,_⟩
  ·rw[(Qcm ho h1).2.2]at hri;cases hri
  ·rcases Qdv h1 with rfl|⟨h2,h3,h4⟩
   ·cases hri
   ·obtain⟨h5,h6⟩:=h.ref j r i h2 hri
    refine⟨h5,fun r2 h7=>?_⟩
    rcases Qgx h7 with⟨k,rfl,h8⟩|⟨h8,_⟩
    ·exact(Qcm ho h8).2.2
    ·rcases Qdv h8 with rfl|⟨h9,_⟩
     ·rfl
     ·exact h6 r2 h9
section
variable {r:Option Nat}{P:Program}{ops:Array Oper}{Q:Exit->Act->World->Prop}{rest lst:List Oper}{C:Cx}{l:List (Nat×Value)}{H:List (Nat×Res)}{d:Nat}{T:TypeId}{pos:String}{af:Array Edge}
theorem Qfe {H:List (Nat×Res)}: ∀(ks:List Nat) (j:Nat),hk (kill ks H) j=bif ks.any (Nat.beq j)then some .dead else(hk H j).map fun v=>bif rin ks v.ref then .dead else v
 | [],j=>by
  show hk H j=(hk H j).map _
  cases hk H j with
  |none=>rfl
  |some v=>cases hv:v.ref<;>simp[rin,hv]
 |k::ks,j=>by
  show hk ((k,.dead)::drp k (kill ks H)) j=_
  rw[Qab,Qcq,Qfe ks j,Jq]
  by_cases hjk:k=j
  ·subst hjk;simp
  have hbe:Nat.beq j k=false:=by cases hb:Nat.beq j k with
   |false=>rfl
   |true=>exact absurd (Ql hb).symm hjk
  rw[Qd hjk,hbe]
  revert hbe;intro _
  cases ks.any (Nat.beq j)<;>cases hv:hk H j<;>try rfl
  rename_i v
  cases hr:v.ref with
  |none=>simp[rin,hr]
  |some i=>simp only[cond_false,Jr,Q7,rin,hr,Jq,List.any_nil,Bool.or_false];cases hb:ks.any (Nat.beq i)<;>cases hb2:Nat.beq i k<;>simp_all [rin,Res.ref]
def kld (js:List Nat)(H:List (Nat×Res))(ks:List Nat):List (Nat×Res):=ded ks (ded js H)
theorem hk_kld {H:List (Nat×Res)}{ks js:List Nat}(h:hng ks js H=true)(j:Nat):hk (kld js H ks) j=hk (kill ks H) j\/(hk (kld js H ks) j=some .dead/\hk (kill ks H) j=none):=by
 rw[kld,Qgw,Qgw,Qfe]
 cases ks.any (Nat.beq j)with
 |true=>exact .inl rfl
 |false=>exact hng_at h j
theorem hk_hcat: ∀{A H H':List (Nat×Res)},(∀j,hk H' j=hk H j\/(hk H' j=some .dead/\hk H j=none))->∀j,hk (hcat A H') j=hk (hcat A H) j\/(hk (hcat A H') j=some .dead/\hk (hcat A H) j=none)
 | [],_,_,h,j=>h j
 |(d,u)::A,H,H',h,j=>by
  show hk ((d,u)::hcat A H') j=hk ((d,u)::hcat A H) j\/(hk ((d,u)::hcat A H') j=some .dead/\hk ((d,u)::hcat A H) j=none)
  rw[Qab,Qab]
  by_cases h2:d=j
  ·rw[Qj h2,Qj h2];exact .inl rfl
  ·rw[Qd h2,Qd h2];exact hk_hcat (A:=A) h j
theorem AL.call (n:Nat)(js:List Nat){f:FuncId}{c:Operand}{xs:List Operand}{vs vs' first cap:List Value}{ts:Array TypeId}{H0:List (Nat×Res)}{ms:List (Nat×Nat)}{ls:List Nat}{S:List Nat}{R:Value->List (Nat×Res)->Prop}
  (hcf: ∀args w,(callFunc f args).run P w=.ok (.enter f args) w) (hct:Ct P f vs' H0 S R) (hs:Sub H H0 ms ls)
  (h: ∀v H',R v H'->(outs H'&&frs n H H')=true/\AL r P ops Q rest C ((d,v)::l) (hcat (sft n H') (kld js H (ms.map (·.2)))))
  (hc:ev l c=some (.func (.func f) first.toArray cap.toArray):=by rfl) (hx:evs l xs=some vs:=by rfl) (hv:first++vs++cap=vs':=by rfl) (hS:blks H ms=S:=by rfl) (h1:nod (H0.map (·.1))=true:=by rfl) (h2:nod (ms.map (·.2))=true:=by rfl) (h3:ls.all (fun k=> !(ms.map (·.2)).any (Nat.beq k))=true:=by rfl) (hd:Nat.ble (d+1) C.n=true:=by rfl) (hj:hng (ms.map (·.2)) js H=true:=by kernel_rfl):
  AL r P ops Q (⟨some d,.call {callee:=.value c,args:=xs.toArray,argTypes:=ts},T,pos,af,none⟩::rest) C l H:=fun a w hf hh=>by
 subst hS;subst hv
 refine Z.call1 hf hd (r_callv hcf hf (first:=first) (cap:=cap) (vs:=vs) (xs:=xs) hc hx) (hct w (Fh C H) (hs.hp hh h1 h2 h3)) fun e w' ⟨v,H',he,hR,hh'⟩=>⟨v,he,fun a' hf'=>?_⟩
 obtain⟨h4,h5⟩:=h v H' hR
 rw[Qe]at h4
 exact h5 a' w' hf' ((hh.back hh' h4.1 h4.2).ext (hk_hcat (hk_kld hj)))
end
theorem pk_kont {r:Option Nat}{P:Program}{Y:Exit->Act->World->Prop}(hp:Pq Y): ∀{K:List Kx},Pq (kont r P Y K)
 | []=>hp
 | .c _::K=>fun c a d v w h=>pk_kont hp (K:=K) c a d v w h
 | .b _::K=>fun c a d v w h=>pk_kont hp (K:=K) c a d v w h
 | .m _::K=>fun c a d v w h=>pk_kont hp (K:=K) c a d v w h
 | .s::K=>fun c a d v w h=>pk_kont hp (K:=K) c a d v w h
section
variable {r:Option Nat}{P:Program}{ops:Array Oper}{Q:Exit->Act->World->Prop}{S S':World->Prop}{m:Nat}
def gn (ops:Array Oper)(li:Array Bool)(m:Nat):Bool:=(ops[m]?).isSome&&li.getD m false
def Hem (r:Option Nat)(P:Program)(ops:Array Oper)(Q:Exit->Act->World->Prop)(S:World->Prop)(m:Nat):Nat->Array Bool->Act->World->Prop
 |0,listed,a,w=>Region.ready .any ops listed=[]/\Q .normal a w
 |f+1,listed,a,w=>(Region.ready .any ops listed=[]->Q .normal a w)/\
  ∀i∈Region.ready .any ops listed,wpOpIn (FW r) 0 P ops Q i (fun a' w'=>(gn ops (listed.setIfInBounds i true) m=false->S w')/\Hem r P ops Q S m f (listed.setIfInBounds i true) a' w') a w
theorem Hem.any: ∀(f:Nat) (listed:Array Bool) (a:Act) (w:World),Hem r P ops Q S m f listed a w->wpAnyIn (FW r) 0 P .any ops Q f listed a w
 |0,_,_,_,h=>h
 |f+1,_,_,_,h=>⟨h.1,fun i hi=>wpOpIn_mono (fun a' w' h'=>Hem.any f _ a' w' h'.2) (h.2 i hi)⟩
def bonf (ops:Array Oper)(i:Nat):Nat->Nat->Bool
 |0,_=>false
 |f+1,m=>match ops[m]? with
  |none=>false
  |some o=>(o.after.any fun e=>Region.binds .any e&&Nat.beq e.on i)||o.after.any fun e=>Region.binds .any e&&bonf ops i f e.on
def bon (ops:Array Oper)(m i:Nat):Bool:=match ops[m]? with
 |none=>true
 |some _=> !(Nat.beq i m)&&bonf ops i 12 m
def Clo (ops:Array Oper)(li:Array Bool):Prop:=∀k o,ops[k]?=some o->li.getD k false=true->∀e∈o.after,Region.binds .any e=true->li.getD e.on false=true
def cloB (ops:Array Oper)(li:Array Bool):Bool:=(List.range ops.size).all fun k=>match ops[k]? with
 |none=>true
 |some o=> !(li.getD k false)||o.after.all fun e=> !(Region.binds .any e)||li.getD e.on false
theorem clo_of {ops:Array Oper}{li:Array Bool}(h:cloB ops li=true):Clo ops li:=fun k o hk hl e he hb=>by
 have:=Qx.1 h k (Yw.2 (Qp.1 hk).1)
 rw[hk]at this
 simp only[hl,Bool.not_true,Jr]at this
 have h2:=(Array.all_eq_true_iff_forall_mem.1 this) e he
 simpa[hb] using h2
theorem Qeo {li:Array Bool}{j k:Nat}(h:li.getD k false=true):(li.setIfInBounds j true).getD k false=true:=by
 by_cases e:j=k
 ·subst e
  by_cases hs:j<li.size
  ·simp[hs]
  ·simp[X9 (Nat.le_of_not_lt hs)]at h
 ·rw[getD_set_ne false e];exact h
theorem Clo.step {ops:Array Oper}{li:Array Bool}{j:Nat}(h:Clo ops li)(hj:j∈Region.ready .any ops li):Clo ops (li.setIfInBounds j true):=fun k o hk hl e he hb=>by
 by_cases hjk:j=k
 ·subst hjk
  obtain⟨_,oj,hoj,hall⟩:=mem_ready.1 hj
  rw[hk]at hoj;injection hoj with hoj;subst hoj
  exact Qeo (hall e he hb)
 ·rw[getD_set_ne false hjk]at hl
  exact Qeo (h k o hk hl e he hb)
theorem Qem {ops:Array Oper}{li:Array Bool}{i:Nat}(hc:Clo ops li): ∀(f m:Nat) {o:Oper},ops[m]?=some o->(∀e∈o.after,Region.binds .any e=true->li.getD e.on false=true)->bonf ops i f m=true->li.getD i false=true
 |0,_,_,_,_,h=>by cases h
 |f+1,m,o,hm,ha,h=>by
  unfold bonf at h
  rw[hm]at h
  simp only[Xz,Array.any_eq_true']at h
  rcases h with⟨e,he,hb⟩|⟨e,he,hb⟩
  ·rw[Qe]at hb
   rw[<-Ql hb.2];exact ha e he hb.1
  ·rw[Qe]at hb
   have h1:=hb.2
   cases f with
   |zero=>cases h1
   |succ f=>
    cases ho:ops[e.on]? with
    |none=>unfold bonf at h1;rw[ho]at h1;cases h1
    |some o'=>exact Qem hc (f+1) e.on ho (hc e.on o' ho (ha e he hb.1)) h1
theorem gn_ne {li:Array Bool}{i:Nat}(h:i≠m):gn ops (li.setIfInBounds i true) m=gn ops li m:=by unfold gn;rw[getD_set_ne false h]
theorem Qfq {li:Array Bool}{j:Nat}(h:gn ops (li.setIfInBounds j true) m=false):gn ops li m=false:=by
 cases hg:gn ops li m with
 |false=>rfl
 |true=>
  unfold gn at h hg
  rw[Qe]at hg
  rw[hg.1,Qeo hg.2]at h;cases h
theorem bon_ne {i:Nat}{oi:Oper}(hi:ops[i]?=some oi)(h:bon ops m i=true):i≠m:=fun e=>by
 subst e
 unfold bon at h
 rw[hi]at h
 simp only[Qe,Y3,Bool.not_true,Wo,false_and]at h
theorem bon_gn {li:Array Bool}{i:Nat}(hc:Clo ops li)(hb:bon ops m i=true)(hr:i∈Region.ready .any ops li):gn ops li m=false:=by
 cases hg:gn ops li m with
 |false=>rfl
 |true=>
  unfold gn at hg
  rw[Qe]at hg
  unfold bon at hb
  cases hm:ops[m]? with
  |none=>rw[hm]at hg;cases hg.1
  |some om=>
   rw[hm]at hb
   simp only[Qe]at hb
   have hl:=Qem hc 12 m hm (hc m om hm hg.2) hb.2
   have h0:=(mem_ready.1 hr).1
   by_cases hsz:i<li.size
   ·simp[hsz]at h0 hl;rw[h0]at hl;cases hl
   ·simp[X9 (Nat.le_of_not_lt hsz)]at hl
theorem Hem.first {T:World->Prop}{i:Nat}{oi:Oper}{v:Value}(hn:Qbx ops=true)(hi:ops[i]?=some oi)(hs:Region.noSelect ops=true)(hne:i≠m)(hb:(bon ops m i=true/\∀w,S w->T w)\/∀w,T w)(hQ: ∀c a w,Q (.panic c) (a.put oi.dst v) w->Q (.panic c) a w): ∀(f:Nat) (listed:Array Bool) (a:Act) (w:World),Clo ops listed->
  (∀j oj,ops[j]?=some oj->j≠i->listed.getD j true=false->(∀e∈oj.after,Region.binds .any e=true->e.on≠i)->oi.apart ops oj=true)->i∈Region.ready .any ops listed->YieldsIf P ops T oi v a->(gn ops listed m=false->S w)->
  Hem r P ops Q S m f (listed.setIfInBounds i true) (a.put oi.dst v) w->Hem r P ops Q S m (f+1) listed a w
 |0,listed,a,w,hcl,_,hr,hy,hS,H=>⟨fun h=>(by rw[h]at hr;cases hr),fun j hj=>by
   have hT:T w:=by
    rcases hb with hb|hb
    ·exact hb.2 w (hS (bon_gn hcl hb.1 hr))
    ·exact hb w
   by_cases hji:j=i
   ·subst hji;exact Hel.op (Qbt hn hi) hi hy hT ⟨fun h=>hS (Qfq h),H⟩
   ·have:=ready_mono hj hji;rw[H.1]at this;cases this⟩
 |f+1,listed,a,w,hcl,hfree,hr,hy,hS,H=>⟨fun h=>(by rw[h]at hr;cases hr),fun j hj=>by
   have hT:T w:=by
    rcases hb with hb|hb
    ·exact hb.2 w (hS (bon_gn hcl hb.1 hr))
    ·exact hb w
   by_cases hji:j=i
   ·subst hji;exact Hel.op (Qbt hn hi) hi hy hT ⟨fun h=>hS (Qfq h),H⟩
   ·have h1:=H.2 j (ready_mono hj hji)
    obtain⟨hun,oj,hoj,hall⟩:=mem_ready.1 hj
    have hno: ∀e∈oj.after,Region.binds .any e=true->e.on≠i:=fun e he hb heq=>by
     have hl:=hall e he hb
     have h0:=(mem_ready.1 hr).1
     rw[heq]at hl
     by_cases hsz:i<listed.size
     ·simp[hsz]at h0 hl;rw[h0]at hl;cases hl
     ·simp[X9 (Nat.le_of_not_lt hsz)]at hl
    have h2:=Hel.put (Qbt hn hoj) hoj (hfree j oj hoj hji hun hno) (fun cs b=>Region.noSelect_spec hs i oi cs b hi) (fun cs b=>Region.noSelect_spec hs j oj cs b hoj) hQ hy h1
    refine wpOpIn_mono (fun a' w' h3=>?_) h2
    have hS':gn ops (listed.setIfInBounds j true) m=false->S w':=fun h=>h3.2.1 (by rw[Array.setIfInBounds_comm _ _ (Ne.symm hji),gn_ne hne];exact h)
    refine⟨hS',Hem.first hn hi hs hne hb hQ f _ a' w' (hcl.step hj) (fun k ok hk hki hkun hkno=>hfree k ok hk hki ?_ hkno) (ready_mono hr (Ne.symm hji)) h3.1 hS' ?_⟩
    ·by_cases hjk:j=k
     ·subst hjk;exact hun
     ·rwa[getD_set_ne true hjk]at hkun
    ·rw[Array.setIfInBounds_comm _ _ hji];exact h3.2.2⟩
theorem Hem.str (hS: ∀w,S' w->S w): ∀(f:Nat) (li:Array Bool) (a:Act) (w:World),Hem r P ops Q S' m f li a w->Hem r P ops Q S m f li a w
 |0,_,_,_,h=>h
 |f+1,li,a,w,h=>⟨h.1,fun i hi=>wpOpIn_mono (fun a' w' h'=>⟨fun hm=>hS w' (h'.1 hm),Hem.str hS f _ a' w' h'.2⟩) (h.2 i hi)⟩
def HZ (r:Option Nat)(P:Program)(ops:Array Oper)(Q:Exit->Act->World->Prop)(S:World->Prop)(m fuel:Nat)(listed:Array Bool)(i:Nat):Exit->Act->World->Prop
 | .normal,a,w=>(gn ops (listed.setIfInBounds i true) m=false->S w)/\Hem r P ops Q S m fuel (listed.setIfInBounds i true) a w
 |e,a,w=>Q e a w
theorem Hem.list {a:Act}{w:World}{fuel:Nat}{listed:Array Bool}{i:Nat}{o:Oper}(hi:ops[i]?=some o)(h:WL r P ops (HZ r P ops Q S m fuel listed i) [o] a w):wpOpIn (FW r) 0 P ops Q i (fun a' w'=>(gn ops (listed.setIfInBounds i true) m=false->S w')/\Hem r P ops Q S m fuel (listed.setIfInBounds i true) a' w') a w:=by
 unfold wpOpIn
 rw[hi]
 simp only[]
 unfold WL wpListIn at h
 by_cases hw:Region.wanted o (yielded ops a.tmps)=true
 ·rw[Qj hw]at h ⊢
  refine⟨h.1,?_⟩
  have h:=h.2
  generalize (o.semAt (FW r).round a.eval).run P w=res at h ⊢
  cases res with
  |ok x w'=>
   cases x with
   |enter f args=>exact⟨h.1,CallsIn.mono h.2 fun e w'' he=>by cases e<;>first|exact he|exact he.elim fun _ hh=>hh.elim fun _ hh=>⟨_,_,hh⟩⟩
   |row row args=>exact⟨h.1,RowsIn.mono h.2 fun _ _ he=>he⟩
   |round l f tmps assign body=>exact⟨h.1,RoundIn.mono h.2 fun e w'' he=>by cases e<;>first|exact he|exact he.elim fun _ hh=>hh.elim fun _ hh=>⟨_,_,hh⟩⟩
   |_=>exact h
  |halt x w'=>cases x<;>exact h
 ·rw[Qd hw]at h ⊢
  exact h
section
variable {K:Kn}{w:World}{n:Nat}{ds:List Deferred}
theorem dqm_walk {li':Array Bool}{f:Nat}(hn:(Region.noSelect ops&&Qbx ops)=true)(hQ: ∀c a d v w,Q (.panic c) (Act.put a d v) w->Q (.panic c) a w){bb:Nat->Bool}(hbb: ∀i,bb i=true->∀o,ops[i]?=some o->i≠m/\((bon ops m i=true/\∀w,S w->K.ok w)\/∀w,K.ok w)):
  ∀{is:List (Nat×Hint)} {li:Array Bool} {s s':QS} {a:Act},(gn ops li m=false->S w)->Clo ops li->is.all (fun p=>bb p.1)=true->dqs P K n ops is li s=some (li',s')->(∀p,p∈s'.c->p)->(∀p,p∈s'.q->p.1=p.2)->s.ok a n ds->(∀a',s'.ok a' n ds->Hem r P ops Q S m f li' a' w)->Hem r P ops Q S m (f+is.length) li a w
 | [],_,s,s',a,_,_,_,hq,_,_,hs,h=>by simp only[dqs,Qc,Qr]at hq;obtain⟨h1,h2⟩:=hq;subst h1;subst h2;exact h a hs
 |(i,g)::is,li,s,s',a,hS,hcl,hb,hq,hc,he,hs0,h=>by
  have hn':=hn
  rw[Qe]at hn
  rw[Js,Qe]at hb
  unfold dqs at hq
  split at hq
  ·rename_i o hi
   split at hq
   ·rename_i hfr
    rw[Qe]at hfr
    split at hq
    ·rename_i s1 h1
     have hle:=dqs_le hq
     obtain⟨d,v,hd,k1,k2,k3⟩:=o_cS hs0 h1 (fun p hp=>hc p (hle.c p hp)) (fun p hp=>he p (hle.q p hp))
     have hrest:Hem r P ops Q S m (f+is.length) (li.setIfInBounds i true) (a.put (some d) v) w:=dqm_walk hn' hQ hbb (fun hg=>hS (Qfq hg)) (hcl.step (by simpa using hfr.2)) hb.2 hq hc he k1 h
     obtain⟨hne,hb1⟩:=hbb i hb.1 o hi
     refine Hem.first (T:=K.ok) hn.2 hi hn.1 hne hb1 (fun c a w=>hQ c a _ v w) _ li a w hcl (Region.free_spec hi hfr.1) (by simpa using hfr.2) ?_ hS (by rw[hd];exact hrest)
     rcases k3 with⟨hw,hv⟩|⟨hw,rfl⟩
     ·exact .inl ⟨hw,hv⟩
     ·exact .inr ⟨hw,rfl⟩
    ·cases hq
   ·cases hq
  ·cases hq
end
variable {C:Cx}{l:List (Nat×Value)}{H Hq:List (Nat×Res)}{f:Nat}{li:List Bool}
abbrev AH (r:Option Nat) (P:Program) (ops:Array Oper) (Q:Exit->Act->World->Prop) (Hq:List (Nat×Res)) (m f:Nat) (li:List Bool) (C:Cx) (l:List (Nat×Value)) (H:List (Nat×Res)):Prop:=
 ∀a w,Fr a C.n C.ds l->Hp C H w->Hem r P ops Q (Hp C Hq) m f li.toArray a w
theorem Hp.drew {w w':World}(h:Hp C H w)(hc:Ch [] w w'):Hp C H w':=by
 refine⟨?_,fun k r hk1=>?_,fun k b hb=>?_,h.dis,h.ref⟩
 ·have hch:=h.ch
  exact⟨hc.os.trans hch.os,hc.tape.trans hch.tape,hc.output.trans hch.output,Wd hch.size hc.size,fun b hb' hn=>by rw[hc.block b (Qq hb' hch.size) (by simp)];exact hch.block b hb' hn⟩
 ·exact Res.to (h.hold k r hk1) hc (fun b hF _=>⟨by simp,hF⟩) (fun b hB _=>⟨by simp,hB⟩) (fun i b _ hB=>⟨by simp,hB⟩) (by simp)
 ·exact⟨(h.bnd k b hb).1,Qq (h.bnd k b hb).2 hc.size⟩
theorem AX.dr {Y:Exit->Act->World->Prop}{K:List Kx}{id:Nat}{lo:List Oper}(hm:P.follows .mixedOrders=true)(m f:Nat)(li:List Bool)(h:AH r P lo.toArray (kont r P Y K) [] m f li C l H)(hf1:lo.toArray.size=f:=by rfl)(hl:(Array.replicate lo.toArray.size false).toList=li:=by kernel_rfl):
  AX r P Y K (.region id lo.toArray true) C l H:=fun a w hf hh=>by
 subst hf1;subst hl
 have:=h a _ hf (Hp.drew hh (Ch.drew w))
 rw[Q4]at this
 exact wpIn_region_any hm (Hem.any _ _ _ _ this)
theorem AH.str (gs:List Nat){Hq':List (Nat×Res)}(h:AH r P ops Q Hq' m f li C l H)(e:kpH Hq' gs gs=Hq:=by kernel_rfl):AH r P ops Q Hq m f li C l H:=fun a w hf hh=>
 Hem.str (fun w h=>h.cov gs e) _ _ a w (h a w hf hh)
theorem AH.q (hQ:Pq Q)(gs qs bs es:List Nat)(li':List Bool)(f:Nat)(is:List (Nat×Hint))(ks:List Nat)(cs:List Prop)(nl:List (Nat×Value)){g:Nat}(hc:conj cs)(h:AH r P ops Q (kpH H qs qs) m f li' C (cat nl l) H)
  (hg:g=f+is.length:=by rfl) (hb:is.all (fun p=>bon ops m p.1)=true:=by kernel_rfl) (hcl:cloB ops li.toArray=true:=by kernel_rfl) (hn:(Region.noSelect ops&&Qbx ops)=true:=by kernel_rfl)
  (hq:((dqs P ⟨knb (kpH H qs qs) bs,kne (kpH H qs qs) es⟩ C.n ops is li.toArray (q0 l)).bind fun x=>(qfin l ks x.2).map fun y=>(x.1.toList,y))=some (li',cs,nl):=by kernel_rfl)
  (he:(dqs P ⟨knb (kpH H qs qs) bs,kne (kpH H qs qs) es⟩ C.n ops is li.toArray (q0 l)).map (fun s=>s.2.q.map Prod.fst)=(dqs P ⟨knb (kpH H qs qs) bs,kne (kpH H qs qs) es⟩ C.n ops is li.toArray (q0 l)).map (fun s=>s.2.q.map Prod.snd):=by kernel_rfl)
  (e:kpH (kpH H qs qs) gs gs=Hq:=by kernel_rfl):AH r P ops Q Hq m g li C l H:=AH.str gs (e:=e) fun a w hf hh=>by
 subst hg
 cases hq1:dqs P ⟨knb (kpH H qs qs) bs,kne (kpH H qs qs) es⟩ C.n ops is li.toArray (q0 l)with
 |none=>rw[hq1]at hq;cases hq
 |some x=>
  obtain⟨li1,s'⟩:=x
  rw[hq1]at hq he
  have hq:((qfin l ks s').map fun y=>(li1.toList,y))=some (li',cs,nl):=hq
  have he:s'.q.map Prod.fst=s'.q.map Prod.snd:=by injection he
  cases hq2:qfin l ks s' with
  |none=>rw[hq2]at hq;cases hq
  |some y=>
   obtain⟨cs1,nl1⟩:=y
   rw[hq2]at hq
   simp only[Q7,Qc,Qr]at hq
   obtain⟨h1,h2,h3⟩:=hq
   subst h1;subst h2;subst h3
   have hcs:s'.c=cs1:=by unfold qfin at hq2;split at hq2;(injection hq2 with hq2;injection hq2);cases hq2
   exact dqm_walk hn hQ (bb:=fun i=>bon ops m i) (fun i hi o ho=>⟨bon_ne ho hi,.inl ⟨hi,fun w' h'=>o_cU h' bs es⟩⟩) (fun _=>hh.keep qs) (clo_of hcl) hb hq1 (by rw[hcs];exact Qfr hc) (Qeu he) (o_cT hf) fun a' hok=>by
    have:=h a' w (qfin_fr hok (dqs_inv (q0_inv l) hq1) hq2).1 hh
    rwa[Q4]at this
theorem AH.v (hQ:Pq Q)(gs qs:List Nat)(i:Nat)(li':List Bool){d:Nat}{op:Op}{T:TypeId}{pos:String}{af:Array Edge}{v:Value}(hi:ops[i]?=some ⟨some d,op,T,pos,af,none⟩)(hr: ∀a w,Fr a C.n C.ds l->Hp C (kpH H qs qs) w->(execOp a.eval ⟨some d,op,T,pos,af,none⟩).run P w=.ok (.value v) w)
  (h:AH r P ops Q (kpH H qs qs) m f li' C ((d,v)::l) H) (hb:bon ops m i=true:=by kernel_rfl) (hcl:cloB ops li.toArray=true:=by kernel_rfl) (hl:(li.toArray.setIfInBounds i true).toList=li':=by kernel_rfl) (hd:Nat.ble (d+1) C.n=true:=by rfl) (hs:(Region.noSelect ops&&Qbx ops)=true:=by kernel_rfl)
  (hfr:(Region.free .any ops li.toArray i&&(Region.ready .any ops li.toArray).contains i)=true:=by kernel_rfl) (e:kpH (kpH H qs qs) gs gs=Hq:=by kernel_rfl):AH r P ops Q Hq m (f+1) li C l H:=AH.str gs (e:=e) fun a w hf hh=>by
 rw[Qe]at hs hfr
 refine Hem.first (T:=Hp C (kpH H qs qs)) hs.2 hi hs.1 (bon_ne hi hb) (.inl ⟨hb,fun _ h=>h⟩) (fun c a w=>hQ c a _ _ w) f li.toArray a w (clo_of hcl) (Region.free_spec hi hfr.1) (by simpa using hfr.2) (.inl ⟨Qci,fun w' h'=>hr a w' hf h'⟩) (fun _=>hh.keep qs) ?_
 have:=h _ w (hf.put (Qi hd) v) hh
 rw[<-hl,Q4]at this
 exact this
theorem AH.vg (hQ:Pq Q)(gs qs:List Nat)(i:Nat)(li':List Bool){d j dj:Nat}{b:Bool}{op:Op}{T:TypeId}{pos:String}{af:Array Edge}{v:Value}(hi:ops[i]?=some ⟨some d,op,T,pos,af,some (j,b)⟩)(hr: ∀a w,Fr a C.n C.ds l->Hp C (kpH H qs qs) w->(execOp a.eval ⟨some d,op,T,pos,af,none⟩).run P w=.ok (.value v) w)
  (h:AH r P ops Q (kpH H qs qs) m f li' C ((d,v)::l) H) (hj:(ops[j]?).bind (·.dst)=some dj:=by rfl) (hbb:lk l dj=some (.bool b):=by rfl) (hb:bon ops m i=true:=by kernel_rfl) (hcl:cloB ops li.toArray=true:=by kernel_rfl) (hl:(li.toArray.setIfInBounds i true).toList=li':=by kernel_rfl) (hd:Nat.ble (d+1) C.n=true:=by rfl) (hs:(Region.noSelect ops&&Qbx ops)=true:=by kernel_rfl)
  (hfr:(Region.free .any ops li.toArray i&&(Region.ready .any ops li.toArray).contains i)=true:=by kernel_rfl) (e:kpH (kpH H qs qs) gs gs=Hq:=by kernel_rfl):AH r P ops Q Hq m (f+1) li C l H:=AH.str gs (e:=e) fun a w hf hh=>by
 rw[Qe]at hs hfr
 refine Hem.first (T:=Hp C (kpH H qs qs)) hs.2 hi hs.1 (bon_ne hi hb) (.inl ⟨hb,fun _ h=>h⟩) (fun c a w=>hQ c a _ _ w) f li.toArray a w (clo_of hcl) (Region.free_spec hi hfr.1) (by simpa using hfr.2) (.inl ⟨Qck hf hj hbb,fun w' h'=>hr a w' hf h'⟩) (fun _=>hh.keep qs) ?_
 have:=h _ w (hf.put (Qi hd) v) hh
 rw[<-hl,Q4]at this
 exact this
theorem AH.one (i:Nat){o:Oper}(h:AL r P ops (HZ r P ops Q (Hp C Hq) m f li.toArray i) [o] C l H)(hi:ops[i]?=some o:=by rfl)(hr:Region.ready .any ops li.toArray=[i]:=by kernel_rfl):AH r P ops Q Hq m (f+1) li C l H:=fun a w hf hh=>
 ⟨fun h0=>(by rw[hr]at h0;cases h0),fun j hj=>by rw[hr,Qm]at hj;subst hj;exact Hem.list hi (h a w hf hh)⟩
theorem AH.two (i j:Nat){oi oj:Oper}(h1:AL r P ops (HZ r P ops Q (Hp C Hq) m f li.toArray i) [oi] C l H)(h2:AL r P ops (HZ r P ops Q (Hp C Hq) m f li.toArray j) [oj] C l H)(hi:ops[i]?=some oi:=by rfl)(hj:ops[j]?=some oj:=by rfl)(hr:Region.ready .any ops li.toArray=[i,j]:=by kernel_rfl):
  AH r P ops Q Hq m (f+1) li C l H:=fun a w hf hh=>
 ⟨fun h0=>(by rw[hr]at h0;cases h0),fun k hk=>by
  rw[hr]at hk
  simp only[Qk,List.not_mem_nil,or_false]at hk
  rcases hk with rfl|rfl
  ·exact Hem.list hi (h1 a w hf hh)
  ·exact Hem.list hj (h2 a w hf hh)⟩
theorem AH.nx {i:Nat}(li':List Bool)(gs:List Nat)(h:AH r P ops Q Hq m f li' C l H)(e:kpH H gs gs=Hq:=by kernel_rfl)(hl:(li.toArray.setIfInBounds i true).toList=li':=by kernel_rfl):AL r P ops (HZ r P ops Q (Hp C Hq) m f li.toArray i) [] C l H:=fun a w hf hh=>by
 refine Z.done ?_
 show(_->Hp C Hq w)/\_
 have:=h a w hf hh
 rw[<-hl,Q4]at this
 exact⟨fun _=>hh.cov gs e,this⟩
theorem AH.nm {i:Nat}(li':List Bool)(h:AH r P ops Q Hq m f li' C l H)(hl:(li.toArray.setIfInBounds i true).toList=li':=by kernel_rfl)(hg:gn ops li'.toArray m=true:=by kernel_rfl):AL r P ops (HZ r P ops Q (Hp C Hq) m f li.toArray i) [] C l H:=fun a w hf hh=>by
 refine Z.done ?_
 show(_->Hp C Hq w)/\_
 have:=h a w hf hh
 rw[<-hl,Q4]at this
 rw[<-hl,Q4]at hg
 exact⟨fun h=>(by rw[hg]at h;cases h),this⟩
theorem AH.done {Y:Exit->Act->World->Prop}{K:List Kx}(h:AE r P Y K .normal C l H)(hr:Region.ready .any ops li.toArray=[]:=by kernel_rfl):AH r P ops (kont r P Y K) Hq m f li C l H:=fun a w hf hh=>by
 cases f with
 |zero=>exact⟨hr,h a w hf hh⟩
 |succ f=>exact⟨fun _=>h a w hf hh,by rw[hr];simp⟩
theorem cov {X:Act->World->Prop}{l':List (Nat×Value)}{H':List (Nat×Res)}(gs:List Nat)(h: ∀a w,Fr a C.n C.ds l'->Hp C H' w->X a w)(h1:kp l (l'.map (·.1))=l':=by kernel_rfl)(h2:kpH H gs gs=H':=by kernel_rfl): ∀a w,Fr a C.n C.ds l->Hp C H w->X a w:=fun a w hf hh=>h a w (Fr.cov hf h1) (hh.cov gs h2)
end
theorem peek {C:Cx}{H:List (Nat×Res)}{w:World}(hh:Hp C H w)(k kn:Nat){t:Ty}{A:Option Addr}{c:Nat}{xs:List t.den}{i:Int}{v:t.den}(hi:ix xs i=some v)(hrow: ∀w,Hp C H w->∃G:Nat->Prop,Row t w (Fh C H) G A c xs/\∀b,G b->∀k,¬Bk H k b)(hn:nok H kn (1+lv t)=true):
  ∃ps:Lf,ps.length=lv t/\t.ok v/\∃b o,A=some ⟨b,o,none⟩/\Hp C (hcat (kx (kn+1) (rs t v ps)) ((kn,.el none b (o+i.toNat*t.size) (cl t v ps))::H)) w:=by
 obtain⟨k,rfl,hv⟩:=Qaz hi
 obtain⟨G,hR,hG⟩:=hrow w hh
 obtain⟨b,o,es,hA,hb,hbl,hc,hr⟩:=hR.at hv
 obtain⟨ps,hl,rfl,hrs⟩:=rep_cl (B:=Bk H) t (Qac t hr)
 have hnk:hk H kn=none:=Qbn hn (Qo _) (by omega)
 have h1:Hp C ((kn,.el none b (o+k*t.size) (cl t v ps))::H) w:=hh.add hnk rfl (fun j hj=>by cases hj) ⟨hc,hbl,hG b hb⟩
 have hnn: ∀n k',nok H k' n=true->(∀j,k'<=j->j<k'+n->j≠kn)->nok ((kn,.el none b (o+k*t.size) (cl t v ps))::H) k' n=true:=by
  intro n
  induction n with
  |zero=>intro _ _ _;rfl
  |succ n ih=>
   intro k' h2 h3
   simp only[nok,Qe]at h2 ⊢
   refine⟨?_,ih (k'+1) h2.2 fun j h4 h5=>h3 j (by omega) (by omega)⟩
   rw[Qab,Qd (Ne.symm (h3 k' (Qo _) (by omega)))];exact h2.1
 have hn2:nok H (kn+1) (rs t v ps).length=true:=by
  rw[Qcb t v ps hl]
  rw[Ye 1]at hn
  simp only[nok,Qe]at hn;exact hn.2
 refine⟨ps,hl,rep_ok t hr,b,o,hA,?_⟩
 rw[Xm]
 refine h1.adds (hnn _ _ hn2 fun j h4 _=>by omega) fun r2 h4=>?_
 obtain⟨h5,h6,h7⟩:=hrs r2 h4
 have hbk: ∀j b',Bk ((kn,.el none b (o+k*t.size) (cl t v ps))::H) j b'↔Bk H j b':=fun j b'=>by
  by_cases hj:j=kn
  ·subst hj
   rw[Bk.cons_eq]
   exact⟨fun h=>by simp[Res.bl]at h,fun⟨_,h8,_⟩=>by rw[hnk]at h8;cases h8⟩
  ·exact Bk.cons_ne hj
 exact⟨h6,h7,Res.to h5 (S:=[]) (Ch.refl w) (fun b' hF _=>⟨by simp,⟨fun j hj=>hF.1.1 j ((hbk j b').1 hj),hF.1.2⟩,hF.2⟩) (fun b' hB _=>⟨by simp,fun j hj=>hB j ((hbk j b').1 hj)⟩) (fun i b' _ hB=>⟨by simp,(hbk i b').2 hB⟩) (by simp)⟩
theorem Hp.blk {C:Cx}{H:List (Nat×Res)}{w:World}{g:Nat}{e:TypeId}{cs:List Value}(hh:Hp C H w)(k:Nat)(h:hk H k=some (.blk g e cs):=by rfl):Blk w g e cs:=hh.hold k _ h
def FU:Nat:=340282366920938463463374607431768211456
def gd {α:Type}(p:Prop)[Decidable p](x:Option α):Option α:=if p then x else none
theorem gd_some {α:Type}{p:Prop}[Decidable p]{x:Option α}{y:α}(h:gd p x=some y):p/\x=some y:=by
 unfold gd at h
 split at h
 ·exact⟨‹p›,h⟩
 ·cases h
theorem bd_some {α β:Type}{x:Option α}{f:α->Option β}{y:β}(h:x.bind f=some y): ∃v,x=some v/\f v=some y:=Jd.1 h
theorem no0 {α:Type}{y:α}{p:Prop}(h:(none:Option α)=some y):p:=by cases h
theorem ix_nat {α:Type}(xs:List α)(k:Nat):ix xs (k:Int)=xs[k]?:=by unfold ix;rw[Qd (by omega),Xm]
theorem o_ci {α:Type}{xs:List α}{i:Int}{x:α}(h:ix xs i=some x):0<=i/\i<xs.length:=by
 obtain⟨k,rfl,h2⟩:=Qaz h
 have:=(Qb.1 h2).1
 omega
instance (k:IntKind) (n:Int):Decidable (k.has n):=by unfold IntKind.has;infer_instance
theorem hasl (k:IntKind)(n:Int)(h:decide (k.has n)=true):k.has n:=Wf h
section
variable {X:Act->World->Prop}{C:Cx}{l:List (Nat×Value)}{H:List (Nat×Res)}
theorem nil (k:Nat)(t:Ty)(e:TypeId)(h: ∀a w,Fr a C.n C.ds l->Hp C ((k,.own t e none 0 [])::H) w->X a w)(hn:hk H k=none:=by kernel_rfl): ∀a w,Fr a C.n C.ds l->Hp C H w->X a w:=fun a w hf hh=>
 h a w hf (hh.add hn rfl (fun j hj=>by cases hj) (Own.nil t e 0 w _))
theorem snil (k:Nat)(t:Ty)(h: ∀a w,Fr a C.n C.ds l->Hp C ((k,.sh (.slice t) [.slice none 0 0] [])::H) w->X a w)(hn:hk H k=none:=by kernel_rfl): ∀a w,Fr a C.n C.ds l->Hp C H w->X a w:=fun a w hf hh=>
 h a w hf (hh.add hn rfl (fun j hj=>by cases hj) (Qev t))
theorem frz (k:Nat)(js:List Nat){t:Ty}{e:TypeId}{A:Option Addr}{c:Nat}{xs:List t.den}(h: ∀a w,Fr a C.n C.ds l->Hp C ((k,.sh (.slice t) [.slice A xs.length c] xs)::ded js H) w->X a w)(hk1:hk H k=some (.own t e A c xs):=by rfl)(hj:hng [k] js H=true:=by kernel_rfl): ∀a w,Fr a C.n C.ds l->Hp C H w->X a w:=fun a w hf hh=>h a w hf (Hp.dd (hh.frz hk1) hj)
theorem dup (k k2:Nat){r:Res}(h: ∀a w,Fr a C.n C.ds l->Hp C ((k2,r)::H) w->X a w)(hk1:hk H k=some r:=by rfl)(hb:r.bl=[]:=by rfl)(hr:r.ref=none:=by rfl)(hn:hk H k2=none:=by kernel_rfl): ∀a w,Fr a C.n C.ds l->Hp C H w->X a w:=fun a w hf hh=>
 h a w hf (hh.add hn hb (fun j hj=>by rw[hr]at hj;cases hj) (by
  have h1:=hh.hold k r hk1
  cases r with
  |sh t cs x=>exact Qac t h1
  |ln t A c xs=>
   obtain⟨r1,r2,cs,r3,r4,r5⟩:=h1
   exact⟨r1,r2,cs,r3,r4,fun i x hi=>Qac t (r5 i x hi)⟩
  |el k b o cs=>exact h1
  |dead=>trivial
  |own t e A c xs=>
   obtain⟨cells,o1,o2,o3⟩:=h1
   exact⟨cells,o1,o2,fun i x hi=>Qac t (o3 i x hi)⟩
  |blk g e cs=>cases hb
  |mp κ enc t agg b m=>cases hb
  |mit k g b n seen la=>cases hb
  |ob g p=>cases hb
  |lmp κ enc t agg b m=>
   obtain⟨⟨es,c1,c2,c3⟩,h2⟩:=h1
   exact⟨⟨es,c1,c2,fun i p hp=>by obtain⟨cs,c4,c5⟩:=c3 i p hp;exact⟨cs,c4,Qac t c5⟩⟩,h2⟩
  |mr κ enc t e b As m=>cases hb
  |gn bs p hp=>exact hp h1 (S:=[]) (Ch.refl w) (by simp) fun b hb hl=>⟨by simp,hb,hl⟩
  |si g s p=>cases hb))
theorem cst (d:Nat){v v':Value}(e:v=v')(h: ∀a w,Fr a C.n C.ds ((d,v')::l)->Hp C H w->X a w)(h1:lk l d=some v:=by rfl): ∀a w,Fr a C.n C.ds l->Hp C H w->X a w:=fun a w hf hh=>h a w (hf.cons hf (by rw[h1,e])) hh
theorem Hp.mv {w:World}(hh:Hp C H w){k k2:Nat}{r:Res}(h1:hk H k=some r)(hne:k2≠k)(h2: ∀u,hk H k2=some u->u=.dead)(hr:r.ref=none):Hp C ((k2,r)::(k,.dead)::drp k H) w:=by
 have hd:Hp C ((k,.dead)::drp k H) w:=hh.upd (S:=[]) (Ch.refl w) (by simp) (by simp[Res.bl]) (fun j hj=>by cases hj) fun _ _ _ _ _ _ _=>trivial
 have hbk: ∀j b,Bk ((k2,r)::(k,.dead)::drp k H) j b->(j=k2/\b∈r.bl)\/(j≠k2/\j≠k/\Bk H j b):=fun j b ⟨r2,h3,h4⟩=>by
  rw[Qab]at h3
  split at h3
  ·rename_i e;injection h3 with h3;subst h3;exact .inl ⟨e.symm,h4⟩
  ·rename_i hn
   rw[Qab]at h3
   split at h3
   ·injection h3 with h3;subst h3;cases h4
   ·rename_i hn2
    rcases Qcw k H j r2 h3 with rfl|⟨h5,_⟩
    ·cases h4
    ·exact .inr ⟨Ne.symm hn,Ne.symm hn2,r2,h5,h4⟩
 have hnb: ∀b,(∀j,¬Bk H j b)->∀j,¬Bk ((k2,r)::(k,.dead)::drp k H) j b:=fun b hB j hj=>by
  rcases hbk j b hj with⟨_,h3⟩|⟨_,_,h3⟩
  ·exact hB k ⟨r,h1,h3⟩
  ·exact hB j h3
 refine⟨hh.ch,fun j r2 hj=>?_,fun j b hj=>?_,fun j j' b hj hj'=>?_,fun j r2 i hj hri=>?_⟩
 ·rw[Qab]at hj
  split at hj
  ·injection hj with hj;subst hj
   exact Res.to (hh.hold k r h1) (S:=[]) (Ch.refl w) (fun b hF _=>⟨by simp,hnb b hF.1,hF.2⟩) (fun b hB _=>⟨by simp,hnb b hB⟩) (fun i b hi _=>by rw[hr]at hi;cases hi) (by simp)
  ·rename_i hn
   rw[Qab]at hj
   split at hj
   ·injection hj with hj;subst hj;trivial
   ·rename_i hn2
    rcases Qcw k H j r2 hj with rfl|⟨h5,h6⟩
    ·trivial
    ·refine Res.to (hh.hold j r2 h5) (S:=[]) (Ch.refl w) (fun b hF _=>⟨by simp,hnb b hF.1,hF.2⟩) (fun b hB _=>⟨by simp,hnb b hB⟩) (fun i b hi hB=>⟨by simp,?_⟩) (by simp)
     obtain⟨r3,h7,h8⟩:=hB
     have hik:i≠k:=fun e=>h6 (by rw[hi,e])
     have hik2:i≠k2:=fun e=>by subst e;rw[h2 _ h7]at h8;cases h8
     refine⟨r3,?_,h8⟩
     rw[Qab,Qd (Ne.symm hik2),Qab,Qd (Ne.symm hik)]
     exact Qex h7 (by rw[(hh.ref j r2 i h5 hi).2 r3 h7];simp)
 ·rcases hbk j b hj with⟨_,h3⟩|⟨_,_,h3⟩
  ·exact hh.bnd k b ⟨r,h1,h3⟩
  ·exact hh.bnd j b h3
 ·rcases hbk j b hj with⟨h3,h4⟩|⟨_,h3,h4⟩<;>rcases hbk j' b hj' with⟨h5,h6⟩|⟨_,h5,h6⟩
  ·rw[h3,h5]
  ·exact absurd (hh.dis k j' b ⟨r,h1,h4⟩ h6) (Ne.symm h5)
  ·exact absurd (hh.dis k j b ⟨r,h1,h6⟩ h4) (Ne.symm h3)
  ·exact hh.dis j j' b h4 h6
 ·rw[Qab]at hj
  split at hj
  ·injection hj with hj;subst hj;rw[hr]at hri;cases hri
  ·rename_i hn
   obtain⟨h5,h6⟩:=hd.ref j r2 i hj hri
   refine⟨h5,fun r3 h7=>?_⟩
   rw[Qab]at h7
   split at h7
   ·injection h7 with h7;subst h7;exact hr
   ·exact h6 r3 h7
theorem mv (k k2:Nat)(js:List Nat){r:Res}(h: ∀a w,Fr a C.n C.ds l->Hp C ((k2,r)::(k,.dead)::ded js H) w->X a w)(hk1:hk H k=some r:=by rfl)(hr:r.ref=none:=by rfl)(hn:hk H k2=none:=by kernel_rfl)(hj:hng [k] js H=true:=by kernel_rfl): ∀a w,Fr a C.n C.ds l->Hp C H w->X a w:=fun a w hf hh=>h a w hf (Hp.dd2 (hh.mv hk1 (fun e=>by subst e;rw[hk1]at hn;cases hn) (fun u hu=>by rw[hn]at hu;cases hu) hr) hj)
def gone (H:List (Nat×Res))(k:Nat):Bool:=match hk H k with
 |none=>true
 |some .dead=>true
 |_=>false
theorem mvd (k k2:Nat)(js:List Nat){r:Res}(h: ∀a w,Fr a C.n C.ds l->Hp C ((k2,r)::(k,.dead)::ded js H) w->X a w)(hk1:hk H k=some r:=by rfl)(hr:r.ref=none:=by rfl)(hne:Nat.beq k2 k=false:=by rfl)(hn:gone H k2=true:=by kernel_rfl)(hj:hng [k] js H=true:=by kernel_rfl): ∀a w,Fr a C.n C.ds l->Hp C H w->X a w:=fun a w hf hh=>h a w hf (Hp.dd2 (hh.mv hk1 (fun e=>by rw[e,Y3]at hne;cases hne) (fun u hu=>by
 unfold gone at hn;rw[hu]at hn
 cases u<;>first|rfl|cases hn) hr) hj)
end
section
variable {r:Option Nat}{P:Program}{ops:Array Oper}{Q:Exit->Act->World->Prop}{C:Cx}{l:List (Nat×Value)}{H Hq:List (Nat×Res)}{m f:Nat}{li:List Bool}
theorem AH.cnp {ρ:Type}{A B R:Option ρ}{j:Nat}{p:Prop}[Decidable p](hb:lk l j=some (.bool (decide p)))(hF:(if p then A else B)=R)(ht:p->A=R->AH r P ops Q Hq m f li C ((j,.bool true)::l) H)(he: ¬p->B=R->AH r P ops Q Hq m f li C ((j,.bool false)::l) H):AH r P ops Q Hq m f li C l H:=fun a w hf hh=>by
 by_cases hp:p
 ·rw[Qj hp]at hF;exact ht hp hF a w (hf.cons hf (by rw[hb,Wc hp])) hh
 ·rw[Qd hp]at hF;exact he hp hF a w (hf.cons hf (by rw[hb,Xc hp])) hh
theorem AH.pks (k kn:Nat){t:Ty}{A:Option Addr}{c:Nat}{xs:List t.den}{i:Int}{v:t.den}(hi:ix xs i=some v)(h:t.ok v->tele (lv t) fun ps=>∀b o,A=some ⟨b,o,none⟩->AH r P ops Q Hq m f li C l (hcat (kx (kn+1) (rs t v ps)) ((kn,.el none b (o+i.toNat*t.size) (cl t v ps))::H)))
  (hk1:hk H k=some (.sh (.slice t) [.slice A xs.length c] xs):=by rfl) (hn:nok H kn (1+lv t)=true:=by kernel_rfl):AH r P ops Q Hq m f li C l H:=fun a w hf hh=>by
 obtain⟨ps,hl,hok,b,o,hA,h2⟩:=peek hh k kn hi (rowS hk1) hn
 exact Qau (h hok) ps hl b o hA a w hf h2
theorem AH.pkl (k kn:Nat){t:Ty}{A:Option Addr}{c:Nat}{xs:List t.den}{i:Int}{v:t.den}(hi:ix xs i=some v)(h:t.ok v->tele (lv t) fun ps=>∀b o,A=some ⟨b,o,none⟩->AH r P ops Q Hq m f li C l (hcat (kx (kn+1) (rs t v ps)) ((kn,.el none b (o+i.toNat*t.size) (cl t v ps))::H)))
  (hk1:hk H k=some (.ln t A c xs):=by rfl) (hn:nok H kn (1+lv t)=true:=by kernel_rfl):AH r P ops Q Hq m f li C l H:=fun a w hf hh=>by
 obtain⟨ps,hl,hok,b,o,hA,h2⟩:=peek hh k kn hi (rowL hk1) hn
 exact Qau (h hok) ps hl b o hA a w hf h2
theorem AH.pko (k kn:Nat){t:Ty}{e:TypeId}{A:Option Addr}{c:Nat}{xs:List t.den}{i:Int}{v:t.den}(hi:ix xs i=some v)(h:t.ok v->tele (lv t) fun ps=>∀g,A=some ⟨g,0,none⟩->AH r P ops Q Hq m f li C l (hcat (kx (kn+1) (rs t v ps)) ((kn,.el (some k) g (i.toNat*t.size) (cl t v ps))::H)))
  (hk1:hk H k=some (.own t e A c xs):=by rfl) (hn:nok H kn (1+lv t)=true:=by kernel_rfl):AH r P ops Q Hq m f li C l H:=fun a w hf hh=>by
 obtain⟨k',rfl,hv⟩:=Qaz hi
 obtain⟨G,hR,hG⟩:=rowO hk1 w hh
 obtain⟨b,o,es,hA,hb,hbl,hc,hr⟩:=hR.at hv
 have ho:o=0:=by
  obtain⟨cells,hrow,_⟩:Own t e 0 w (Fh C H) A c xs:=hh.hold k _ hk1
  rcases hrow.2 with⟨hv,_⟩|⟨g,cap,cur,hv,_⟩
  ·injection hv with hA' _ _;rw[hA]at hA';cases hA'
  ·injection hv with hA' _ _;rw[hA]at hA';injection hA' with hA';injection hA' with _ h2 _
 subst ho
 rw[Wm]at hc
 obtain⟨ps,hl,rfl,hrs⟩:=rep_cl (B:=Bk H) t (Qac t hr)
 have hnk:hk H kn=none:=Qbn hn (Qo _) (by omega)
 have h1:Hp C ((kn,.el (some k) b (k'*t.size) (cl t v ps))::H) w:=hh.add hnk rfl (fun j hj r hr=>by injection hj with hj;subst hj;rw[hk1]at hr;injection hr with hr;subst hr;rfl) ⟨hc,hbl,hG b hb⟩
 have hn2:nok H (kn+1) (rs t v ps).length=true:=by
  rw[Qcb t v ps hl]
  rw[Ye 1]at hn
  simp only[nok,Qe]at hn;exact hn.2
 have hnn: ∀n k2,nok H k2 n=true->(∀j,k2<=j->j<k2+n->j≠kn)->nok ((kn,.el (some k) b (k'*t.size) (cl t v ps))::H) k2 n=true:=by
  intro n
  induction n with
  |zero=>intro _ _ _;rfl
  |succ n ih=>
   intro k2 h2 h3
   simp only[nok,Qe]at h2 ⊢
   refine⟨?_,ih (k2+1) h2.2 fun j h4 h5=>h3 j (by omega) (by omega)⟩
   rw[Qab,Qd (Ne.symm (h3 k2 (Qo _) (by omega)))];exact h2.1
 have h2:Hp C (hcat (kx (kn+1) (rs t v ps)) ((kn,.el (some k) b (k'*t.size) (cl t v ps))::H)) w:=by
  refine h1.adds (hnn _ _ hn2 fun j h4 _=>by omega) fun r2 h4=>?_
  obtain⟨h5,h6,h7⟩:=hrs r2 h4
  have hbk: ∀j b',Bk ((kn,.el (some k) b (k'*t.size) (cl t v ps))::H) j b'↔Bk H j b':=fun j b'=>by
   by_cases hj:j=kn
   ·subst hj
    rw[Bk.cons_eq]
    exact⟨fun h=>by simp[Res.bl]at h,fun⟨_,h8,_⟩=>by rw[hnk]at h8;cases h8⟩
   ·exact Bk.cons_ne hj
  exact⟨h6,h7,Res.to h5 (S:=[]) (Ch.refl w) (fun b' hF _=>⟨by simp,⟨fun j hj=>hF.1.1 j ((hbk j b').1 hj),hF.1.2⟩,hF.2⟩) (fun b' hB _=>⟨by simp,fun j hj=>hB j ((hbk j b').1 hj)⟩) (fun i b' _ hB=>⟨by simp,(hbk i b').2 hB⟩) (by simp)⟩
 exact Qau (h (rep_ok t hr)) ps hl b hA a w hf (by rw[Xm];exact h2)
theorem r_ixo {a:Act}{w:World}{d:Option Tmp}{T:TypeId}{pos:String}{af:Array Edge}{n:Nat}{ds:List Deferred}{tt e:TypeId}{x y:Operand}{A:Option Addr}{b c:Nat}{t:Ty}{xs:List t.den}{i:Int}{kd:IntKind}{v:t.den}(hi:ix xs i=some v)(hA:A=some ⟨b,0,none⟩)(hf:Fr a n ds l)
  (hx:ev l x=some (.slice A xs.length c):=by rfl) (hy:ev l y=some (.int kd i):=by rfl) (ht:P.underlying tt=some (.slice e):=by rfl) (hs:szB P e=some t.size:=by kernel_rfl):(execOp a.eval ⟨d,.indexAddr tt x y,T,pos,af,none⟩).run P w=.ok (.value (.pointer (some ⟨b,i.toNat*t.size,none⟩))) w:=by
 obtain⟨k,rfl,hv⟩:=Qaz hi
 have:=r_indexAddrA (P:=P) (w:=w) (d:=d) (T:=T) (pos:=pos) (af:=af) (gd:=none) ht (Qah hs) (hf.eval hx) hA (hf.eval hy) rfl (Qb.1 hv).1
 rw[Addr.add_lit,Wm]at this
 exact this
theorem r_ixa {a:Act}{w:World}{d:Option Tmp}{T:TypeId}{pos:String}{af:Array Edge}{n:Nat}{ds:List Deferred}{tt e:TypeId}{x y:Operand}{A:Option Addr}{b o c:Nat}{t:Ty}{xs:List t.den}{i:Int}{kd:IntKind}{v:t.den}(hi:ix xs i=some v)(hA:A=some ⟨b,o,none⟩)(hf:Fr a n ds l)
  (hx:ev l x=some (.slice A xs.length c):=by rfl) (hy:ev l y=some (.int kd i):=by rfl) (ht:P.underlying tt=some (.slice e):=by rfl) (hs:szB P e=some t.size:=by kernel_rfl):(execOp a.eval ⟨d,.indexAddr tt x y,T,pos,af,none⟩).run P w=.ok (.value (.pointer (some ⟨b,o+i.toNat*t.size,none⟩))) w:=by
 obtain⟨k,rfl,hv⟩:=Qaz hi
 have:=r_indexAddrA (P:=P) (w:=w) (d:=d) (T:=T) (pos:=pos) (af:=af) (gd:=none) ht (Qah hs) (hf.eval hx) hA (hf.eval hy) rfl (Qb.1 hv).1
 rw[Addr.add_lit]at this
 exact this
end
def lt {α β:Type}(x:α)(f:α->Option β):Option β:=f x
theorem lt_some {α β:Type}{x:α}{f:α->Option β}{y:β}(h:lt x f=some y): ∃v,x=v/\f v=some y:=⟨x,rfl,h⟩
theorem Qed: ∀{n:Nat} {sn:List Nat},sn.Nodup->(∀i∈sn,i<n)->sn.length<=n
 |0,sn,_,h2=>by
  cases sn with
  |nil=>simp
  |cons a l=>exact absurd (h2 a (Qg ..)) (by omega)
 |n+1,sn,h1,h2=>by
  have h3:(sn.erase n).length<=n:=Qed (h1.erase n) fun i hi=>by
   have h4:=List.Nodup.mem_erase_iff h1 |>.1 hi
   have:=h2 i h4.2
   omega
  by_cases hm:n∈sn
  ·rw[List.length_erase_of_mem hm]at h3;omega
  ·rw[List.erase_of_not_mem hm]at h3;omega
theorem seen_all {α β:Type}{m:List α}{sn:List Nat}{body:α->Option (Option β)}(h: ∀i∈sn,∀p,m[i]?=some p->body p=some none)(ha: ∀i,i<m.length->i∈sn): ∀x∈m,body x=some none:=fun x hx=>by
 obtain⟨i,hi,rfl⟩:=Xe hx
 exact h i (ha i hi) _ (Qh hi)
theorem seen_cons {α β:Type}{m:List α}{sn:List Nat}{body:α->Option (Option β)}{i:Nat}{p:α}(h: ∀i∈sn,∀p,m[i]?=some p->body p=some none)(hp:m[i]?=some p)(hb:body p=some none): ∀j∈i::sn,∀p,m[j]?=some p->body p=some none:=fun j hj x hx=>by
 rcases Qk.1 hj with rfl|hj
 ·rw[hp]at hx;injection hx with hx;subst hx;exact hb
 ·exact h j hj x hx
theorem seen_bd {α:Type}{m:List α}{sn:List Nat}{i:Nat}{p:α}(h: ∀i∈sn,i<m.length)(hp:m[i]?=some p): ∀j∈i::sn,j<m.length:=fun j hj=>by
 rcases Qk.1 hj with rfl|hj
 ·exact(Qb.1 hp).1
 ·exact h j hj
theorem seen_f {n f:Nat}{sn:List Nat}{i:Nat}(h1:sn.Nodup)(h2: ∀j∈i::sn,j<n)(h3:i∉sn)(h4:f+sn.length=n+1):f-1<f/\(f-1)+(i::sn).length=n+1:=by
 have:=Qed (Wv.2 ⟨h3,h1⟩) h2
 simp only[Qu]at this ⊢
 omega
def om {α β:Type}(x:Option α)(a:Option β)(f:α->Option β):Option β:=match x with
 |none=>a
 |some p=>f p
theorem om_n {α β:Type}{x:Option α}{a:Option β}{f:α->Option β}(h:x=none):om x a f=a:=by rw[h];rfl
theorem om_s {α β:Type}{x:Option α}{a:Option β}{f:α->Option β}{p:α}(h:x=some p):om x a f=f p:=by rw[h];rfl
def mrg {α β:Type}[DecidableEq β](body:α->Option (Option β))(rest:Option β):List α->Option β
 | []=>rest
 |x::l=>(body x).bind fun q=>match q with
  |none=>mrg body rest l
  |some y=>if l.all (fun z=>decide (body z=some none\/body z=some (some y)))then some y else none
theorem mrg_all {α β:Type}[DecidableEq β]{body:α->Option (Option β)}{rest:Option β}{r:β}: ∀{l:List α},mrg body rest l=some r->(∀x∈l,∃q,body x=some q/\(q=none\/q=some r))/\((∀x∈l,body x=some none)->rest=some r)
 | [],h=>⟨by simp,fun _=>h⟩
 |x::l,h=>by
  unfold mrg at h
  obtain⟨q,hq,h⟩:=bd_some h
  cases q with
  |none=>
   obtain⟨h1,h2⟩:=mrg_all (l:=l) h
   refine⟨fun z hz=>?_,fun ha=>h2 fun z hz=>ha z (Qf _ hz)⟩
   rcases Qk.1 hz with rfl|hz
   ·exact⟨none,hq,.inl rfl⟩
   ·exact h1 z hz
  |some y=>
   simp only[]at h
   split at h
   ·rename_i hall
    injection h with h
    subst h
    refine⟨fun z hz=>?_,fun ha=>?_⟩
    ·rcases Qk.1 hz with rfl|hz
     ·exact⟨some y,hq,.inr rfl⟩
     ·rcases Wf (Qx.1 hall z hz)with h3|h3
      ·exact⟨_,h3,.inl rfl⟩
      ·exact⟨_,h3,.inr rfl⟩
    ·have:=ha x (Qg ..)
     rw[hq]at this
     injection this with this
     cases this
   ·cases h
section
variable {P:Program}{w:World}
theorem Qhp {g b m:Nat}{seen:List Nat}{es:List (Value×Value)}{ty:TypeId}(hr:Rg w g b m seen)(hm:MapC w b es):
  ((∀i,i<m->i∈seen)/\(Instr.next (.pointer (some ⟨g,0,none⟩)) false ty).run P w=.ok (.tuple #[.bool false]) w)\/
  ∃i k v w',i<m/\i∉seen/\es[i]?=some (k,v)/\(Instr.next (.pointer (some ⟨g,0,none⟩)) false ty).run P w=.ok (.tuple #[.bool true,k,v]) w'/\Ch [g] w w'/\w'.heap.size=w.heap.size/\Rg w' g b m (i::seen)/\Lst w' g b k v:=by
 obtain⟨hne,arr,clock,since,sb,hb,hlen,hg,hsc,hold,hnd,hseen⟩:=hr
 obtain⟨arr',clock',hb',hes,_,_⟩:=hm
 rw[hb]at hb'
 injection hb' with hb';injection hb' with hb' _
 have hb':=List.toArray_inj hb'
 subst hb'
 have hgl:=(Qp.1 hg).1
 have hgetg:(getObj g).run P w=.ok (.mapIter (some b) since sb.toArray since) w:=by simp[getObj,Sem.run,hg]
 have hgetb:(getObj b).run P w=.ok (.map arr.toArray clock) w:=by simp[getObj,Sem.run,hb]
 have htest:=next_test_false sb.toArray arr.toArray since since (by simpa using hold) (Qo _)
 obtain⟨L,hL⟩: ∃L,L=arr.toArray.filter fun e=> !sb.toArray.contains e.born:=⟨_,rfl⟩
 have hLm: ∀e,e∈L.toList↔e∈arr/\e.born∉sb:=fun e=>by rw[hL];simp
 have e1:L.filter (fun x=>decide (x.born<since))=L:=Array.filter_eq_self.2 (fun x hx=>by have:=(hLm x).1 (by simpa using hx);simpa using hold x this.1)
 have e2:L.filter (fun x=>decide (x.born≥since))=#[]:=by
  rw[Y5]
  intro x hx
  have:=hold x ((hLm x).1 (by simpa using hx)).1
  simp;omega
 by_cases h0:L.size=0
 ·left
  have hLe:L=#[]:=Array.eq_empty_of_size_eq_zero h0
  refine⟨fun i hi=>?_,?_⟩
  ·obtain⟨e,he⟩: ∃e,arr[i]?=some e:=⟨_,Qh (by omega)⟩
   refine(hseen i e he).1 (Y6 fun hn=>?_)
   have:=(hLm e).2 ⟨Qt he,hn⟩
   rw[hLe]at this;simp at this
  ·simp only[Instr.next,Sem.run_bind,hgetg,Result.andThen_ok,hgetb,htest,Wo,Wu,<-hL,e1,e2,Array.append_empty]
   rw[hLe]
   simp[Question.forced]
 ·right
  have hie:L.isEmpty=false:=by simp[Array.isEmpty,h0]
  have hj: ∃j,j<L.size/\∃w1:World,(choose (.mapNext L.size)).run P w=.ok j w1/\(w1=w\/w1=w.drew):=by
   rw[run_choose_drew]
   by_cases hfo:(Question.mapNext L.size).forced=true
   ·rw[Qj hfo];exact⟨0,by omega,w,rfl,.inl rfl⟩
   ·rw[Qd hfo];exact⟨_,Ja _ (by omega),_,rfl,.inr rfl⟩
  obtain⟨j,hjl,w1,hch,hw1⟩:=hj
  obtain⟨e,he⟩: ∃e,L[j]?=some e:=⟨_,Q3 hjl⟩
  have heL:e∈L.toList:=by have:=Qt (l:=L.toList) (i:=j) (by rw[Wh];exact he);exact this
  obtain⟨hea,hen⟩:=(hLm e).1 heL
  obtain⟨i,hi⟩:=Wr.1 hea
  have hil:=(Qb.1 hi).1
  have hheap:w1.heap=w.heap:=by rcases hw1 with rfl|rfl<;>rfl
  have hc1:Ch [] w w1:=by rcases hw1 with rfl|rfl;exact Ch.refl _;exact Ch.drew _
  have hset:(setObj g (.mapIter (some b) since (sb.toArray.push e.born) clock)).run P w1=.ok () (w1.putObj g (.mapIter (some b) since (sb.toArray.push e.born) clock)):=by
   simp[setObj,Sem.run,World.putObj,hheap,hg]
  refine⟨i,e.key,e.val,w1.putObj g (.mapIter (some b) since (sb.toArray.push e.born) clock),by omega,fun hs=>hen ((hseen i e hi).2 hs),by rw[<-hes,Qs,hi];rfl,?_,hc1.then (Ch.putObj w1 g _),by simp[hheap],⟨hne,arr,clock,since,sb++[e.born],?_,hlen,?_,hsc,hold,hnd,?_⟩,?_⟩
  ·simp only[Instr.next,Sem.run_bind,hgetg,Result.andThen_ok,hgetb,htest,Wo,Wu,<-hL,e1,e2,hie,Array.append_empty,Array.empty_append,Array.size_map,hch,Array.getElem?_map,he,Q7,hset,Sem.run_pure]
  ·rw[World.putObj_heap_other (fun h=>hne h.symm),hheap];exact hb
  ·rw[World.putObj_heap_same (by rw[hheap];exact hgl)]
   subst hsc;simp
  ·intro i' e' he'
   rw[Q0,Qm,Qk,hseen i' e' he']
   constructor
   ·rintro(h|h)
    ·exact .inr h
    ·left
     have hi'l:=(Qb.1 he').1
     have:=(Jo hnd (i:=i') (j:=i) (h₀:=by simpa using hi'l) (h₁:=by simpa using hil)).1 (by
      simp only[Jm]
      rw[(Qb.1 he').2,(Qb.1 hi).2];exact h)
     exact this
   ·rintro(h|h)
    ·right;subst h;rw[hi]at he';injection he' with he';rw[he']
    ·exact .inl h
  ·have h1:=World.putObj_heap_same (w:=w1) (r:=g) (o:=.mapIter (some b) since (sb.toArray.push e.born) clock) (by rw[hheap];exact hgl)
   have h2:(w1.putObj g (.mapIter (some b) since (sb.toArray.push e.born) clock)).heap[b]?=some (.map arr.toArray clock):=by rw[World.putObj_heap_other (fun h=>hne h.symm),hheap];exact hb
   have hf:arr.find? (·.born==e.born)=some e:=by
    cases hfi:arr.find? (·.born==e.born)with
    |none=>have:=List.find?_eq_none.1 hfi e hea;simp at this
    |some e2=>
     have h3:=List.find?_some hfi
     obtain⟨j,hj⟩:=Wr.1 (List.mem_of_find?_eq_some hfi)
     have hjl:=(Qb.1 hj).1
     have:=(Jo hnd (i:=j) (j:=i) (h₀:=by simpa using hjl) (h₁:=by simpa using hil)).1 (by
      simp only[Jm]
      rw[(Qb.1 hj).2,(Qb.1 hi).2];simpa using h3)
     subst this;rw[hi]at hj;exact hj.symm
   exact⟨since,clock,e.born,sb.toArray,arr,e,h1,h2,hf,rfl,rfl⟩
end
section
variable {r:Option Nat}{P:Program}{ops:Array Oper}{Q:Exit->Act->World->Prop}{rest lst:List Oper}{C:Cx}{l:List (Nat×Value)}{H:List (Nat×Res)}{d:Nat}{op:Op}{T:TypeId}{pos:String}{af:Array Edge}
variable {κ:Type}[DecidableEq κ]{enc:κ->Value}{kt et tt:TypeId}{t:Ty}{agg:Bool}{b:Nat}{m:List (κ×t.den)}
theorem r_lkf {a:Act}{w:World}{d:Option Tmp}{x y:Operand}{z v:t.den}{zs:List Value}{ok:Bool}(k:Nat)(K:Ky P kt enc)(key:κ)(hz: ∀w,(zeroValue et).run P w=.ok (vof agg zs) w)(hD:Dat H t zs z)(hv:mget z m key=v)(hl:lv t=0)(hf:Fr a C.n C.ds l)(hh:Hp C H w)
  (hk1:asmp (hk H k)=some (.mp κ enc t agg b m):=by rfl) (hx:ev l x=some (.map (some b)):=by rfl) (hy:ev l y=some (enc key):=by rfl) (ht:P.underlying tt=some (.map kt et):=by rfl):
  (execOp a.eval ⟨d,.lookup tt x y ok,T,pos,af,none⟩).run P w=.ok (.value (if ok then .tuple #[vof agg (cl t v []),.bool (mhas m key)]else vof agg (cl t v []))) w:=by
 subst hv
 obtain⟨cs,h1,h2⟩:=run_lookup (zs:=zs) K ht hz (Dat.rep hh t hD) (Qgg hh hk1) rfl key ok
 obtain⟨ps,h3,h4,_⟩:=rep_cl (B:=Bk H) t h2
 rw[hl]at h3
 have:ps=[]:=Wj h3
 subst this
 subst h4
 exact r_lookup h1 (hf.eval hx) (hf.eval hy)
omit [DecidableEq κ]in
theorem AL.rgm (k kn:Nat){x:Operand}(h: ∀g,AL r P ops Q rest C ((d,.pointer (some ⟨g,0,none⟩))::l) ((kn,.mit k g b m.length [] none)::H))
  (hk1:hk H k=some (.mp κ enc t agg b m):=by rfl) (ht:P.underlying tt=some (.map kt et):=by rfl) (hx:ev l x=some (.map (some b)):=by rfl) (hd:Nat.ble (d+1) C.n=true:=by rfl) (hn:hk H kn=none:=by kernel_rfl):AL r P ops Q (⟨some d,.range tt x,T,pos,af,none⟩::rest) C l H:=fun a w hf hh=>
 Z.st_rangeMt hf hd ht hx (hh.hold k _ hk1) fun g w' a' hg hs hR hch hf'=>h g a' w' hf' (hh.new hn hch (fun b' hb'=>by simp only[Res.bl,Qm]at hb';omega) (fun j hj r hr=>by
   simp only[Res.ref,Qc]at hj;subst hj;rw[hk1]at hr;injection hr with hr;subst hr;rfl) fun F B _ _ hB=>⟨hR,hB k b ⟨_,hk1,by simp[Res.bl]⟩,fun kv h=>by cases h⟩)
omit [DecidableEq κ]in
theorem AL.nxm (k ki kn:Nat){x:Operand}{g:Nat}{seen:List Nat}{la:Option (Value×Value)}
  (h1:(∀i,i<m.length->i∈seen)->AL r P ops Q rest C ((d,.tuple #[.bool false])::l) H)
  (h2: ∀i p,m[i]?=some p->i∉seen->t.ok p.2->tele (lv t) fun ps=>AL r P ops Q rest C ((d,.tuple #[.bool true,enc p.1,vof agg (cl t p.2 ps)])::l) (hcat (kx kn (rs t p.2 ps)) ((ki,.mit k g b m.length (i::seen) (some (enc p.1,vof agg (cl t p.2 ps))))::H)))
  (hk1:hk H k=some (.mp κ enc t agg b m):=by rfl) (hk2:hk H ki=some (.mit k g b m.length seen la):=by rfl) (hx:ev l x=some (.pointer (some ⟨g,0,none⟩)):=by rfl) (hd:Nat.ble (d+1) C.n=true:=by rfl)
  (hn: ∀s la,nok ((ki,.mit k g b m.length s la)::H) kn (lv t)=true:=by intro _ _;kernel_rfl) (hj:hng [ki] [] H=true:=by kernel_rfl):AL r P ops Q (⟨some d,.next x false,T,pos,af,none⟩::rest) C l H:=fun a w hf hh=>by
 have hkk:k≠ki:=fun e=>by subst e;rw[hk1]at hk2;injection hk2 with hk2;cases hk2
 obtain⟨es,hmc,hl,h3⟩:Mt enc t agg w (Fh C H) b m:=hh.hold k _ hk1
 rcases Qhp (P:=P) (ty:=T) (hh.hold ki _ hk2).1 hmc with⟨h4,h5⟩|⟨i,kv,v,w',i1,i2,i3,i4,i5,i6,i7,i8⟩
 ·refine Z.val hf hd ?_ fun a' hf'=>h1 h4 a' w hf' hh
  simp only[execOp,hf.eval hx,Sem.run_bind,h5,Result.andThen_ok,Sem.run_pure]
 ·obtain⟨p,hp⟩: ∃p,m[i]?=some p:=⟨_,Qh i1⟩
  obtain⟨cs,h6,h7⟩:=h3 i p hp
  rw[h6]at i3;injection i3 with i3;injection i3 with e1 e2
  subst e1;subst e2
  have hup: ∀la,(∀kv,la=some kv->Lst w' g b kv.1 kv.2)->Hp C ((ki,.mit k g b m.length (i::seen) la)::H) w':=fun la hla=>Hp.dd (js:=[]) (hh.upd i5 (fun b' hb'=>⟨_,hk2,by simpa[Res.bl] using hb'⟩) (fun b' hb'=>.inl ⟨_,hk2,hb'⟩) (fun j hj=>by
    simp only[Res.ref,Qc]at hj;subst hj
    exact⟨hkk,fun r hr=>by rw[hk1]at hr;injection hr with hr;subst hr;rfl⟩) fun F B _ _ _ hB _=>⟨i7,hB k b rfl ⟨_,hk1,by simp[Res.bl]⟩,hla⟩) hj
  have hr': ∀la,t.rep w' (Fh C ((ki,.mit k g b m.length (i::seen) la)::H)) cs p.2:=fun la=>by
   refine rep_to h7 i5 fun b' hb' hl'=>⟨fun hm=>hb'.1 ki ⟨_,hk2,by simpa[Res.bl] using hm⟩,⟨fun j hj=>?_,hb'.2⟩⟩
   by_cases hjk:j=ki
   ·subst hjk
    have h0:=Bk.cons_eq.1 hj
    exact hb'.1 j ⟨_,hk2,h0⟩
   ·obtain⟨r2,h8,h9⟩:=(Bk.cons_ne hjk).1 hj
    exact hb'.1 j ⟨r2,h8,h9⟩
  have hok:=rep_ok t h7
  obtain⟨ps,hl2,rfl,h9⟩:=Qft (hup (some (enc p.1,vof agg cs)) (fun kv h=>by injection h with h;subst h;exact i8)) (hr' _) kn (hn _ _)
  refine Z.valw hf hd ?_ fun a' hf'=>Qau (h2 i p hp i2 hok) ps hl2 a' w' hf' h9
  simp only[execOp,hf.eval hx,Sem.run_bind,i4,Result.andThen_ok,Sem.run_pure]
theorem AL.ent (ki:Nat){x:Operand}{k g b n:Nat}{seen:List Nat}{kv vv:Value}(h:AL r P ops Q rest C ((d,.tuple #[kv,vv])::l) H)
  (hk2:hk H ki=some (.mit k g b n seen (some (kv,vv))):=by rfl) (hx:ev l x=some (.pointer (some ⟨g,0,none⟩)):=by rfl) (hd:Nat.ble (d+1) C.n=true:=by rfl):AL r P ops Q (⟨some d,.entry x,T,pos,af,none⟩::rest) C l H:=
 AL.val hd (fun a w hf hh=>by
  have:=Lst.run (P:=P) ((hh.hold ki _ hk2).2.2 _ rfl)
  simp only[execOp,hf.eval hx,Sem.run_bind,this,Result.andThen_ok,Sem.run_pure]) h
theorem okm {X:Act->World->Prop}(k:Nat)(key:κ){z v:t.den}{zs:List Value}(hD:Dat H t zs z)(hv:mget z m key=v)(h:t.ok v->∀a w,Fr a C.n C.ds l->Hp C H w->X a w)(hk1:asmp (hk H k)=some (.mp κ enc t agg b m):=by rfl): ∀a w,Fr a C.n C.ds l->Hp C H w->X a w:=fun a w hf hh=>by
 subst hv
 refine h ?_ a w hf hh
 cases hm:mhas m key with
 |false=>rw[mget_none hm];exact rep_ok t (Dat.rep hh t hD)
 |true=>
  obtain⟨es,_,_,h3⟩:Mt enc t agg w (Fh C H) b m:=Qgg hh hk1
  obtain⟨i,hi⟩:=Wr.1 (mget_mem (z:=z) hm)
  obtain⟨cs,_,h5⟩:=h3 i _ hi
  exact rep_ok t h5
end
section
variable {r:Option Nat}{P:Program}{ops:Array Oper}{Q:Exit->Act->World->Prop}{rest lst:List Oper}{C:Cx}{l:List (Nat×Value)}{H:List (Nat×Res)}{d:Nat}{op:Op}{T:TypeId}{pos:String}{af:Array Edge}
theorem r_indexArr {a:Act}{w:World}{dd:Option Tmp}{gd:Option (Nat×Bool)}{tt e:TypeId}{n sz g o:Nat}{x y:Operand}{i:Int}{kd:IntKind}(ht:P.underlying tt=some (.array n e))(hS: ∀w,(sizeOf e).run P w=.ok sz w)(hx:a.eval x=.pointer (some ⟨g,o,none⟩))(hy:a.eval y=.int kd i)(h0:0<=i)(h1:i<n):
  (execOp a.eval ⟨dd,.indexAddr tt x y,T,pos,af,gd⟩).run P w=.ok (.value (.pointer (some ⟨g,o+i.toNat*sz,none⟩))) w:=by
 have:=Addr.add_lit g o (i.toNat*sz)
 simp[execOp,Instr.indexAt,hx,hy,asIntOf,run_underlying ht,hS,h0,h1,Instr.sureAddr,this]
theorem has_ix {k:IntKind}{vals:List Int}{i v:Int}(hi:ix vals i=some v)(h: ∀x,x∈vals->k.has x):k.has v:=by
 obtain⟨j,_,hj⟩:=Qaz hi
 exact h v (Qt hj)
theorem AL.ixb (k kn:Nat){τ:Type}(f:τ->Value)(vals:List τ){tt e bt:TypeId}{n g o:Nat}{cs:List Value}{x y:Operand}{i:Int}{kd:IntKind}{v:τ}(hi:ix vals i=some v)
  (h:AL r P ops Q rest C ((d,.pointer (some ⟨g,o+i.toNat*1,none⟩))::l) ((kn,.el (some k) g (o+i.toNat*1) [f v])::H))
  (hb:hk H k=some (.blk g bt cs):=by rfl) (hx:ev l x=some (.pointer (some ⟨g,o,none⟩)):=by rfl) (hy:ev l y=some (.int kd i):=by rfl) (ht:P.underlying tt=some (.array n e):=by rfl) (hS:szB P e=some 1:=by kernel_rfl) (hl:vals.length=n:=by rfl) (hcs:(cs.drop o).take n=vals.map f:=by rfl)
  (hd:Nat.ble (d+1) C.n=true:=by rfl) (hn:hk H kn=none:=by kernel_rfl):AL r P ops Q (⟨some d,.indexAddr tt x y,T,pos,af,none⟩::rest) C l H:=fun a w hf hh=>by
 subst hl
 have hb0:=o_ci hi
 obtain⟨j,rfl,hj⟩:=Qaz hi
 have hB:Blk w g bt cs:=hh.hold k _ hb
 refine Z.val hf hd (r_indexArr ht (Qah hS) (hf.eval hx) (hf.eval hy) hb0.1 hb0.2) fun a' hf'=>h a' w hf' (hh.add hn rfl (fun i hi r hr=>by
   simp only[Res.ref,Qc]at hi;subst hi;rw[hb]at hr;injection hr with hr;subst hr;rfl) ⟨fun q u hu=>?_,hB.lt,⟨_,hb,by simp[Res.bl]⟩⟩)
 cases q with
 |succ q=>simp at hu
 |zero=>
  simp only[Wl,Qc]at hu
  subst hu
  rw[Addr.add_lit,Yo,hB.cell,Xm,Ym]
  have hlt:=(Qb.1 hj).1
  have h3:((cs.drop o).take vals.length)[j]?=some (f v):=by rw[hcs,Qs,hj];rfl
  rw[Q6 hlt,Q8]at h3
  exact h3
end
section
variable {P:Program}{C:Cx}{l:List (Nat×Value)}{H:List (Nat×Res)}
theorem nilS {X:Act->World->Prop}(k:Nat){t:Ty}{A:Option Addr}{n c:Nat}{xs:List t.den}(hA:A.isNone=true)(h:xs=[]->∀a w,Fr a C.n C.ds l->Hp C H w->X a w)(hk1:hk H k=some (.sh (.slice t) [.slice A xs.length c] xs):=by rfl): ∀a w,Fr a C.n C.ds l->Hp C H w->X a w:=fun a w hf hh=>
 h (rep_none (hh.hold k _ hk1) hA) a w hf hh
theorem Row.none {t:Ty}{w:World}{F G:Nat->Prop}{A:Option Addr}{c:Nat}{xs:List t.den}(h:Row t w F G A c xs)(hA:A.isNone=true):xs=[]:=by
 obtain⟨_,_,_,_,h5,_⟩:=h
 rcases h5 with h5|⟨b,o,rfl,_⟩
 ·exact Wj h5
 ·cases hA
theorem nilL {X:Act->World->Prop}(k:Nat){t:Ty}{A:Option Addr}{c:Nat}{xs:List t.den}(hA:A.isNone=true)(h:xs=[]->∀a w,Fr a C.n C.ds l->Hp C H w->X a w)(hk1:hk H k=some (.ln t A c xs):=by rfl): ∀a w,Fr a C.n C.ds l->Hp C H w->X a w:=fun a w hf hh=>by
 obtain⟨G,hR,_⟩:=rowL hk1 w hh
 exact h (Row.none hR hA) a w hf hh
theorem AX.cnn {r:Option Nat}{Y:Exit->Act->World->Prop}{K:List Kx}{c:Operand}{x y:Code}{b:Bool}(hc:ev l c=some (.bool b))(ht:b=true->AX r P Y K x C l H)(he:b=false->AX r P Y K y C l H):AX r P Y K (.cond c x y) C l H:=fun a w hf hh=>Z.cond hf hc (fun h=>ht h a w hf hh) (fun h=>he h a w hf hh)
end
section
variable {r:Option Nat}{P:Program}{ops:Array Oper}{Q:Exit->Act->World->Prop}{rest:List Oper}{C:Cx}{l:List (Nat×Value)}{H:List (Nat×Res)}{d:Nat}{T:TypeId}{pos:String}{af:Array Edge}
end
theorem szl (b:ByteArray)(h:decide (b.size<=maxLen)=true):b.size<=maxLen:=Wf h
end Go.A
namespace Go.Z
section
variable {P:Program}{a:Act}{w:World}
theorem resv3 {fn:Func}{r1 r2 r3:ResultVar}{v1 v2 v3:Value}(h:fn.results=#[r1,r2,r3])(h1:RV P a.tmps w r1 v1)(h2:RV P a.tmps w r2 v2)(h3:RV P a.tmps w r3 v3):(results fn a.tmps).run P w=.ok (.tuple #[v1,v2,v3]) w:=by
 cases r1<;>cases r2<;>cases r3<;>simp only[RV,Q1]at h1 h2 h3
 ·simp[results,h,asAddr,h1,h2,h3]
 ·obtain⟨_,p3,q3⟩:=h3;simp[results,h,asAddr,h1,h2,p3,q3]
 ·obtain⟨_,p2,q2⟩:=h2;simp[results,h,asAddr,h1,p2,q2,h3]
 ·obtain⟨_,p2,q2⟩:=h2;obtain⟨_,p3,q3⟩:=h3;simp[results,h,asAddr,h1,p2,q2,p3,q3]
 ·obtain⟨_,p1,q1⟩:=h1;simp[results,h,asAddr,p1,q1,h2,h3]
 ·obtain⟨_,p1,q1⟩:=h1;obtain⟨_,p3,q3⟩:=h3;simp[results,h,asAddr,p1,q1,h2,p3,q3]
 ·obtain⟨_,p1,q1⟩:=h1;obtain⟨_,p2,q2⟩:=h2;simp[results,h,asAddr,p1,q1,p2,q2,h3]
 ·obtain⟨_,p1,q1⟩:=h1;obtain⟨_,p2,q2⟩:=h2;obtain⟨_,p3,q3⟩:=h3;simp[results,h,asAddr,p1,q1,p2,q2,p3,q3]
end
end Go.Z
end
section
namespace Go.A
open Go.RowKit Go.Z
def Seqk (P:Program)(gf:FuncId)(cap:List Value)(N:Nat)(E:Nat->World->World->List Value->Prop)(Dat:Nat->World->Prop):Prop:=
 ∀(lid:Nat) (w:World) (J:Nat->World->Prop) (Jx:World->Prop),(∀k W W',J k W->Ch [] W W'->J k W')->(∀W W',Jx W->Ch [] W W'->Jx W')->(∀k W,J k W->Dat k W)->J 0 w->
  (∀k W0 W args,k<N->J k W0->Ch [] W0 W->E k W0 W args->YieldAt (FW none) 0 P lid args.toArray W fun e W'=>(e=.returned (.bool true)/\J (k+1) W')\/(e=.returned (.bool false)/\Jx W'))->
  Calls P gf (.func (.yield lid) #[] #[]::cap).toArray w fun e W'=>e=.returned (.tuple #[])/\(J N W'\/Jx W')
def RK (D L:Nat)(o:Obj)(I:Nat->World->Prop)(X:Exit->World->Prop)(k:Nat)(e:Exit)(W':World):Prop:=
 W'.heap[L]?=some o/\Dfr W' D/\match e with
  | .normal=>I (k+1) W'
  | .ret=>X .ret W'
  | .exit id=>X (.exit id) W'
  |_=>False
def RQ (D L:Nat)(o:Obj)(I:Nat->World->Prop)(X:Exit->World->Prop)(k:Nat):Exit->Act->World->Prop:=fun e _ W'=>RK D L o I X k e W'
section
variable {P:Program}{Q:Exit->Act->World->Prop}{a:Act}{w:World}{n:Nat}{ds:List Deferred}{l:List (Nat×Value)}
theorem rangeK {g:Operand}{ps:List Nat}{assign body:Code}{gf:FuncId}{cap:List Value}(hf:Fr a n ds l)(hg:ev l g=some (.func (.func gf) #[] cap.toArray))
  (hcf: ∀args w,(callFunc gf args).run P w=.ok (.enter gf args) w) (N:Nat) (E:Nat->World->World->List Value->Prop) (Dat:Nat->World->Prop) (I:Nat->World->Prop) (X:Exit->World->Prop) (hseq:Seqk P gf cap N E Dat)
  (hlen: ∀k W0 W args,E k W0 W args->args.length=ps.length) (hps: ∀p,p∈ps->p<n)
  (hI0: ∀W1,(∃W',Ch [] w W'/\W'.heap.size=w.heap.size+1/\Dfr W' w.heap.size/\Ch [] W' W1/\W1.heap.size=W'.heap.size+1)->(∃o,W1.heap[w.heap.size+1]?=some o)->I 0 W1)
  (hst: ∀k W W',I k W->Ch [w.heap.size+1] W W'->I k W') (hxt: ∀e W W',X e W->Ch [w.heap.size+1] W W'->X e W') (hdat: ∀k W,I k W->Dat k W)
  (hround: ∀k W0 W args a o,k<N->I k W0->Ch [] W0 W->w.heap.size+1<W0.heap.size->E k W0 W args->args.length=ps.length->W.heap[w.heap.size+1]?=some o->Dfr W w.heap.size->Fr a n [] (bindl ps args l)->
   WP (some (w.heap.size+1)) P assign (fun e a1 W1=>e=.normal/\W1.heap[w.heap.size+1]?=some o/\Dfr W1 w.heap.size/\∀W2 o2,Ch [w.heap.size+1] W1 W2->W2.heap[w.heap.size+1]?=some o2->Dfr W2 w.heap.size->
    WP (some (w.heap.size+1)) P body (RQ w.heap.size (w.heap.size+1) o2 I X k) a1 W2) a W)
  (hdone: ∀W a',I N W->Dfr W w.heap.size->Fr a' n (mkD w.heap.size::ds) l->Q .normal a' W)
  (hret: ∀W a',X .ret W->Dfr W w.heap.size->Fr a' n (mkD w.heap.size::ds) l->Q .ret a' W)
  (hexit: ∀id W a',X (.exit id) W->Dfr W w.heap.size->Fr a' n (mkD w.heap.size::ds) l->Q (.exit id) a' W):WP none P (Code.rangeFunc g ps.toArray assign body) Q a w:=by
 refine wpIn_rangeFunc fun fn hfn=>?_
 obtain⟨rec,hrec⟩: ∃rec:LoopState->Option Code->Loop,rec=fun st pe=>{state:=st,pending:=pe,fn,tmps:=a.tmps,params:=ps.toArray,assign,body,defers:=w.heap.size}:=⟨_,rfl⟩
 obtain⟨W1,hW1⟩: ∃W1,(w.alloc (.deferred (some []))).alloc (.loop (rec .ready none))=W1:=⟨_,rfl⟩
 have hL1:W1.heap[w.heap.size+1]?=some (.loop (rec .ready none)):=by
  rw[<-hW1];have:=World.alloc_heap_new (w.alloc (.deferred (some []))) (.loop (rec .ready none));rwa[World.size_alloc]at this
 have hK1:Dfr W1 w.heap.size:=by
  rw[<-hW1];exact(Below.heap_alloc _ _ _ (by simp)).trans (World.alloc_heap_new w _)
 have up: ∀{W W':World},Ch [] W W'->Ch [w.heap.size+1] W W':=fun h=>h.mono (by simp)
 have hI1:I 0 W1:=hI0 W1 ⟨_,Ch.alloc w _,World.size_alloc ..,World.alloc_heap_new w _,by rw[<-hW1];exact Ch.alloc _ _,by rw[<-hW1];exact World.size_alloc ..⟩ ⟨_,hL1⟩
 have hfr:a.eval g=.func (.func gf) #[] cap.toArray:=hf.eval hg
 have hcall:=hseq (w.heap.size+1) W1
  (fun k W=>I k W/\W.heap[w.heap.size+1]?=some (.loop (rec .ready none))/\Dfr W w.heap.size)
  (fun W=>∃e c,X e W/\((e=.ret/\c=Code.ret)\/∃id,e=.exit id/\c=Code.exit id)/\W.heap[w.heap.size+1]?=some (.loop (rec .done (some c)))/\Dfr W w.heap.size)
  (fun k W W' ⟨h1,h2,h3⟩ hc=>⟨hst k W W' h1 (up hc),(hc.block _ (Qp.1 h2).1 (by simp)).trans h2,h3.ch hc (by simp)⟩)
  (fun W W' ⟨e,c,h1,h0,h2,h3⟩ hc=>⟨e,c,hxt e W W' h1 (up hc),h0,(hc.block _ (Qp.1 h2).1 (by simp)).trans h2,h3.ch hc (by simp)⟩)
  (fun k W h=>hdat k W h.1) ⟨hI1,hL1,hK1⟩ ?_
 ·refine⟨w.heap.size+1,[mkD w.heap.size],W1,{target:=.fn (.func gf) cap.toArray,args:=#[.func (.yield (w.heap.size+1)) #[] #[]]},W1,gf,
   (.func (.yield (w.heap.size+1)) #[] #[]::cap).toArray,W1,?_,?_,fun _ _=>trivial,?_,(fun h=>by cases h),(callsFW hcall).mono ?_⟩
  ·rw[<-hW1,hrec];exact run_enterLoop_outer _ _ _ _ _
  ·simp only[resolve,hfr]
   simp[go_sem]
  ·simp[invoke,go_sem,hcf]
  ·have fin: ∀(W:World) (st:LoopState) (pe:Option Code),W.heap[w.heap.size+1]?=some (.loop (rec st pe))->st≠ .busy->Dfr W w.heap.size->
     ∃W',(Instr.endLoop (w.heap.size+1)).run P W=.ok pe W'/\Ch [w.heap.size+1] W W'/\Dfr W' w.heap.size:=fun W st pe hl hb hk=>by
    have:=run_endLoop (P:=P) hl (by rw[hrec];exact hb)
    rw[hrec]at this
    exact⟨_,this,Ch.putObj _ _ _,hk.ch (Ch.putObj _ _ _) (by simp)⟩
   rintro e W ⟨rfl,⟨h1,h2,h3⟩|⟨e,c,h1,h0,h2,h3⟩⟩
   ·obtain⟨W',hr,hc,hk⟩:=fin W .ready none h2 (by simp) h3
    exact⟨none,W',hr,hdone W' _ (hst N W W' h1 hc) hk ⟨hf.size,by show [mkD w.heap.size]++a.defers=_;rw[hf.defs];rfl,hf.get⟩⟩
   ·obtain⟨W',hr,hc,hk⟩:=fin W .done (some c) h2 (by simp) h3
    have hfr':Fr {a with defers:=[mkD w.heap.size]++a.defers} n (mkD w.heap.size::ds) l:=⟨hf.size,by show [mkD w.heap.size]++a.defers=_;rw[hf.defs];rfl,hf.get⟩
    refine⟨some c,W',hr,?_⟩
    rcases h0 with⟨rfl,rfl⟩|⟨id,rfl,rfl⟩
    ·exact wpIn_ret (hret W' _ (hxt _ W W' h1 hc) hk hfr')
    ·exact wpIn_exit (hexit id W' _ (hxt _ W W' h1 hc) hk hfr')
 ·rintro k W0 W args hk ⟨h1,h2,h3⟩ hc hEk
  have hlt:w.heap.size+1<W0.heap.size:=(Qp.1 h2).1
  have hl:W.heap[w.heap.size+1]?=some (.loop (rec .ready none)):=(hc.block _ hlt (by simp)).trans h2
  have hkk:Dfr W w.heap.size:=h3.ch hc (by simp)
  have hlen':=hlen k W0 W args hEk
  have hy:=run_yield (P:=P) (args:=args.toArray) hl (by rw[hrec];simpa using hlen')
  refine⟨fn,_,assign,body,by rw[hrec]at hy;exact hy,roundIn_of_wpIn hfn ?_⟩
  have hfr0:Fr ⟨(ps.zip args).foldl (fun t (p,v)=>t.setIfInBounds p v) a.tmps,[]⟩ n [] (bindl ps args l):=bind_fr ps args hps ⟨hf.size,rfl,hf.get⟩
  have hzip:((rec .ready none).params.zip args.toArray).foldl (fun t (p,v)=>t.setIfInBounds p v) (rec .ready none).tmps=(ps.zip args).foldl (fun t (p,v)=>t.setIfInBounds p v) a.tmps:=by
   rw[hrec];simp
  rw[hrec]at hzip
  simp only at hzip
  rw[hzip]
  refine wpIn_mono (hround k W0 W args _ _ hk h1 hc hlt hEk hlen' hl hkk hfr0) ?_
  rintro e a1 W' ⟨rfl,hl',hk',hbody⟩
  refine⟨_,run_beginRound hl' (by rw[hrec]),?_⟩
  have hltW:w.heap.size+1<W'.heap.size:=(Qp.1 hl').1
  have hc2:Ch [w.heap.size+1] W' (W'.putObj (w.heap.size+1) (.loop {rec .ready none with state:=.busy})):=Ch.putObj _ _ _
  have hl2:(W'.putObj (w.heap.size+1) (.loop {rec .ready none with state:=.busy})).heap[w.heap.size+1]?=some (.loop {rec .ready none with state:=.busy}):=World.putObj_heap_same hltW
  have hk2:=hk'.ch hc2 (by simp)
  refine wpIn_mono (hbody _ _ hc2 hl2 hk2) ?_
  have fin: ∀(jump:Option Code) (W3:World),W3.heap[w.heap.size+1]?=some (.loop {rec .ready none with state:=.busy})->Dfr W3 w.heap.size->
    ∃W4,(Instr.endRound (w.heap.size+1) jump).run P W3=.ok (.bool jump.isNone) W4/\Ch [w.heap.size+1] W3 W4/\W4.heap[w.heap.size+1]?=some (.loop (rec (if jump.isNone then .ready else .done) jump))/\Dfr W4 w.heap.size:=fun jump W3 hl3 hk3=>by
   have hend:=run_endRound (P:=P) jump hl3
   rw[hrec]at hend ⊢
   exact⟨_,hend,Ch.putObj _ _ _,World.putObj_heap_same (Qp.1 hl3).1,hk3.ch (Ch.putObj _ _ _) (by simp)⟩
  rintro e a3 W3 ⟨hl3,hk3,hp⟩
  cases e with
  |normal=>
   obtain⟨W4,hr,hc4,hl4,hk4⟩:=fin none W3 hl3 hk3
   exact⟨_,W4,hr,.inl ⟨rfl,hst _ _ _ hp hc4,hl4,hk4⟩⟩
  |ret=>
   obtain⟨W4,hr,hc4,hl4,hk4⟩:=fin (some .ret) W3 hl3 hk3
   exact⟨_,W4,hr,.inr ⟨rfl,.ret,.ret,hxt _ _ _ hp hc4,.inl ⟨rfl,rfl⟩,hl4,hk4⟩⟩
  |exit id=>
   obtain⟨W4,hr,hc4,hl4,hk4⟩:=fin (some (.exit id)) W3 hl3 hk3
   exact⟨_,W4,hr,.inr ⟨rfl,.exit id,.exit id,hxt _ _ _ hp hc4,.inr ⟨id,rfl,rfl⟩,hl4,hk4⟩⟩
  |goto t=>exact hp.elim
  |panic ch=>exact hp.elim
  |outgrown=>exact hp.elim
end
abbrev lpT:Obj->Prop:=fun _=>True
abbrev dfT:Obj->Prop:=fun o=>o=.deferred (some [])
def Res.hasb:Res->Bool
 | .own ..=>true
 | .blk ..=>true
 | .mp ..=>true
 | .si ..=>true
 | .ob ..=>true
 | .mr ..=>true
 | .gn ..=>true
 |_=>false
theorem Res.nob: ∀{r:Res},r.hasb=false->r.ref=none->r.bl=[]
 | .dead,_,_=>rfl
 | .sh ..,_,_=>rfl
 | .ln ..,_,_=>rfl
 | .el ..,_,_=>rfl
 | .own ..,h,_=>by cases h
 | .blk ..,h,_=>by cases h
 | .mp ..,h,_=>by cases h
 | .mit ..,_,h=>by cases h
 | .si ..,h,_=>by cases h
 | .ob ..,h,_=>by cases h
 | .lmp ..,_,_=>rfl
 | .mr ..,h,_=>by cases h
 | .gn ..,h,_=>by cases h
def mvl (H:List (Nat×Res)):List Nat->List (Nat×Nat)
 | []=>[]
 |k::ks=>match hk H k with
  |some r=>bif rok [] r.ref then(bif r.hasb then(k,k)::mvl H ks else mvl H ks)else mvl H ks
  |none=>mvl H ks
theorem Qig {o:Option Nat}(h:rok [] o=true):o=none:=by
 cases o with
 |none=>rfl
 |some j=>simp[rok]at h
theorem Qel (H:List (Nat×Res)): ∀ks:List Nat,Sub H (kpH H [] ks) (mvl H ks) []
 | []=>.nil
 |k::ks=>by
  unfold kpH mvl
  cases hj:hk H k with
  |none=>exact Qel H ks
  |some r=>
   simp only[]
   cases hr:rok [] r.ref with
   |false=>exact Qel H ks
   |true=>
    cases hb:r.hasb with
    |false=>exact .s k (Qel H ks) hj (Res.nob hb (Qig hr)) (Qig hr)
    |true=>exact .m k (Qel H ks) hj (Qig hr)
theorem Hp.nds {n n':Nat}{ds ds':List Deferred}{w0:World}{S:List Nat}{F:Nat->Prop}{H:List (Nat×Res)}{w:World}(h:Hp ⟨n,ds,w0,S,F⟩ H w):Hp ⟨n',ds',w0,S,F⟩ H w:=⟨h.ch,h.hold,h.bnd,h.dis,h.ref⟩
theorem fin_round {C:Cx}{H He:List (Nat×Res)}{W W':World}{n:Nat}{ds:List Deferred}{bs:List Nat}(hh0:Hp C H W)(hb:Hp ⟨n,ds,W,blks H (mvl H bs),Fh C H⟩ He W')(gs:List Nat)(M:Nat)(ps:List (Nat×Nat)){Ho:List (Nat×Res)}
  (h1:(outs (kpH He gs gs)&&frs M H (kpH He gs gs))=true) (h2:ren (hcat (sft M (kpH He gs gs)) (kill ((mvl H bs).map (·.2)) H)) ps=Ho) (h3:nod (ps.map (·.1))=true) (h4:nod (ps.map (·.2))=true):Hp C Ho W':=by
 rw[Qe]at h1
 subst h2
 exact(hh0.back (hb.keep gs).nds h1.1 h1.2).ren ps h3 h4
abbrev HK (kd kl D L:Nat) (p:Obj->Prop) (nh H:List (Nat×Res)):List (Nat×Res):=(kl,.ob L p)::(kd,.ob D dfT)::hcat nh H
def IK (C:Cx)(kd kl D L:Nat)(J:Nat->List (Nat×Res)->Prop)(H:List (Nat×Res)):Nat->World->Prop:=fun k W=>∃nh,J k nh/\Hp C (HK kd kl D L lpT nh H) W
def XK (P:Program)(Y:Exit->Act->World->Prop)(K:List Kx)(C:Cx)(l:List (Nat×Value))(D L:Nat):Exit->World->Prop:=fun e W=>∀W',Ch [L] W W'->∀a',Fr a' C.n (mkD D::C.ds) l->kont none P Y K e a' W'
def nrf (k:Nat)(H:List (Nat×Res)):Bool:=H.all fun p=>match p.2.ref with
 |none=>true
 |some j=> !(Nat.beq j k)
theorem hk_mem: ∀{H:List (Nat×Res)} {k:Nat} {r:Res},hk H k=some r->(k,r)∈H
 | [],_,_,h=>by cases h
 |(d,u)::q,k,r,h=>by
  rw[Qab]at h
  split at h
  ·rename_i e;subst e;injection h with h;subst h;exact Qg ..
  ·exact Qf _ (hk_mem h)
theorem nrf_spec {k:Nat}{H:List (Nat×Res)}(h:nrf k H=true){j:Nat}{r:Res}(hj:hk H j=some r):r.ref≠some k:=fun e=>by
 have:=Qx.1 h _ (hk_mem hj)
 simp[e]at this
theorem Hp.ob {C:Cx}{H:List (Nat×Res)}{w w':World}{k L:Nat}{p q:Obj->Prop}{o:Obj}(h:Hp C ((k,.ob L p)::H) w)(hr:nrf k H=true)(hc:Ch [L] w w')(ho:w'.heap[L]?=some o)(hq:q o):Hp C ((k,.ob L q)::H) w':=by
 have hsame: ∀j b,Bk ((k,.ob L q)::H) j b↔Bk ((k,.ob L p)::H) j b:=fun j b=>by
  by_cases hj:j=k
  ·subst hj;rw[Bk.cons_eq,Bk.cons_eq];exact Iff.rfl
  ·rw[Bk.cons_ne hj,Bk.cons_ne hj]
 have hL: ∀b,(∀j,¬Bk ((k,.ob L p)::H) j b)->b∉[L]:=fun b hb hm=>by
  rw[Qm]at hm;subst hm
  exact hb k (Bk.cons_eq.2 (by simp[Res.bl]))
 have hnb: ∀b,(∀j,¬Bk ((k,.ob L p)::H) j b)->∀j,¬Bk ((k,.ob L q)::H) j b:=fun b hb j hj=>hb j ((hsame j b).1 hj)
 have hLk: ∀j b,Bk ((k,.ob L p)::H) j b->j≠k->b∉[L]:=fun j b hb hj hm=>by
  rw[Qm]at hm;subst hm
  exact hj (h.dis j k b hb (Bk.cons_eq.2 (by simp[Res.bl])))
 refine⟨?_,fun j r hj=>?_,fun j b hj=>?_,fun j j' b hj hj'=>h.dis j j' b ((hsame j b).1 hj) ((hsame j' b).1 hj'),fun j r i hj hri=>?_⟩
 ·have hch:=h.ch
  refine⟨hc.os.trans hch.os,hc.tape.trans hch.tape,hc.output.trans hch.output,Wd hch.size hc.size,fun b hb hn=>?_⟩
  rw[hc.block b (Qq hb hch.size) (fun hm=>?_)]
  ·exact hch.block b hb hn
  ·rw[Qm]at hm;subst hm
   rcases(h.bnd k b (Bk.cons_eq.2 (by simp[Res.bl]))).1 with h1|h1
   ·omega
   ·exact hn h1
 ·rw[Qab]at hj
  split at hj
  ·injection hj with hj;subst hj;exact⟨o,ho,hq⟩
  ·rename_i hn
   have hj':hk ((k,.ob L p)::H) j=some r:=by rw[Qab,Qd hn];exact hj
   refine Res.to (h.hold j r hj') hc (fun b hb _=>⟨hL b hb.1,hnb b hb.1,hb.2⟩) (fun b hb _=>⟨hL b hb,hnb b hb⟩) (fun i b hi hB=>⟨hLk i b hB fun e=>nrf_spec hr hj (by rw[hi,e]),(hsame i b).2 hB⟩) fun b hb=>hLk j b ⟨r,hj',hb⟩ (Ne.symm hn)
 ·obtain⟨h1,h2⟩:=h.bnd j b ((hsame j b).1 hj)
  exact⟨h1,Qq h2 hc.size⟩
 ·rw[Qab]at hj
  split at hj
  ·injection hj with hj;subst hj;cases hri
  ·rename_i hn
   obtain⟨h5,h6⟩:=h.ref j r i (by rw[Qab,Qd hn];exact hj) hri
   refine⟨h5,fun r2 h7=>?_⟩
   rw[Qab]at h7
   split at h7
   ·injection h7 with h7;subst h7;rfl
   ·rename_i hn2;exact h6 r2 (by rw[Qab,Qd hn2];exact h7)
theorem Hp.obj {C:Cx}{H:List (Nat×Res)}{w w':World}{k L:Nat}{p q:Obj->Prop}{o:Obj}(h:Hp C H w)(hk1:hk H k=some (.ob L p))(hc:Ch [L] w w')(ho:w'.heap[L]?=some o)(hq:q o):Hp C ((k,.ob L q)::drp k H) w':=
 h.upd hc (fun b hb=>by rw[Qm]at hb;subst hb;exact⟨_,hk1,by simp[Res.bl]⟩) (fun b hb=>.inl ⟨_,hk1,hb⟩) (fun j hj=>by cases hj) fun F B _ _ _ _ _=>⟨o,ho,hq⟩
def El (t:Ty)(ag:List Value->List Value)(xs:List t.den)(Φ:Nat->World->Nat->Prop):Nat->World->World->List Value->Prop:=fun k W0 W args=>
 ∃x cs,xs[k]?=some x/\args=ag cs/\t.rep W (fun b=>Φ k W0 b\/W0.heap.size<=b) cs x
def Sq (P:Program)(gf:FuncId)(cap:List Value)(Hc:List (Nat×Res))(t:Ty)(ag:List Value->List Value)(xs:List t.den):Prop:=
 ∀Φ:Nat->World->Nat->Prop,Seqk P gf cap xs.length (El t ag xs Φ) (fun k W=>Hp ⟨0,[],W,[],Φ k W⟩ Hc W)
theorem Qbe: ∀{l:List Nat},nod l=true↔l.Nodup
 | []=>by simp[nod]
 |k::l=>by
  simp only[nod,Qe,Xt,Wv,Qbe (l:=l)]
  refine and_congr ⟨fun h hm=>?_,fun h=>?_⟩ Iff.rfl
  ·rw[Yt]at h;exact h k hm (Y3 k)
  ·rw[Yt];exact fun x hx e=>h (by rw[Ql e];exact hx)
theorem Qgn (H:List (Nat×Res))(all:List Nat): ∀ks:List Nat,List.Sublist ((kpH H all ks).map (·.1)) ks
 | []=>List.Sublist.refl _
 |k::ks=>by
  unfold kpH
  cases hk H k with
  |none=>exact(Qgn H all ks).cons k
  |some r=>
   simp only[]
   cases rok all r.ref with
   |false=>exact(Qgn H all ks).cons k
   |true=>exact(Qgn H all ks).cons_cons k
theorem Qey (H:List (Nat×Res)): ∀ks:List Nat,List.Sublist ((mvl H ks).map (·.2)) ks
 | []=>List.Sublist.refl _
 |k::ks=>by
  unfold mvl
  cases hk H k with
  |none=>exact(Qey H ks).cons k
  |some r=>
   simp only[]
   cases rok [] r.ref with
   |false=>exact(Qey H ks).cons k
   |true=>cases r.hasb with
    |false=>exact(Qey H ks).cons k
    |true=>exact(Qey H ks).cons_cons k
def MF (P:Program)(D L:Nat)(o:Obj)(Yb:Obj->Exit->Act->World->Prop)(body:Code):Act->World->Prop:=fun a1 W1=>W1.heap[L]?=some o/\Dfr W1 D/\∀W2 o2,Ch [L] W1 W2->W2.heap[L]?=some o2->Dfr W2 D->WP (some L) P body (Yb o2) a1 W2
section
variable {P:Program}{Y:Exit->Act->World->Prop}{K:List Kx}{C:Cx}{l:List (Nat×Value)}{H:List (Nat×Res)}
theorem AX.rgf {g:Operand}{ps:List Nat}{assign body:Code}{gf:FuncId}{cap:List Value}{Hc:List (Nat×Res)}{t:Ty}{ag:List Value->List Value}{xs:List t.den}
  (kd kl kn:Nat) (hs gs bs:List Nat) (J:Nat->List (Nat×Res)->Prop) (nh:List (Nat×Res)) (hcf: ∀args w,(callFunc gf args).run P w=.ok (.enter gf args) w) (hseq:Sq P gf cap Hc t ag xs) (hag: ∀cs,(ag cs).length=ps.length) (hJ0:J 0 nh)
  (hsub: ∀k nh D L,J k nh->(∃ls,Sub (HK kd kl D L lpT nh (kpH H hs hs)) Hc [] ls)/\nrf kl ((kd,.ob D dfT)::hcat nh (kpH H hs hs))=true/\∀o,nok (kpH (HK kd kl D L (fun x=>x=o) nh (kpH H hs hs)) [] bs) kn (lv t)=true)
  (hround: ∀k nh x D L W o,J k nh->xs[k]?=some x->t.ok x->Hp C (HK kd kl D L (fun x=>x=o) nh (kpH H hs hs)) W->tele (lv t) fun pl=>
   AX (some L) P (fun _ _ _=>False) [.m (MF P D L o (fun o2=>RQ D L o2 (IK C kd kl D L J (kpH H hs hs)) (XK P Y K C l D L) k) body)] assign
    ⟨C.n,[],W,blks (HK kd kl D L (fun x=>x=o) nh (kpH H hs hs)) (mvl (HK kd kl D L (fun x=>x=o) nh (kpH H hs hs)) bs),Fh C (HK kd kl D L (fun x=>x=o) nh (kpH H hs hs))⟩ (bindl ps (ag (cl t x pl)) l)
    (hcat (kx kn (rs t x pl)) (kpH (HK kd kl D L (fun x=>x=o) nh (kpH H hs hs)) [] bs)))
  (hdone: ∀nh D L,J xs.length nh->AE none P Y K .normal ⟨C.n,mkD D::C.ds,C.w0,C.S,C.F⟩ l (HK kd kl D L lpT nh (kpH H hs hs)))
  (hg:ev l g=some (.func (.func gf) #[] cap.toArray):=by rfl) (hps:ps.all (fun p=>Nat.ble (p+1) C.n)=true:=by rfl) (h0:kpH H gs gs=hcat nh (kpH H hs hs):=by kernel_rfl)
  (hn1:hk (hcat nh (kpH H hs hs)) kd=none:=by kernel_rfl) (hn2:hk (hcat nh (kpH H hs hs)) kl=none:=by kernel_rfl) (hne:Nat.beq kd kl=false:=by rfl) (hbs:nod bs=true:=by rfl) (hHc:nod (Hc.map (·.1))=true:=by rfl):
  AX none P Y K (.rangeFunc g ps.toArray assign body) C l H:=fun a w hf hh=>by
 have hne:kd≠kl:=fun e=>by rw[e,Y3]at hne;cases hne
 obtain⟨Φ,hΦ⟩: ∃Φ:Nat->World->Nat->Prop,Φ=fun k W b=>∃h:IK C kd kl w.heap.size (w.heap.size+1) J (kpH H hs hs) k W,Fh C (HK kd kl w.heap.size (w.heap.size+1) lpT (Classical.choose h) (kpH H hs hs)) b:=⟨_,rfl⟩
 have hΦe: ∀k W (h:IK C kd kl w.heap.size (w.heap.size+1) J (kpH H hs hs) k W),Φ k W=Fh C (HK kd kl w.heap.size (w.heap.size+1) lpT (Classical.choose h) (kpH H hs hs)):=fun k W h=>by
  subst hΦ;funext b;exact propext ⟨fun⟨_,h2⟩=>h2,fun h2=>⟨h,h2⟩⟩
 have hlast: ∀{k:Nat} {nh:List (Nat×Res)} {D:Nat},J k nh->nrf kl ((kd,.ob D dfT)::hcat nh (kpH H hs hs))=true:=fun h=>(hsub _ _ _ 0 h).2.1
 refine rangeK hf hg hcf xs.length _ _ (IK C kd kl w.heap.size (w.heap.size+1) J (kpH H hs hs)) (XK P Y K C l w.heap.size (w.heap.size+1)) (hseq Φ) (fun k W0 W args ⟨x,cs,_,h2,_⟩=>by rw[h2];exact hag cs) (fun p hp=>Qi (Qx.1 hps p hp)) ?_ ?_ ?_ ?_ ?_ ?_ ?_ ?_
 ·rintro W1 ⟨W',hc1,hz1,hd,hc2,hz2⟩ ⟨o,ho⟩
  refine⟨nh,hJ0,?_⟩
  have h1:Hp C (hcat nh (kpH H hs hs)) w:=hh.cov gs h0
  have h2:Hp C ((kd,.ob w.heap.size dfT)::hcat nh (kpH H hs hs)) W':=h1.new hn1 hc1 (fun b hb=>by simp only[Res.bl,Qm]at hb;omega) (fun j hj=>by cases hj) fun F B _ _ _=>⟨_,hd,rfl⟩
  refine h2.new (by rw[Qab,Qd hne];exact hn2) hc2 (fun b hb=>by simp only[Res.bl,Qm]at hb;omega) (fun j hj=>by cases hj) fun F B _ _ _=>⟨o,ho,trivial⟩
 ·rintro k W W' ⟨nh,hJ,hW⟩ hc
  obtain⟨o,ho,_⟩: ∃o,W.heap[w.heap.size+1]?=some o/\lpT o:=hW.hold kl (.ob (w.heap.size+1) lpT) (by rw[Qab,Qj rfl])
  have hlt:=Qq (Qp.1 ho).1 hc.size
  exact⟨nh,hJ,hW.ob (hlast hJ) hc (Q3 hlt) trivial⟩
 ·exact fun e W W' h hc W2 hc2=>h W2 (Ch.then (U:=[w.heap.size+1]) hc hc2 (by simp) (by simp))
 ·intro k W h
  rw[hΦe k W h]
  obtain⟨hJ,hW⟩:=Classical.choose_spec h
  obtain⟨ls,hS⟩:=(hsub _ _ w.heap.size (w.heap.size+1) hJ).1
  exact hS.hp hW hHc rfl (by simp)
 ·intro k W0 W args a1 o hk1 hI hc hlt ⟨x,cs,hx,hargs,hrep⟩ hlen ho hdf hfr
  rw[hΦe k W0 hI]at hrep
  obtain⟨hJ,hW⟩:=Classical.choose_spec hI
  obtain⟨nh,hnh⟩: ∃nh,nh=Classical.choose hI:=⟨_,rfl⟩
  rw[<-hnh]at hrep hJ hW
  have hW1:Hp C (HK kd kl w.heap.size (w.heap.size+1) (fun x=>x=o) nh (kpH H hs hs)) W:=hW.ob (hlast hJ) (hc.mono (by simp)) ho rfl
  have hb:=(Qel (HK kd kl w.heap.size (w.heap.size+1) (fun x=>x=o) nh (kpH H hs hs)) bs).hp hW1 (Qbe.2 ((Qgn _ _ bs).nodup (Qbe.1 hbs))) (Qbe.2 ((Qey _ bs).nodup (Qbe.1 hbs))) (by simp)
  have hrep2:t.rep W (Fh ⟨C.n,[],W,blks (HK kd kl w.heap.size (w.heap.size+1) (fun x=>x=o) nh (kpH H hs hs)) (mvl (HK kd kl w.heap.size (w.heap.size+1) (fun x=>x=o) nh (kpH H hs hs)) bs),Fh C (HK kd kl w.heap.size (w.heap.size+1) (fun x=>x=o) nh (kpH H hs hs))⟩ (kpH (HK kd kl w.heap.size (w.heap.size+1) (fun x=>x=o) nh (kpH H hs hs)) [] bs)) cs x:=by
   have hnb: ∀b,(∀j,¬Bk (HK kd kl w.heap.size (w.heap.size+1) (fun x=>x=o) nh (kpH H hs hs)) j b)->∀j,¬Bk (kpH (HK kd kl w.heap.size (w.heap.size+1) (fun x=>x=o) nh (kpH H hs hs)) [] bs) j b:=fun b hB j ⟨r,h1,h2⟩=>hB j ⟨r,(Qdh h1).1,h2⟩
   have hpq: ∀j b,Bk (HK kd kl w.heap.size (w.heap.size+1) (fun x=>x=o) nh (kpH H hs hs)) j b->Bk (HK kd kl w.heap.size (w.heap.size+1) lpT nh (kpH H hs hs)) j b:=fun j b hj=>by
    by_cases e:j=kl
    ·subst e;rw[Bk.cons_eq]at hj ⊢;exact hj
    ·rw[Bk.cons_ne e]at hj ⊢;exact hj
   refine rep_to hrep (S:=[]) (Ch.refl W) fun b hb hl=>⟨by simp,?_⟩
   have:Fh C (HK kd kl w.heap.size (w.heap.size+1) (fun x=>x=o) nh (kpH H hs hs)) b:=by
    rcases hb with hb|hb
    ·exact⟨fun j hj=>hb.1 j (hpq j b hj),hb.2⟩
    ·exact⟨fun j hj=>by have:=(hW.bnd j b (hpq j b hj)).2;omega,.inr (.inl (Wd hW.ch.size hb))⟩
   exact⟨hnb b this.1,.inl this⟩
  obtain⟨pl,hpl,hcs,hb2⟩:=Qft hb.nds hrep2 kn ((hsub _ _ w.heap.size (w.heap.size+1) hJ).2.2 o)
  subst hcs
  rw[hargs]at hfr
  refine wpIn_mono (Qau (hround k nh x w.heap.size (w.heap.size+1) W o hJ hx (rep_ok t hrep) hW1) pl hpl a1 W hfr hb2) fun e a2 W2 he=>?_
  cases e with
  |normal=>exact⟨rfl,he⟩
  |_=>exact False.elim he
 ·rintro W a' ⟨nh,hJ,hW⟩ hd hf'
  exact hdone nh _ _ hJ a' W hf' hW.nds
 ·exact fun W a' hX hd hf'=>hX W (Ch.refl' _ _) a' hf'
 ·exact fun id W a' hX hd hf'=>hX W (Ch.refl' _ _) a' hf'
theorem AE.flip {D L:Nat}{o:Obj}{Yb:Obj->Exit->Act->World->Prop}{body:Code}(kd kl:Nat)(h: ∀o2,AX (some L) P (Yb o2) [] body ⟨C.n,[],C.w0,C.S,C.F⟩ l ((kl,.ob L (fun x=>x=o2))::H))(hds:C.ds=[]:=by rfl)
  (h1:hk H kl=some (.ob L (fun x=>x=o)):=by rfl) (h2:hk H kd=some (.ob D dfT):=by rfl) (hj:hng [kl] [] H=true:=by kernel_rfl):AE (some L) P Y (.m (MF P D L o Yb body)::K) .normal C l H:=fun a w hf hh=>by
 obtain⟨o',ho',e⟩: ∃o',w.heap[L]?=some o'/\o'=o:=hh.hold kl _ h1
 obtain⟨d,hd,e2⟩: ∃d,w.heap[D]?=some d/\d=.deferred (some []):=hh.hold kd _ h2
 subst e;subst e2
 rw[hds]at hf
 exact⟨ho',hd,fun W2 o2 hc ho2 _=>h o2 a W2 hf (Hp.dd (js:=[]) (hh.obj (q:=fun x=>x=o2) h1 hc ho2 rfl) hj).nds⟩
theorem Qea {n:Nat}{ds:List Deferred}{W W':World}{kd kl D L M:Nat}{p:Obj->Prop}{o2:Obj}{nh Hk He Ho:List (Nat×Res)}{bs gs:List Nat}{ps:List (Nat×Nat)}(hh0:Hp C (HK kd kl D L p nh Hk) W)(hb:Hp ⟨n,ds,W,blks (HK kd kl D L p nh Hk) (mvl (HK kd kl D L p nh Hk) bs),Fh C (HK kd kl D L p nh Hk)⟩ He W')
  (hkd:hk He kd=some (.ob D dfT)) (hkl:hk He kl=some (.ob L (fun x=>x=o2))) (h1:(outs (kpH He gs gs)&&frs M (HK kd kl D L p nh Hk) (kpH He gs gs))=true)
  (h2:ren (hcat (sft M (kpH He gs gs)) (kill ((mvl (HK kd kl D L p nh Hk) bs).map (·.2)) (HK kd kl D L p nh Hk))) ps=(kl,.ob L (fun x=>x=o2))::Ho) (h3:nod (ps.map (·.1))=true) (h4:nod (ps.map (·.2))=true) (h5:nrf kl Ho=true):
  W'.heap[L]?=some o2/\Dfr W' D/\∀W2,Ch [L] W' W2->Hp C ((kl,.ob L lpT)::Ho) W2:=by
 obtain⟨o',ho',e⟩: ∃o',W'.heap[L]?=some o'/\o'=o2:=hb.hold kl _ hkl
 obtain⟨d,hd,e2⟩: ∃d,W'.heap[D]?=some d/\d=.deferred (some []):=hb.hold kd _ hkd
 subst e;subst e2
 refine⟨ho',hd,fun W2 hc=>?_⟩
 have:=fin_round hh0 hb gs M ps h1 h2 h3 h4
 exact this.ob h5 hc (Q3 (Qq (Qp.1 ho').1 hc.size)) trivial
theorem AE.bn {X:Exit->World->Prop}{k n:Nat}{W:World}{kd kl D L:Nat}{p:Obj->Prop}{o2:Obj}{nh Hk He:List (Nat×Res)}{J:Nat->List (Nat×Res)->Prop}{bs:List Nat}{S:List Nat}{F:Nat->Prop}(hh0:Hp C (HK kd kl D L p nh Hk) W)(gs:List Nat)(M:Nat)(ps:List (Nat×Nat))(nh':List (Nat×Res))(hJ:J (k+1) nh')
  (hS:S=blks (HK kd kl D L p nh Hk) (mvl (HK kd kl D L p nh Hk) bs)) (hF:F=Fh C (HK kd kl D L p nh Hk))
  (hkd:hk He kd=some (.ob D dfT):=by rfl) (hkl:hk He kl=some (.ob L (fun x=>x=o2)):=by rfl) (h1:(outs (kpH He gs gs)&&frs M (HK kd kl D L p nh Hk) (kpH He gs gs))=true:=by kernel_rfl)
  (h2:ren (hcat (sft M (kpH He gs gs)) (kill ((mvl (HK kd kl D L p nh Hk) bs).map (·.2)) (HK kd kl D L p nh Hk))) ps=(kl,.ob L (fun x=>x=o2))::(kd,.ob D dfT)::hcat nh' Hk:=by kernel_rfl) (h3:nod (ps.map (·.1))=true:=by rfl) (h4:nod (ps.map (·.2))=true:=by rfl) (h5:nrf kl ((kd,.ob D dfT)::hcat nh' Hk)=true:=by kernel_rfl):
  AE (some L) P (RQ D L o2 (IK C kd kl D L J Hk) X k) [] .normal ⟨n,[],W,S,F⟩ l He:=fun a w hf hh=>by
 subst hS;subst hF
 obtain⟨h6,h7,h8⟩:=Qea hh0 hh hkd hkl h1 h2 h3 h4 h5
 exact⟨h6,h7,nh',hJ,h8 w (Ch.refl' _ _)⟩
theorem kont_exit {r:Option Nat}{id:Nat}{a:Act}{w:World}: ∀{K:List Kx},popx id K=none->Y (.exit id) a w->kont r P Y K (.exit id) a w
 | [],_,h=>h
 | .b i::K,hp,h=>by
  unfold popx at hp
  show(if id=i then kont r P Y K .normal a w else kont r P Y K (.exit id) a w)
  cases hb:Nat.beq i id with
  |true=>rw[hb]at hp;cases hp
  |false=>rw[hb]at hp;rw[Qd (fun e=>by subst e;simp at hb)];exact kont_exit hp h
 | .c _::K,hp,h=>kont_exit (K:=K) hp h
 | .m _::K,hp,h=>kont_exit (K:=K) hp h
 | .s::K,hp,h=>kont_exit (K:=K) hp h
theorem AE.x {r:Option Nat}{id:Nat}{K':List Kx}(e:popx id K=some K')(h:AE r P Y K' .normal C l H):AE r P Y K (.exit id) C l H:=fun a w hf hh=>popx_spec e (h a w hf hh)
theorem AX.bret {Kb:List Kx}{I:Nat->World->Prop}{lo:List (Nat×Value)}{k n:Nat}{W:World}{kd kl D L:Nat}{p:Obj->Prop}{o2:Obj}{nh Hk He:List (Nat×Res)}{bs:List Nat}{S:List Nat}{F:Nat->Prop}(hh0:Hp C (HK kd kl D L p nh Hk) W)(gs:List Nat)(M:Nat)(ps:List (Nat×Nat))(Ho:List (Nat×Res))
  (hout:AE none P Y K .ret ⟨C.n,mkD D::C.ds,C.w0,C.S,C.F⟩ lo ((kl,.ob L lpT)::Ho)) (hS:S=blks (HK kd kl D L p nh Hk) (mvl (HK kd kl D L p nh Hk) bs)) (hF:F=Fh C (HK kd kl D L p nh Hk))
  (hkd:hk He kd=some (.ob D dfT):=by rfl) (hkl:hk He kl=some (.ob L (fun x=>x=o2)):=by rfl) (h1:(outs (kpH He gs gs)&&frs M (HK kd kl D L p nh Hk) (kpH He gs gs))=true:=by kernel_rfl)
  (h2:ren (hcat (sft M (kpH He gs gs)) (kill ((mvl (HK kd kl D L p nh Hk) bs).map (·.2)) (HK kd kl D L p nh Hk))) ps=(kl,.ob L (fun x=>x=o2))::Ho:=by kernel_rfl) (h3:nod (ps.map (·.1))=true:=by rfl) (h4:nod (ps.map (·.2))=true:=by rfl) (h5:nrf kl Ho=true:=by kernel_rfl):
  AX (some L) P (RQ D L o2 I (XK P Y K C lo D L) k) Kb .ret ⟨n,[],W,S,F⟩ l He:=fun a w hf hh=>by
 subst hS;subst hF
 obtain⟨h6,h7,h8⟩:=Qea hh0 hh hkd hkl h1 h2 h3 h4 h5
 exact wpIn_ret (kont_ret ⟨h6,h7,fun W' hc a' hf'=>hout a' W' hf' (h8 W' hc).nds⟩)
theorem AX.bexit {Kb:List Kx}{id:Nat}{I:Nat->World->Prop}{lo:List (Nat×Value)}{k n:Nat}{W:World}{kd kl D L:Nat}{p:Obj->Prop}{o2:Obj}{nh Hk He:List (Nat×Res)}{bs:List Nat}{S:List Nat}{F:Nat->Prop}(hh0:Hp C (HK kd kl D L p nh Hk) W)(gs:List Nat)(M:Nat)(ps:List (Nat×Nat))(Ho:List (Nat×Res))
  (hout:AE none P Y K (.exit id) ⟨C.n,mkD D::C.ds,C.w0,C.S,C.F⟩ lo ((kl,.ob L lpT)::Ho)) (hS:S=blks (HK kd kl D L p nh Hk) (mvl (HK kd kl D L p nh Hk) bs)) (hF:F=Fh C (HK kd kl D L p nh Hk))
  (hpx:popx id Kb=none:=by rfl) (hkd:hk He kd=some (.ob D dfT):=by rfl) (hkl:hk He kl=some (.ob L (fun x=>x=o2)):=by rfl) (h1:(outs (kpH He gs gs)&&frs M (HK kd kl D L p nh Hk) (kpH He gs gs))=true:=by kernel_rfl)
  (h2:ren (hcat (sft M (kpH He gs gs)) (kill ((mvl (HK kd kl D L p nh Hk) bs).map (·.2)) (HK kd kl D L p nh Hk))) ps=(kl,.ob L (fun x=>x=o2))::Ho:=by kernel_rfl) (h3:nod (ps.map (·.1))=true:=by rfl) (h4:nod (ps.map (·.2))=true:=by rfl) (h5:nrf kl Ho=true:=by kernel_rfl):
  AX (some L) P (RQ D L o2 I (XK P Y K C lo D L) k) Kb (.exit id) ⟨n,[],W,S,F⟩ l He:=fun a w hf hh=>by
 subst hS;subst hF
 obtain⟨h6,h7,h8⟩:=Qea hh0 hh hkd hkl h1 h2 h3 h4 h5
 exact wpIn_exit (kont_exit hpx ⟨h6,h7,fun W' hc a' hf'=>hout a' W' hf' (h8 W' hc).nds⟩)
end
def bodyQ (P:Program)(fn:Func)(R:Ending->World->Prop):Exit->Act->World->Prop
 | .normal,a,w=>bodyPostM (FW none) 0 P fn R .normal a w
 | .ret,a,w=>bodyPostM (FW none) 0 P fn R .ret a w
 |_,_,_=>False
def unob:List (Nat×Res)->List (Nat×Res)
 | []=>[]
 |(k,r)::H=>(k,match r with
  | .ob _ _=>.dead
  |r=>match r.ref with
   |none=>r
   |some _=>.dead)::unob H
theorem Qfz: ∀{H:List (Nat×Res)} {k:Nat} {r:Res},hk (unob H) k=some r->r=.dead\/(hk H k=some r/\r.ref=none/\∀g p,r≠ .ob g p)
 | [],_,_,h=>by cases h
 |(d,u)::H,k,r,h=>by
  unfold unob at h
  rw[Qab]at h ⊢
  split at h
  ·rename_i e
   rw[Qj e]
   injection h with h
   cases u with
   |ob g p=>exact .inl h.symm
   |el k b o cs=>cases k with
    |none=>subst h;exact .inr ⟨rfl,rfl,fun g p e=>by cases e⟩
    |some j=>exact .inl h.symm
   |mit k g b n s la=>exact .inl h.symm
   |_=>subst h;exact .inr ⟨rfl,rfl,fun g p e=>by cases e⟩
  ·rename_i e;rw[Qd e];exact Qfz h
def okD (H:List (Nat×Res)):List Nat->List Nat->Prop
 | [],[]=>True
 |D::Ds,k::ks=>hk H k=some (.ob D dfT)/\okD H Ds ks
 |_,_=>False
theorem Qgc {H:List (Nat×Res)}: ∀{Ds ks:List Nat},okD H Ds ks->∀D,D∈Ds->∃k,k∈ks/\hk H k=some (.ob D dfT)
 | [],_,_,D,h=>by cases h
 |D::Ds,[],h,_,_=>by cases h
 |D::Ds,k::ks,h,E,hm=>by
  rcases Qk.1 hm with rfl|hm
  ·exact⟨k,Qg ..,h.1⟩
  ·obtain⟨j,h1,h2⟩:=Qgc h.2 E hm;exact⟨j,Qf _ h1,h2⟩
theorem Qht {C:Cx}{H:List (Nat×Res)}{w:World}(hh:Hp C H w): ∀{Ds ks:List Nat},okD H Ds ks->ks.Nodup->Ds.Nodup
 | [],_,_,_=>Ji
 |D::Ds,[],h,_=>by cases h
 |D::Ds,k::ks,h,hn=>by
  rw[Wv]at hn ⊢
  refine⟨fun hm=>?_,Qht hh h.2 hn.2⟩
  obtain⟨j,h1,h2⟩:=Qgc h.2 D hm
  have:=hh.dis k j D ⟨_,h.1,by simp[Res.bl]⟩ ⟨_,h2,by simp[Res.bl]⟩
  exact hn.1 (this▸h1)
theorem Hp.unob {C:Cx}{H:List (Nat×Res)}{w w':World}{Ds:List Nat}(h:Hp C H w)(hD: ∀D,D∈Ds->∃k,hk H k=some (.ob D dfT))(hc:Ch Ds w w'):Hp C (A.unob H) w':=by
 have hbk: ∀j b,Bk (A.unob H) j b->Bk H j b/\b∉Ds:=fun j b ⟨r,h1,h2⟩=>by
  rcases Qfz h1 with rfl|⟨h3,_,h4⟩
  ·cases h2
  ·refine⟨⟨r,h3,h2⟩,fun hm=>?_⟩
   obtain⟨k,h5⟩:=hD b hm
   have:=h.dis j k b ⟨r,h3,h2⟩ ⟨_,h5,by simp[Res.bl]⟩
   subst this
   rw[h3]at h5;injection h5 with h5;exact h4 _ _ h5
 have hfree: ∀b,(∀k,¬Bk H k b)->b∉Ds/\∀k,¬Bk (A.unob H) k b:=fun b hb=>⟨fun hm=>by obtain⟨k,h5⟩:=hD b hm;exact hb k ⟨_,h5,by simp[Res.bl]⟩,fun j hj=>hb j (hbk j b hj).1⟩
 refine⟨?_,fun j r hj=>?_,fun j b hj=>?_,fun j j' b hj hj'=>h.dis j j' b (hbk j b hj).1 (hbk j' b hj').1,fun j r i hj hri=>?_⟩
 ·have hch:=h.ch
  refine⟨hc.os.trans hch.os,hc.tape.trans hch.tape,hc.output.trans hch.output,Wd hch.size hc.size,fun b hb hn=>?_⟩
  rw[hc.block b (Qq hb hch.size) (fun hm=>?_)]
  ·exact hch.block b hb hn
  ·obtain⟨k,h5⟩:=hD b hm
   rcases(h.bnd k b ⟨_,h5,by simp[Res.bl]⟩).1 with h1|h1
   ·omega
   ·exact hn h1
 ·rcases Qfz hj with rfl|⟨h3,h4,h5⟩
  ·trivial
  ·exact Res.to (h.hold j r h3) hc (fun b hb _=>⟨(hfree b hb.1).1,(hfree b hb.1).2,hb.2⟩) (fun b hb _=>hfree b hb) (fun i b hi _=>by rw[h4]at hi;cases hi) fun b hb=>(hbk j b ⟨r,hj,hb⟩).2
 ·exact⟨(h.bnd j b (hbk j b hj).1).1,Qq (h.bnd j b (hbk j b hj).1).2 hc.size⟩
 ·rcases Qfz hj with rfl|⟨_,h4,_⟩
  ·cases hri
  ·rw[h4]at hri;cases hri
section
variable {r:Option Nat}{P:Program}{K:List Kx}{l:List (Nat×Value)}{H:List (Nat×Res)}
theorem Ct.enterM {f:FuncId}{fn:Func}{c:Code}{vs:List Value}{n:Nat}{S:List Nat}{R:Value->List (Nat×Res)->Prop}(hf:P.funcs[f]?=some fn)(hb:fn.body=some c)(hn:fn.ntmps=n)(hm:Nat.ble vs.length n=true)
  (h: ∀w F,AX none P (bodyQ P fn fun e w'=>∃v H',e=.returned v/\R v H'/\Hp ⟨0,[],w,S,F⟩ H' w') [] c ⟨n,[],w,S,F⟩ (argl vs 0) H):Ct P f vs H S R:=fun w F hh=>
 Z.enterM hf hb hn (Qi hm) fun a hf'=>wpIn_mono (h w F a w hf' hh.nds) fun e a w h=>(by cases e<;>first|exact h|exact False.elim h)
theorem AE.rtM {fn:Func}{w0:World}{S:List Nat}{F:Nat->Prop}{n:Nat}{R:Value->List (Nat×Res)->Prop}{Ds:List Nat}{ds:List Deferred}(kds:List Nat)(ps:List (Nat×Nat))(v:Value)(hD:okD H Ds kds)(hres: ∀a w,Fr a n ds l->Hp ⟨n,ds,w0,S,F⟩ (A.unob H) w->(results fn a.tmps).run P w=.ok v w)(hR:R v (A.ren (A.unob H) ps))(hds:marks Ds=ds:=by rfl)(hk:nod kds=true:=by rfl)(h1:nod (ps.map (·.1))=true:=by rfl)(h2:nod (ps.map (·.2))=true:=by rfl):
  AE r P (bodyQ P fn fun e w'=>∃v H',e=.returned v/\R v H'/\Hp ⟨0,[],w0,S,F⟩ H' w') K .ret ⟨n,ds,w0,S,F⟩ l H:=fun a w hf hh=>by
 subst hds
 refine kont_ret (retM hf (fun D hm=>?_) (Qht hh hD (Qbe.1 hk)) fun w' hc _=>?_)
 ·obtain⟨k,_,h3⟩:=Qgc hD D hm
  obtain⟨d,hd,e2⟩: ∃d,w.heap[D]?=some d/\d=.deferred (some []):=hh.hold k _ h3
  subst e2;exact hd
 ·have h3:=hh.unob (fun D hm=>by obtain⟨k,_,h3⟩:=Qgc hD D hm;exact⟨k,h3⟩) hc
  exact⟨v,hres a w' hf h3,v,_,rfl,hR,(h3.ren ps h1 h2).nds⟩
theorem AX.rtM {fn:Func}{w0:World}{S:List Nat}{F:Nat->Prop}{n:Nat}{R:Value->List (Nat×Res)->Prop}{Ds:List Nat}{ds:List Deferred}(kds:List Nat)(ps:List (Nat×Nat))(v:Value)(hD:okD H Ds kds)(hres: ∀a w,Fr a n ds l->Hp ⟨n,ds,w0,S,F⟩ (A.unob H) w->(results fn a.tmps).run P w=.ok v w)(hR:R v (A.ren (A.unob H) ps))(hds:marks Ds=ds:=by rfl)(hk:nod kds=true:=by rfl)(h1:nod (ps.map (·.1))=true:=by rfl)(h2:nod (ps.map (·.2))=true:=by rfl):
  AX r P (bodyQ P fn fun e w'=>∃v H',e=.returned v/\R v H'/\Hp ⟨0,[],w0,S,F⟩ H' w') K .ret ⟨n,ds,w0,S,F⟩ l H:=fun a w hf hh=>wpIn_ret (AE.rtM kds ps v hD hres hR hds hk h1 h2 a w hf hh)
end
structure Yl (P:Program) (lid:Nat) (J:Nat->World->Prop) (Jx:World->Prop) (Φ:Nat->World->Nat->Prop) (Hc:List (Nat×Res)) (t:Ty) (ag:List Value->List Value) (xs:List t.den):Prop where
 js: ∀k W W',J k W->Ch [] W W'->J k W'
 jx: ∀W W',Jx W->Ch [] W W'->Jx W'
 dat: ∀k W,J k W->Hp ⟨0,[],W,[],Φ k W⟩ Hc W
 y: ∀k W0 W args,k<xs.length->J k W0->Ch [] W0 W->El t ag xs Φ k W0 W args->YieldAt (FW none) 0 P lid args.toArray W fun e W'=>(e=.returned (.bool true)/\J (k+1) W')\/(e=.returned (.bool false)/\Jx W')
def Rem {α:Type}(xs:List α)(k:Nat)(rs:List α):Prop:=xs.drop k=rs/\k<=xs.length
theorem Rem.zero {α:Type}(xs:List α):Rem xs 0 xs:=⟨rfl,Xl _⟩
theorem Rem.nil {α:Type}{xs:List α}{k:Nat}(h:Rem xs k []):k=xs.length:=by
 have:=List.drop_eq_nil_iff.1 h.1;have:=h.2;omega
theorem Rem.at {α:Type}{xs rs:List α}{k:Nat}{x:α}(h:Rem xs k (x::rs)):xs[k]?=some x:=by
 have h1:=h.1
 have:(xs.drop k)[0]?=some x:=by rw[h1];rfl
 rw[Q8]at this;simpa using this
theorem Rem.next {α:Type}{xs rs:List α}{k:Nat}{x:α}(h:Rem xs k (x::rs)):Rem xs (k+1) rs:=by
 refine⟨?_,?_⟩
 ·rw[<-Xo,h.1];rfl
 ·exact(Qb.1 h.at).1
def cns {α:Type}(x:α)(r:Option (List α)):Option (List α):=r.map (x:: ·)
theorem cns_some {α:Type}{x:α}{r:Option (List α)}{rs:List α}(h:cns x r=some rs): ∃rs',rs=x::rs'/\r=some rs':=by
 cases r with
 |none=>cases h
 |some l=>exact⟨l,(Ws h).symm,rfl⟩
abbrev CY (n:Nat) (Φ:Nat->World->Nat->Prop) (i:Nat×World):Cx:=⟨n,[],i.2,[],Φ i.1 i.2⟩
section
variable {P:Program}{lid:Nat}{J:Nat->World->Prop}{Jx:World->Prop}{Φ:Nat->World->Nat->Prop}{Hc:List (Nat×Res)}{t:Ty}{ag:List Value->List Value}{xs:List t.den}{n:Nat}
theorem Sq.enter {gf:FuncId}{fn:Func}{c:Code}{cap:List Value}(hf:P.funcs[gf]?=some fn)(hb:fn.body=some c)(hn:fn.ntmps=n)(hm:Nat.ble (cap.length+1) n=true)
  (h: ∀lid w J Jx Φ,Yl P lid J Jx Φ Hc t ag xs->J 0 w->AX none P (bodyPost P fn fun e W'=>e=.returned (.tuple #[])/\(J xs.length W'\/Jx W')) [] c (CY n Φ (0,w)) (argl (.func (.yield lid) #[] #[]::cap) 0) Hc):Sq P gf cap Hc t ag xs:=fun Φ lid w J Jx h1 h2 h3 h4 h5=>
 Z.enter hf hb hn (Qi hm) fun a hf'=>h lid w J Jx Φ ⟨h1,h2,h3,h5⟩ h4 a w hf' (h3 0 w h4).nds
theorem AL.yield {ops:Array Oper}{Q:Exit->Act->World->Prop}{rest:List Oper}{l:List (Nat×Value)}{H:List (Nat×Res)}{d:Nat}{T:TypeId}{pos:String}{af:Array Edge}{c:Operand}{ass:List Operand}{ts:Array TypeId}{vs:List Value}{k:Nat}{w0:World}{x:t.den}{rs:List t.den}
  (hY:Yl P lid J Jx Φ Hc t ag xs) (hJ:J k w0) (hR:Rem xs k (x::rs)) (cs:List Value) (hD:Dat H t cs x)
  (ht: ∀w',J (k+1) w'->Rem xs (k+1) rs->AL none P ops Q rest (CY n Φ (k+1,w')) ((d,.bool true)::l) Hc)
  (he: ∀w',Jx w'->AL none P ops Q rest ⟨n,[],w',[],no⟩ ((d,.bool false)::l) [])
  (hc:ev l c=some (.func (.yield lid) #[] #[]):=by rfl) (hx:evs l ass=some vs:=by rfl) (hv:ag cs=vs:=by rfl) (hd:Nat.ble (d+1) n=true:=by rfl):
  AL none P ops Q (⟨some d,.call {callee:=.value c,args:=ass.toArray,argTypes:=ts},T,pos,af,none⟩::rest) (CY n Φ (k,w0)) l H:=fun a w hf hh=>by
 subst hv
 have hlt:k<xs.length:=(Qb.1 hR.at).1
 refine callY hf hd hc hx (hY.y k w0 w _ hlt hJ hh.ch ⟨x,cs,hR.at,rfl,Qhe (Dat.rep hh t hD) fun b hb hl=>?_⟩) ?_
 ·rcases hb.2 with h1|h1|h1
  ·exact .inl h1
  ·exact .inr h1
  ·cases h1
 ·rintro e w' (⟨rfl,h1⟩|⟨rfl,h1⟩)
  ·exact⟨_,rfl,fun a' hf'=>ht w' h1 hR.next a' w' hf' (hY.dat _ _ h1).nds⟩
  ·exact⟨_,rfl,fun a' hf'=>he w' h1 a' w' hf' ⟨Ch.refl' _ _,fun k r h=>(by cases h),fun k b ⟨_,h,_⟩=>(by cases h),fun k k' b ⟨_,h,_⟩=>(by cases h),fun k r j h=>(by cases h)⟩⟩
theorem AE.rtY {fn:Func}{l:List (Nat×Value)}{H:List (Nat×Res)}{k:Nat}{w0:World}(hY:Yl P lid J Jx Φ Hc t ag xs)(hJ:J k w0)(hR:Rem xs k [])(h:fn.results=#[]:=by rfl):AE none P (bodyPost P fn fun e W'=>e=.returned (.tuple #[])/\(J xs.length W'\/Jx W')) [] .normal (CY n Φ (k,w0)) l H:=fun a w hf hh=>
 Z.endv hf (Z.res0 h w) ⟨rfl,.inl (hR.nil▸hY.js _ _ _ hJ hh.ch)⟩
theorem AX.rtX {fn:Func}{K:List Kx}{l:List (Nat×Value)}{H:List (Nat×Res)}{w0:World}{F:Nat->Prop}(hY:Yl P lid J Jx Φ Hc t ag xs)(hJ:Jx w0)(h:fn.results=#[]:=by rfl):AX none P (bodyPost P fn fun e W'=>e=.returned (.tuple #[])/\(J xs.length W'\/Jx W')) K .ret ⟨n,[],w0,[],F⟩ l H:=AX.ret0 fun a w hf hh=>
 Z.retv hf (Z.res0 h w) ⟨rfl,.inr (hY.jx _ _ hJ hh.ch)⟩
end
section
variable {r:Option Nat}{P:Program}{Y:Exit->Act->World->Prop}{K:List Kx}{C:Cx}{l:List (Nat×Value)}{H:List (Nat×Res)}{ι:Type}{Cf:ι->Cx}
abbrev StC (Cf:ι->Cx) (l:List (Nat×Value)) (H:List (Nat×Res)) (ks hs:List Nat) (J:ι->List (Nat×Value)->List (Nat×Res)->Prop):Act->World->Prop:=fun a w=>∃i nl nh,J i nl nh/\Fr a (Cf i).n (Cf i).ds (cat nl (kp l ks))/\Hp (Cf i) (hcat nh (kpH H hs hs)) w
theorem AE.jC {l':List (Nat×Value)}{H':List (Nat×Res)}{ks hs:List Nat}{J:ι->List (Nat×Value)->List (Nat×Res)->Prop}(i:ι)(gs:List Nat)(nl:List (Nat×Value))(nh:List (Nat×Res))(hJ:J i nl nh)(h1:kp l ((cat nl (kp l' ks)).map (·.1))=cat nl (kp l' ks):=by kernel_rfl)(h2:kpH H gs gs=hcat nh (kpH H' hs hs):=by kernel_rfl):
  AE r P Y (.m (StC Cf l' H' ks hs J)::K) .normal (Cf i) l H:=fun a w hf hh=>⟨i,nl,nh,hJ,Fr.cov hf h1,hh.cov gs h2⟩
theorem AX.loopC (Cf:ι->Cx)(i0:ι)(ks hs gs:List Nat)(J:Nat->ι->List (Nat×Value)->List (Nat×Res)->Prop)(m:Nat)(nl:List (Nat×Value))(nh:List (Nat×Res)){x:Code}(hJ:J m i0 nl nh)
  (h: ∀f i nl nh,J f i nl nh->AX r P Y (.m (StC Cf l H ks hs fun i nl nh=>∃f',f'<f/\J f' i nl nh)::K) x (Cf i) (cat nl (kp l ks)) (hcat nh (kpH H hs hs)))
  (h1:kp l ((cat nl (kp l ks)).map (·.1))=cat nl (kp l ks):=by kernel_rfl) (h2:kpH H gs gs=hcat nh (kpH H hs hs):=by kernel_rfl):AX r P Y K (.loop x) (Cf i0) l H:=fun a w hf hh=>by
 refine Z.loop (fun f a w=>StC Cf l H ks hs (J f) a w) m ⟨i0,nl,nh,hJ,Fr.cov hf h1,hh.cov gs h2⟩ fun f a w ⟨i,nl,nh,hJ,hf,hh⟩=>?_
 refine wpIn_mono (h f i nl nh hJ a w hf hh) fun e a w hq=>?_
 cases e with
 |normal=>obtain⟨i,nl,nh,⟨f',hlt,hJ'⟩,hf',hh'⟩:=hq;exact⟨f',hlt,i,nl,nh,hJ',hf',hh'⟩
 |_=>exact hq
end
theorem drop_at {α:Type}{xs:List α}{k:Nat}{x:α}(h:xs[k]?=some x):xs.drop k=x::xs.drop (k+1):=by
 obtain⟨hl,rfl⟩:=Qb.1 h
 exact X2 hl
section
variable {P:Program}{kt et tt:TypeId}{κ:Type}[DecidableEq κ]{enc:κ->Value}{w:World}{b:Nat}
theorem run_mapEntry {arr:List MapEntry}{clock:Nat}{ks:List κ}{z:Value}(K:Ky P kt enc)(ht:P.underlying tt=some (.map kt et))(hz: ∀w,(zeroValue et).run P w=.ok z w)(hb:w.heap[b]?=some (.map arr.toArray clock))(hk:arr.map (·.key)=ks.map enc)(hlt: ∀e,e∈arr->e.born<clock)(hnd:(arr.map (·.born)).Nodup)(k:κ):
  ∃(arr1:List MapEntry) (clock1 i:Nat) (e1:MapEntry),(Instr.mapEntry tt (.map (some b)) (enc k)).run P w=.ok (.tuple #[e1.val,goInt e1.born]) (w.putObj b (.map arr1.toArray clock1))/\arr1[i]?=some e1/\e1.key=enc k/\(∀e,e∈arr1->e.born<clock1)/\(arr1.map (·.born)).Nodup/\
   ((loc k ks=some i/\arr1=arr)\/(loc k ks=none/\i=arr.length/\arr1=arr++[e1]/\e1.val=z)):=by
 have hfind:=Qak K k w arr ks hk
 have hget:(getObj b).run P w=.ok (.map arr.toArray clock) w:=by simp[getObj,Sem.run,hb]
 cases hloc:loc k ks with
 |none=>
  rw[hloc]at hfind
  refine⟨arr++[{key:=enc k,val:=z,born:=clock}],clock+1,arr.length,{key:=enc k,val:=z,born:=clock},?_,by simp,rfl,?_,?_,.inr ⟨rfl,rfl,rfl,rfl⟩⟩
  ·simp only[Instr.mapEntry,Sem.run_bind,run_underlying ht,Result.andThen_ok,hget,K.check,hfind,Yj,hz,MapC.set hb,Sem.run_pure,List.push_toArray]
  ·intro e he
   rcases Q0.1 he with he|he
   ·have:=hlt e he;omega
   ·simp at he;subst he;simp
  ·rw[W5,Wz]
   refine⟨hnd,by simp,fun x hx y hy=>?_⟩
   simp at hy;subst hy
   obtain⟨e,he,rfl⟩:=Wx.1 hx
   have:=hlt e he;omega
 |some i=>
  rw[hloc]at hfind
  have hi:i<ks.length:=by
   have: ∀(ks:List κ) (i:Nat),loc k ks=some i->i<ks.length/\ks[i]?=some k:=by
    intro ks
    induction ks with
    |nil=>intro i h;cases h
    |cons a r ih=>
     intro i h
     unfold loc at h
     split at h
     ·rename_i e;injection h with h;subst h;subst e;exact⟨by simp,rfl⟩
     ·cases hr:loc k r with
      |none=>rw[hr]at h;cases h
      |some j=>rw[hr]at h;injection h with h;subst h;have:=ih j hr;exact⟨by simp;omega,by simpa using this.2⟩
   exact(this ks i hloc).1
  have hks:ks[i]?=some k:=by
   have: ∀(ks:List κ) (i:Nat),loc k ks=some i->ks[i]?=some k:=by
    intro ks
    induction ks with
    |nil=>intro i h;cases h
    |cons a r ih=>
     intro i h
     unfold loc at h
     split at h
     ·rename_i e;injection h with h;subst h;subst e;rfl
     ·cases hr:loc k r with
      |none=>rw[hr]at h;cases h
      |some j=>rw[hr]at h;injection h with h;subst h;simpa using ih j hr
   exact this ks i hloc
  have hlen:arr.length=ks.length:=by have:=Qv List.length hk;simpa using this
  obtain⟨e,he⟩: ∃e,arr[i]?=some e:=⟨_,Qh (by omega)⟩
  have hek:e.key=enc k:=by
   have h6:(arr.map (·.key))[i]?=some e.key:=by rw[Qs,he];rfl
   rw[hk,Qs,hks]at h6
   simpa using h6.symm
  have hstay:(Instr.keyThatStays (enc k) (enc k)).run P w=.ok (enc k) w:=by simp[Instr.keyThatStays,K.bits]
  have hsame:(arr.toArray.modify i fun e=>{e with key:=enc k})=arr.toArray:=by
   have:(arr.toArray.modify i fun e=>{e with key:=enc k})=(arr.modify i fun e=>{e with key:=enc k}).toArray:=by simp
   rw[this]
   refine Qv List.toArray (Wp fun j=>?_)
   rw[Wa]
   by_cases hij:i=j
   ·subst hij;rw[he];simp[<-hek]
   ·simp[hij]
  refine⟨arr,clock,i,e,?_,he,hek,hlt,hnd,.inl ⟨rfl,rfl⟩⟩
  simp only[Instr.mapEntry,Sem.run_bind,run_underlying ht,Result.andThen_ok,hget,K.check,hfind,Qa,he,Q7,W9,Y2,hek,hstay,hsame,MapC.set hb,Sem.run_pure]
theorem run_entryStore {arr:List MapEntry}{clock i:Nat}{e1:MapEntry}(hb:w.heap[b]?=some (.map arr.toArray clock))(hi:arr[i]?=some e1)(hnd:(arr.map (·.born)).Nodup)(v:Value):
  (Instr.entryStore tt (.map (some b)) (goInt e1.born) v).run P w=.ok () (w.putObj b (.map (arr.modify i fun e=>{e with val:=v}).toArray clock)):=by
 have hget:(getObj b).run P w=.ok (.map arr.toArray clock) w:=by simp[getObj,Sem.run,hb]
 have hidx:arr.toArray.findIdx? (fun e=>(e.born:Int)==(e1.born:Int))=some i:=by
  rw[Array.findIdx?_eq_some_iff_getElem]
  obtain⟨hl,hg⟩:=Qb.1 hi
  refine⟨by simpa using hl,by simp[hg],fun j hj=>?_⟩
  have hjl:j<arr.length:=by omega
  have hne:arr[j].born≠e1.born:=fun h=>by
   have:=(Jo hnd (i:=j) (j:=i) (h₀:=by simpa using hjl) (h₁:=by simpa using hl)).1 (by simp[hg,h])
   omega
  simp only[List.getElem_toArray,beq_iff_eq]
  omega
 have has:(asIntOf (Value.int IntKind.i64 (e1.born:Int))).run P w=.ok (.i64,(e1.born:Int)) w:=by simp[asIntOf]
 simp only[Instr.entryStore,Sem.run_bind,hget,Result.andThen_ok,goInt,asInt,has,hidx,MapC.set hb,Sem.run_pure,List.modify_toArray]
end
section
variable {P:Program}{kt et tt st ty:TypeId}{κ:Type}[DecidableEq κ]{enc:κ->Value}{w:World}{b:Nat}{t:Ty}{e:TypeId}{F G:Nat->Prop}{As:List (Option Addr×Nat)}{m:List (κ×List t.den)}
theorem Mr.asF {F':Nat->Prop}(h:Mr enc t e w F b As m)(hF: ∀x,F x->x<w.heap.size->F' x):Mr enc t e w F' b As m:=h.to (S:=[]) (Ch.refl w) (by simp) fun x hx hl=>⟨by simp,hF x hx hl⟩
theorem Qch {i:Nat}{a a':Option Addr×Nat}(h:As[i]?=some a): ∀x,x∈rbl (As.set i a')->x∈rbl As\/x∈obl a'.1:=fun x hx=>by
 obtain⟨y,hy,hxy⟩:=List.mem_flatMap.1 hx
 rcases List.mem_or_eq_of_mem_set hy with hy|rfl
 ·exact .inl (List.mem_flatMap.2 ⟨y,hy,hxy⟩)
 ·exact .inr hxy
theorem Qgu {i j:Nat}{a c:Option Addr×Nat}(hn:(rbl As).Nodup)(hi:As[i]?=some a)(hj:As[j]?=some c)(hij:i≠j): ∀x,x∈obl a.1->x∉obl c.1:=by
 induction As generalizing i j with
 |nil=>simp at hi
 |cons y r ih=>
  have hn':(obl y.1++rbl r).Nodup:=hn
  rw[Wz]at hn'
  cases i with
  |zero=>
   cases j with
   |zero=>exact absurd rfl hij
   |succ j=>
    simp only[Wl,Qc]at hi;subst hi
    simp only[Xa]at hj
    exact fun x hx hx2=>hn'.2.2 x hx x (Qat hj hx2) rfl
  |succ i=>
   simp only[Xa]at hi
   cases j with
   |zero=>
    simp only[Wl,Qc]at hj;subst hj
    exact fun x hx hx2=>hn'.2.2 x hx2 x (Qat hi hx) rfl
   |succ j=>
    simp only[Xa]at hj
    exact ih hn'.2.1 hi hj (by omega)
theorem Qct {i:Nat}{a a':Option Addr×Nat}(hn:(rbl As).Nodup)(h:As[i]?=some a)(ha:(obl a'.1).Nodup)(hx: ∀x,x∈obl a'.1->x∈obl a.1\/x∉rbl As):(rbl (As.set i a')).Nodup:=by
 induction As generalizing i with
 |nil=>simp at h
 |cons y r ih=>
  have hn':(obl y.1++rbl r).Nodup:=hn
  rw[Wz]at hn'
  cases i with
  |zero=>
   simp only[Wl,Qc]at h;subst h
   show(obl a'.1++rbl r).Nodup
   rw[Wz]
   refine⟨ha,hn'.2.1,fun x h1 z h2 e=>?_⟩
   subst e
   rcases hx x h1 with h3|h3
   ·exact hn'.2.2 x h3 x h2 rfl
   ·exact h3 (Qy _ h2)
  |succ i=>
   simp only[Xa]at h
   show(obl y.1++rbl (r.set i a')).Nodup
   rw[Wz]
   refine⟨hn'.1,ih hn'.2.1 h fun x h1=>?_,fun x h1 z h2 e=>?_⟩
   ·rcases hx x h1 with h3|h3
    ·exact .inl h3
    ·exact .inr fun h4=>h3 (Qy _ h4)
   ·subst e
    rcases Qch h x h2 with h3|h3
    ·exact hn'.2.2 x h1 x h3 rfl
    ·rcases hx x h3 with h4|h4
     ·exact hn'.2.2 x h1 x (Qat h h4) rfl
     ·exact h4 (Wn _ h1)
theorem Mr.keys {arr:List MapEntry}{es:List (Value×Value)}(h1:arr.map (fun e=>(e.key,e.val))=es)(hl:es.length=m.length)(hA:As.length=m.length)(he: ∀(i:Nat) (p:κ×List t.den) (a:Option Addr×Nat),m[i]?=some p->As[i]?=some a->es[i]?=some (enc p.1,.slice a.1 p.2.length a.2)/\Own t e 0 w F a.1 a.2 p.2):arr.map (·.key)=(m.map Prod.fst).map enc:=by
 have e1:arr.map (·.key)=es.map Prod.fst:=by rw[<-h1,Y1];rfl
 rw[e1]
 refine Wp fun i=>?_
 simp only[Qs]
 cases hm:m[i]? with
 |none=>
  have:=Y4.1 hm
  rw[Q9 (by omega)];rfl
 |some p=>
  have hi:=(Qb.1 hm).1
  rw[(he i p As[i] hm (Qh (by omega))).1];rfl
theorem Qcv (A:Option Addr):(obl A).Nodup:=by cases A<;>simp[obl]
theorem Mr.app {i:TypeInfo}{z:Value}{bytes:Nat}(K:Ky P kt enc)(ht:P.underlying tt=some (.map kt et))(hz0: ∀w,(zeroValue et).run P w=.ok (.slice none 0 0) w)(hst:P.underlying st=some (.slice e))(hi:P.info? e=some i)(hz:i.zero=some z)(hsize:i.size=t.size)(hby:i.bytes=bytes)(hzs:z.cells.size=t.size)(hbp:0<bytes)
  (hm:Mr enc t e w F b As m) (hF: ∀x,F x->x∉b::rbl As) (hFl: ∀x,F x->x<w.heap.size) {A2:Option Addr} {c2:Nat} {ys:List t.den} (hr:Row t w F G A2 c2 ys) (hG: ∀x,G x->x≠b) (k:κ) (h63:((mget [] m k).length+ys.length)*bytes<=140737488355328):
  ∃A c n w1 A' c' w2 w3,(Instr.mapEntry tt (.map (some b)) (enc k)).run P w=.ok (.tuple #[.slice A (mget [] m k).length c,goInt n]) w1/\(Builtin.append_ #[st,st] ty #[.slice A (mget [] m k).length c,.slice A2 ys.length c2]).run P w1=.ok (.slice A' ((mget [] m k).length+ys.length) c') w2/\
   (Instr.entryStore tt (.map (some b)) (goInt n) (.slice A' ((mget [] m k).length+ys.length) c')).run P w2=.ok () w3/\Ch (b::rbl As) w w3/\∃As',Mr enc t e w3 F b As' (mins m k (mget [] m k++ys))/\∀x,x∈rbl As'->x∈rbl As\/(w.heap.size<=x/\x<w3.heap.size):=by
 obtain⟨es,⟨arr,clock,hb,h1,hlt,hnd⟩,hl,hA,hN,hsz,he⟩:=hm
 have hblt:=(Qp.1 hb).1
 rw[Wv]at hN
 have hk:=Mr.keys h1 hl hA he
 have hlen:arr.length=m.length:=by rw[<-hl,<-h1,Wb]
 obtain⟨arr1,clock1,i1,e1,hrun,hi1,hek,hlt1,hnd1,hcase⟩:=run_mapEntry K ht hz0 hb hk hlt hnd k
 have hc1:=Ch.putObj w b (.map arr1.toArray clock1)
 have hrow: ∃A c,e1.val=.slice A (mget [] m k).length c/\Own t e 0 w F A c (mget [] m k)/\(∀x,x∈obl A->x∈rbl As)/\((loc k (m.map Prod.fst)=some i1/\arr1=arr/\As[i1]?=some (A,c))\/(loc k (m.map Prod.fst)=none/\i1=arr.length/\arr1=arr++[e1]/\obl A=[])):=by
  rcases hcase with⟨hloc,rfl⟩|⟨hloc,hi0,harr,hv⟩
  ·have hmi:=Qbv hloc []
   have hil:=(Qb.1 hmi).1
   have hAi:As[i1]?=some As[i1]:=Qh (by omega)
   obtain⟨h2,h3⟩:=he i1 _ _ hmi hAi
   rw[<-h1,Qs,hi1]at h2
   injection h2 with h2;injection h2 with _ h2
   exact⟨_,_,h2,h3,fun x hx=>Qat hAi hx,.inl ⟨hloc,rfl,hAi⟩⟩
  ·have hg:mget [] m k=[]:=mget_none ((Qgo m k).1 hloc)
   rw[hg]
   exact⟨none,0,hv,Own.nil t e 0 w F,(fun x hx=>by cases hx),.inr ⟨hloc,hi0,harr,rfl⟩⟩
 obtain⟨A,c,hval,hO,hOb,hcase2⟩:=hrow
 rw[hval]at hrun
 have hO1:Own t e 0 (w.putObj b (.map arr1.toArray clock1)) F A c (mget [] m k):=Own.to hO hc1 (fun x hx _ _=>by rw[Qm];rintro rfl;exact hN.1 (hOb x hx)) fun x hx _=>⟨by rw[Qm];rintro rfl;exact hF x hx (Qg ..),hx⟩
 have hR1:Row t (w.putObj b (.map arr1.toArray clock1)) F G A2 c2 ys:=Row.to hr hc1 (fun x hx _=>⟨by rw[Qm];rintro rfl;exact hF x hx (Qg ..),hx⟩) fun x hx _=>⟨by rw[Qm];exact hG x hx,hx⟩
 obtain⟨A',c',w2,happ,hO2,hc2,hnew⟩:=run_appendR (P:=P) (ty:=ty) hst hi hz hsize hby hzs hO1 hR1 h63 hbp (fun x hx hxA=>hF x hx (Qf _ (hOb x hxA))) (Xl _)
 have hbA:b∉obl A:=fun hx=>hN.1 (hOb b hx)
 have hb1:(w.putObj b (.map arr1.toArray clock1)).heap[b]?=some (.map arr1.toArray clock1):=World.putObj_heap_same hblt
 have hb2:w2.heap[b]?=some (.map arr1.toArray clock1):=(hc2.block b (by simpa using hblt) hbA).trans hb1
 have hstore:=run_entryStore (P:=P) (tt:=tt) hb2 hi1 hnd1 (.slice A' ((mget [] m k).length+ys.length) c')
 have hsz1:(w.putObj b (.map arr1.toArray clock1)).heap.size=w.heap.size:=by simp
 have hsz2:w.heap.size<=w2.heap.size:=by rw[<-hsz1];exact hc2.size
 have hlt2: ∀x,x∈obl A'->x<w2.heap.size:=fun x hx=>(hO2.lt x hx).2
 have hnew': ∀x,x∈obl A'->x∈obl A\/x∉rbl As:=fun x hx=>by
  rcases hnew x hx with h2|h2
  ·exact .inl h2
  ·exact .inr fun h3=>by have:=hsz x h3;omega
 have hc3:=Ch.putObj w2 b (.map (arr1.modify i1 fun e=>{e with val:=.slice A' ((mget [] m k).length+ys.length) c'}).toArray clock1)
 have hall:Ch (b::rbl As) w (w2.putObj b (.map (arr1.modify i1 fun e=>{e with val:=.slice A' ((mget [] m k).length+ys.length) c'}).toArray clock1)):=
  ((hc1.mono (by simp)).then (U:=b::rbl As) (hc2.mono fun x hx=>.inl (hOb x hx)) (fun x hx=>.inl hx) (fun x hx=>.inl (Qf _ hx))).then (U:=b::rbl As) hc3 (fun x hx=>.inl hx) (fun x hx=>.inl (by rw[Qm]at hx;subst hx;exact Qg ..))
 refine⟨A,c,e1.born,_,A',c',w2,_,hrun,happ,hstore,hall,?_⟩
 obtain⟨v,hv⟩: ∃v,v=Value.slice A' ((mget [] m k).length+ys.length) c':=⟨_,rfl⟩
 rw[<-hv]at hc3 ⊢
 have hb3:(w2.putObj b (.map (arr1.modify i1 fun e=>{e with val:=v}).toArray clock1)).heap[b]?=some (.map (arr1.modify i1 fun e=>{e with val:=v}).toArray clock1):=World.putObj_heap_same (Qq hblt hsz2)
 have hborn: ∀x,x∈arr1.modify i1 (fun e=>{e with val:=v})->x.born<clock1:=fun x hx=>by
  obtain⟨j,hj⟩:=Wr.1 hx
  rw[Wa]at hj
  cases ha:arr1[j]? with
  |none=>rw[ha]at hj;simp at hj
  |some e0=>
   rw[ha]at hj
   have hb0:=hlt1 e0 (Qt ha)
   simp only[Xf,Q7,Qc]at hj
   subst hj
   split<;>exact hb0
 have hborns:(arr1.modify i1 fun e=>{e with val:=v}).map (·.born)=arr1.map (·.born):=by
  refine Wp fun j=>?_
  simp only[Qs,Wa]
  cases arr1[j]? with
  |none=>rfl
  |some e0=>simp only[Xf,Q7,Qc];split<;>rfl
 have hO3:Own t e 0 (w2.putObj b (.map (arr1.modify i1 fun e=>{e with val:=v}).toArray clock1)) F A' c' (mget [] m k++ys):=Own.to hO2 hc3 (fun x hx _ _=>by
   rw[Qm];rintro rfl
   rcases hnew x hx with h2|h2
   ·exact hbA h2
   ·omega) fun x hx _=>⟨by rw[Qm];rintro rfl;exact hF x hx (Qg ..),hx⟩
 have hOj: ∀(j:Nat) (p:κ×List t.den) (a:Option Addr×Nat),m[j]?=some p->As[j]?=some a->(∀x,x∈obl a.1->x∉obl A)->Own t e 0 (w2.putObj b (.map (arr1.modify i1 fun e=>{e with val:=v}).toArray clock1)) F a.1 a.2 p.2:=fun j p a hp ha hdis=>by
  have h2:=(he j p a hp ha).2
  have h3:Own t e 0 (w.putObj b (.map arr1.toArray clock1)) F a.1 a.2 p.2:=Own.to h2 hc1 (fun x hx _ _=>by rw[Qm];rintro rfl;exact hN.1 (Qat ha hx)) fun x hx _=>⟨by rw[Qm];rintro rfl;exact hF x hx (Qg ..),hx⟩
  have h4:Own t e 0 w2 F a.1 a.2 p.2:=Own.to h3 hc2 (fun x hx _ _=>hdis x hx) fun x hx _=>⟨fun hxA=>hF x hx (Qf _ (hOb x hxA)),hx⟩
  exact Own.to h4 hc3 (fun x hx _ _=>by rw[Qm];rintro rfl;exact hN.1 (Qat ha hx)) fun x hx _=>⟨by rw[Qm];rintro rfl;exact hF x hx (Qg ..),hx⟩
 have hsz3:(w2.putObj b (.map (arr1.modify i1 fun e=>{e with val:=v}).toArray clock1)).heap.size=w2.heap.size:=by simp
 have hbA':b∉obl A':=fun hx=>by
  rcases hnew b hx with h2|h2
  ·exact hbA h2
  ·omega
 have hnew2: ∀x,x∈obl A'->x∈rbl As\/(w.heap.size<=x/\x<(w2.putObj b (.map (arr1.modify i1 fun e=>{e with val:=v}).toArray clock1)).heap.size):=fun x hx=>by
  rcases hnew x hx with h2|h2
  ·exact .inl (hOb x h2)
  ·exact .inr ⟨by omega,by rw[hsz3];exact hlt2 x hx⟩
 rcases hcase2 with⟨hloc,rfl,hAi⟩|⟨hloc,hi0,harr,hA0⟩
 ·refine⟨As.set i1 (A',c'),⟨_,⟨_,_,hb3,rfl,hborn,by rw[hborns];exact hnd1⟩,?_,?_,?_,?_,?_⟩,?_⟩
  ·rw[Qag,hloc];simp[hlen]
  ·rw[Qag,hloc];simp[hA]
  ·rw[Wv]
   refine⟨fun hx=>?_,Qct hN.2 hAi (Qcv A') hnew'⟩
   rcases Qch hAi b hx with h2|h2
   ·exact hN.1 h2
   ·exact hbA' h2
  ·intro x hx
   rw[hsz3]
   rcases Qch hAi x hx with h2|h2
   ·exact Qq (hsz x h2) hsz2
   ·exact hlt2 x h2
  ·intro j p a hp ha
   rw[Qag,hloc]at hp
   simp only[Wa]at hp
   rw[List.getElem?_set]at ha
   have hil:=(Qb.1 hAi).1
   by_cases hij:i1=j
   ·subst hij
    rw[Qbv hloc []]at hp
    simp only[X6,hil]at ha
    injection ha with ha;subst ha
    simp only[X6,Xf,Q7,Qc]at hp
    subst hp
    refine⟨?_,hO3⟩
    rw[Qs,Wa,hi1]
    simp[hek,hv]
   ·simp only[hij,Wu]at ha hp
    simp only[Xf,id_map']at hp
    have hp':m[j]?=some p:=by cases hmj:m[j]?<;>rw[hmj]at hp<;>simp at hp ⊢;exact hp
    refine⟨?_,hOj j p a hp' ha (Qgu hN.2 ha hAi (Ne.symm hij))⟩
    have h2:=(he j p a hp' ha).1
    rw[<-h1,Qs]at h2
    rw[Qs,Wa]
    simp only[hij,Wu]
    cases harj:arr1[j]? with
    |none=>rw[harj]at h2;cases h2
    |some e0=>rw[harj]at h2;simpa using h2
  ·intro x hx
   rcases Qch hAi x hx with h2|h2
   ·exact .inl h2
   ·exact hnew2 x h2
 ·have hmod:(arr1.modify i1 fun e=>{e with val:=v})=arr++[{e1 with val:=v}]:=by
   rw[harr,hi0]
   refine Wp fun j=>?_
   rw[Wa]
   rcases Nat.lt_trichotomy j arr.length with h2|h2|h2
   ·rw[Q2 h2,Q2 h2];have hne:arr.length≠j:=by omega
    simp[hne]
   ·subst h2;simp
   ·rw[Q9 (by simp;omega),Q9 (by simp;omega)];rfl
  have hdis: ∀x,x∈obl A'->x∉rbl As:=fun x hx hx2=>by
   rcases hnew x hx with h2|h2
   ·rw[hA0]at h2;cases h2
   ·have:=hsz x hx2;omega
  have hrbl:rbl (As++[(A',c')])=rbl As++obl A':=by simp[rbl]
  refine⟨As++[(A',c')],⟨_,⟨_,_,hb3,rfl,hborn,by rw[hborns];exact hnd1⟩,?_,?_,?_,?_,?_⟩,?_⟩
  ·rw[Qag,hloc,hmod];simp[hlen]
  ·rw[Qag,hloc];simp[hA]
  ·rw[hrbl,Wv,Q0,Wz]
   exact⟨fun h2=>h2.elim hN.1 hbA',hN.2,Qcv A',fun x hx y hy e=>hdis y hy (e▸hx)⟩
  ·intro x hx
   rw[hsz3]
   rw[hrbl,Q0]at hx
   rcases hx with h2|h2
   ·exact Qq (hsz x h2) hsz2
   ·exact hlt2 x h2
  ·intro j p a hp ha
   rw[Qag,hloc]at hp
   rcases Nat.lt_trichotomy j m.length with h2|h2|h2
   ·rw[Q2 h2]at hp
    rw[Q2 (by omega)]at ha
    refine⟨?_,hOj j p a hp ha fun x hx hx2=>by rw[hA0]at hx2;cases hx2⟩
    have h3:=(he j p a hp ha).1
    rw[<-h1,Qs]at h3
    rw[hmod,Qs,Q2 (by omega)]
    exact h3
   ·subst h2
    rw[We (Qo _)]at hp
    rw[We (by omega)]at ha
    simp[hA]at hp ha
    subst hp;subst ha
    refine⟨?_,hO3⟩
    rw[hmod,Qs,We (by omega)]
    simp[hlen,hek,hv]
   ·rw[Q9 (by simp;omega)]at hp;cases hp
  ·intro x hx
   rw[hrbl,Q0]at hx
   rcases hx with h2|h2
   ·exact .inl h2
   ·exact hnew2 x h2
end
section
variable {r:Option Nat}{P:Program}{ops:Array Oper}{Q:Exit->Act->World->Prop}{rest:List Oper}{C:Cx}{l:List (Nat×Value)}{H:List (Nat×Res)}
theorem lk_hd (d:Nat)(v:Value)(l:List (Nat×Value)):lk ((d,v)::l) d=some v:=by simp[lk]
theorem AL.mkmr {d:Nat}{T tt:TypeId}{pos:String}{af:Array Edge}(k:Nat)(κ:Type)(enc:κ->Value)(t:Ty)(e:TypeId)(h: ∀b,AL r P ops Q rest C ((d,.map (some b))::l) ((k,.mr κ enc t e b [] [])::H))(hd:Nat.ble (d+1) C.n=true:=by rfl)(hn:hk H k=none:=by kernel_rfl):
  AL r P ops Q (⟨some d,.makeMap tt none,T,pos,af,none⟩::rest) C l H:=fun a w hf hh=>by
 refine Z.valw (w':=w.alloc (.map #[] 0)) (v:=.map (some w.heap.size)) hf hd (by simp[execOp,Instr.makeMap]) fun a' hf'=>h _ a' _ hf' (hh.new hn (Ch.alloc w _) (fun x hx=>?_) (fun j hj=>by cases hj) fun F B _ _ _=>?_)
 ·simp[Res.bl,rbl]at hx;subst hx;simp
 ·exact⟨[],⟨[],0,heap_alloc_new w _,rfl,by simp,by simp⟩,rfl,rfl,by simp[rbl],by simp[rbl],fun i p a hp=>by simp at hp⟩
theorem frzM {X:Act->World->Prop}(k:Nat)(js:List Nat){κ:Type}{enc:κ->Value}{t:Ty}{e:TypeId}{b:Nat}{As:List (Option Addr×Nat)}{m:List (κ×List t.den)}(h: ∀a w,Fr a C.n C.ds l->Hp C ((k,.mp κ enc (.slice t) false b m)::ded js H) w->X a w)(hk1:hk H k=some (.mr κ enc t e b As m):=by rfl)(hj:hng [k] js H=true:=by kernel_rfl): ∀a w,Fr a C.n C.ds l->Hp C H w->X a w:=fun a w hf hh=>by
 refine h a w hf (Hp.dd (hh.upd (S:=[]) (Ch.refl w) (by simp) (fun x hx=>.inl ⟨_,hk1,by simp[Res.bl]at hx ⊢;exact .inl hx⟩) (fun j hj=>by cases hj) fun F B h1 h2 _ _ _=>?_) hj)
 obtain⟨es,c1,c2,c3,c4,c5,c6⟩:Mr enc t e w (Fh C H) b As m:=hh.hold k _ hk1
 refine⟨es,c1,c2,fun i p hp=>?_⟩
 have hi:=(Qb.1 hp).1
 have ha:As[i]?=some As[i]:=Qh (by omega)
 obtain⟨c7,cells,hr,o1,o2⟩:=c6 i p _ hp ha
 refine⟨[.slice As[i].1 p.2.length As[i].2],c7,?_⟩
 have hO':Own t e 0 w F As[i].1 As[i].2 p.2:=⟨cells,hr,o1,fun i x hi=>Qhe (o2 i x hi) fun b hb hl=>h1 b hb hl⟩
 refine hO'.rep (fun _ h=>h) fun x hx=>h2 x ⟨_,hk1,by simp only[Res.bl];exact Qf _ (Qat ha hx)⟩ fun hxb=>?_
 simp only[Res.bl,Qm]at hxb
 subst hxb
 exact(Wv.1 c4).1 (Qat ha hx)
theorem AL.mapp {κ:Type}[DecidableEq κ]{enc:κ->Value}{kt et tt st e:TypeId}{t:Ty}{b d1 d2 d3 d4 n2:Nat}{As:List (Option Addr×Nat)}{m:List (κ×List t.den)}{mx kx y:Operand}{i:TypeInfo}{z:Value}{bytes sz:Nat}{A2:Option Addr}{c2:Nat}{ys:List t.den}
  {T1 T2 T3 T4 T5:TypeId} {p1 p2 p3 p4 p5:String} {f1 f2 f3 f4 f5:Array Edge} (k ky:Nat) (js:List Nat) (K:Ky P kt enc) (key:κ) (hz0: ∀w,(zeroValue et).run P w=.ok (.slice none 0 0) w)
  (hinf:P.info? e=some i/\i.zero=some z/\i.size=sz/\i.bytes=bytes/\z.cells.size=sz) (h63:((mget [] m key).length+ys.length)*bytes<=140737488355328)
  (h: ∀As' v1 v2 v3 v4,AL r P ops Q rest C ((d4,v4)::(d3,v3)::(d2,v2)::(d1,v1)::l) ((k,.mr κ enc t e b As' (mins m key (mget [] m key++ys)))::ded js H))
  (hk1:hk H k=some (.mr κ enc t e b As m):=by rfl) (hk2:hk H ky=some (.own t e A2 c2 ys):=by rfl) (hne:Nat.beq k ky=false:=by rfl) (hx:ev l mx=some (.map (some b)):=by rfl) (hy:ev l kx=some (enc key):=by rfl) (hyy:ev l y=some (.slice A2 n2 c2):=by rfl) (hn2:n2=ys.length:=by rfl) (hsz:sz=t.size:=by rfl) (hbp:Nat.ble 1 bytes=true:=by rfl)
  (ht:P.underlying tt=some (.map kt et):=by rfl) (hst:P.underlying st=some (.slice e):=by rfl) (hd1:Nat.ble (d1+1) C.n=true:=by rfl) (hd2:Nat.ble (d2+1) C.n=true:=by rfl) (hd3:Nat.ble (d3+1) C.n=true:=by rfl) (hd4:Nat.ble (d4+1) C.n=true:=by rfl)
  (hl: ∀v1 v2 v3 v4,ev ((d2,v2)::(d1,v1)::l) y=ev l y/\ev ((d4,v4)::(d3,v3)::(d2,v2)::(d1,v1)::l) mx=ev l mx/\lk ((d3,v3)::(d2,v2)::(d1,v1)::l) d1=some v1/\lk ((d4,v4)::(d3,v3)::(d2,v2)::(d1,v1)::l) d3=some v3:=by exact fun _ _ _ _=>⟨rfl,rfl,rfl,rfl⟩) (hj:hng [k] js H=true:=by kernel_rfl):
  AL r P ops Q (⟨some d1,.mapEntry tt mx kx,T1,p1,f1,none⟩::⟨some d2,.extract (.tmp d1) 0,T2,p2,f2,none⟩::⟨some d3,.call {callee:=.builtin .append,args:=#[.tmp d2,y],argTypes:=#[st,st]},T3,p3,f3,none⟩::⟨some d4,.extract (.tmp d1) 1,T4,p4,f4,none⟩::⟨none,.entryStore tt mx (.tmp d4) (.tmp d3),T5,p5,f5,none⟩::rest) C l H:=fun a w hf hh=>by
 subst hn2;subst hsz
 obtain⟨hi,hz,hsize,hby,hzs⟩:=hinf
 have hne:k≠ky:=fun e=>by rw[e,Y3]at hne;cases hne
 have hM:Mr enc t e w (Fh C H) b As m:=hh.hold k _ hk1
 have hM2:Mr enc t e w (fun x=>Fh C H x/\x<w.heap.size) b As m:=by
  obtain⟨es,c1,c2,c3,c4,c5,c6⟩:=hM
  refine⟨es,c1,c2,c3,c4,c5,fun i p a hp ha=>?_⟩
  obtain⟨c7,cells,hr,o1,o2⟩:=c6 i p a hp ha
  exact⟨c7,cells,hr,o1,fun i x hi=>Qac t (o2 i x hi)⟩
 obtain⟨G,hR,hG⟩:=rowO hk2 w hh
 have hR2:Row t w (fun x=>Fh C H x/\x<w.heap.size) G A2 c2 ys:=by
  obtain⟨r1,r2,cs,r3,r4,r5⟩:=hR
  exact⟨r1,r2,cs,r3,r4,fun i x hi=>Qac t (r5 i x hi)⟩
 have hbk: ∀x,x∈b::rbl As->Bk H k x:=fun x hx=>⟨_,hk1,hx⟩
 obtain⟨A,c,n,w1,A',c',w2,w3,e1,e2,e3,hch,As',hM3,hnew⟩:=hM2.app (ty:=T3) K ht hz0 hst hi hz hsize hby hzs (Qi hbp) (fun x hx hxb=>hx.1.1 k (hbk x hxb)) (fun x hx=>hx.2) hR2 (fun x hgx hxb=>hne (hh.dis k ky b (hbk b (Qg ..)) (hxb▸hG x hgx))) key h63
 refine Z.valw (w':=w1) (v:=.tuple #[.slice A (mget [] m key).length c,goInt n]) hf hd1 ?_ fun a1 hf1=>?_
 ·simp only[execOp,Sem.run_bind,hf.eval hx,hf.eval hy,e1,Result.andThen_ok,Sem.run_pure]
 refine Z.val (v:=.slice A (mget [] m key).length c) hf1 hd2 (Z.r_extract (hf1.eval (x:=.tmp d1) (lk_hd _ _ _)) rfl) fun a2 hf2=>?_
 obtain⟨q1,_,_,_⟩:=hl (.tuple #[.slice A (mget [] m key).length c,goInt n]) (.slice A (mget [] m key).length c) undef undef
 refine Z.valw (w':=w2) (v:=.slice A' ((mget [] m key).length+ys.length) c') hf2 hd3 ?_ fun a3 hf3=>?_
 ·simp only[execOp,resolve,invoke,builtin,Sem.run_bind,Sem.run_pure,Result.andThen_ok,Xi,Qz,Jh,hf2.eval (x:=.tmp d2) (v:=.slice A (mget [] m key).length c) (lk_hd _ _ _),hf2.eval (q1.trans hyy),e2]
 obtain⟨_,_,q3,_⟩:=hl (.tuple #[.slice A (mget [] m key).length c,goInt n]) (.slice A (mget [] m key).length c) (.slice A' ((mget [] m key).length+ys.length) c') undef
 refine Z.val (v:=goInt n) hf3 hd4 (Z.r_extract (hf3.eval (x:=.tmp d1) q3) rfl) fun a4 hf4=>?_
 obtain⟨_,q2,_,q4⟩:=hl (.tuple #[.slice A (mget [] m key).length c,goInt n]) (.slice A (mget [] m key).length c) (.slice A' ((mget [] m key).length+ys.length) c') (goInt n)
 refine Z.skipw (w':=w3) hf4 ?_ fun a5 hf5=>h As' _ _ _ _ a5 w3 hf5 (Hp.dd (hh.upd hch hbk (fun x hx=>?_) (fun j hj=>by cases hj) fun F B hF _ _ _ _=>hM3.asF fun x hx _=>hF x hx.1 hx.2) hj)
 ·simp only[execOp,Sem.run_bind,hf4.eval (q2.trans hx),hf4.eval (x:=.tmp d4) (v:=goInt n) (lk_hd _ _ _),hf4.eval (x:=.tmp d3) q4,e3,Result.andThen_ok,Sem.run_pure]
 ·simp only[Res.bl]at hx
  rcases Qk.1 hx with rfl|hx
  ·exact .inl (hbk _ (Qg ..))
  ·rcases hnew x hx with h2|h2
   ·exact .inl (hbk _ (Qf _ h2))
   ·exact .inr h2
end
end Go.A
end
section
namespace Go.A
open Go.RowKit Go.Z Go.Shelf Go.Proofs Go.Lib
def tabF:List Value:=(List.range 256).map fun c=>.int .u8 (firstT c)
def tabA:List Value:=(List.range 32).map fun j=>.int .u8 (if j%2=0 then accLo (j / 2)else accHi (j / 2))
theorem tabs_of {w:World}{g3 g4:Nat}(h1:Cells w ⟨g3,0,none⟩ tabF)(h2:Cells w ⟨g4,0,none⟩ tabA):Lib.Utf8Tabs g3 g4 w:=by
 refine⟨fun c hc=>?_,fun i hi=>⟨?_,?_⟩⟩
 ·have:=h1 c (.int .u8 (firstT c)) (by simp[tabF,hc])
  rw[Addr.add_lit,Wm]at this;exact this
 ·have:=h2 (2*i) (.int .u8 (accLo i)) (by
   have:2*i<32:=by omega
   simp[tabA,this])
  rw[Addr.add_lit,Wm]at this;exact this
 ·have:=h2 (2*i+1) (.int .u8 (accHi i)) (by
   have h3:2*i+1<32:=by omega
   have h4:(2*i+1)%2=1:=by omega
   have h5:(2*i+1) / 2=i:=by omega
   simp[tabA,h3,h4,h5])
  rw[Addr.add_lit,Wm]at this;exact this
theorem Ct.valid {P:Program}{ρ:Ren}{f g3 g4:Nat}(L:Lays.n196 P ρ)(hf:ρ.f 196=f)(h3:ρ.g 3=g3)(h4:ρ.g 4=g4)(s:ByteArray)(hs:s.size<=maxLen)(r:Bool)(hr:some (Lib.validD s.data.toList)=some r):
  Ct P f [.string s] [(0,.el none g3 0 tabF),(1,.el none g4 0 tabA)] [] (fun v H'=>v=.bool r/\H'=[]):=fun w F hh=>by
 subst hf;subst h3;subst h4
 have hr:=Ws hr
 subst hr
 have h1:Cells w ⟨ρ.g 3,0,none⟩ tabF:=(hh.hold 0 (.el none (ρ.g 3) 0 tabF) rfl).1
 have h2:Cells w ⟨ρ.g 4,0,none⟩ tabA:=(hh.hold 1 (.el none (ρ.g 4) 0 tabA) rfl).1
 refine(Any.utf8_ValidString L s w (by simp only[maxLen]at hs;omega) (tabs_of h1 h2)).mono ?_
 rintro e w' ⟨rfl,hb⟩
 exact⟨_,[],rfl,⟨rfl,rfl⟩,(Ch.of_below hb),fun k r h=>(by cases h),fun k b ⟨_,h,_⟩=>(by cases h),fun k k' b ⟨_,h,_⟩=>(by cases h),fun k r j h=>(by cases h)⟩
end Go.A
end
section
namespace Go.A
open Go.RowKit
abbrev i (x:Int):Value:=.int .i64 x
abbrev h6:=IntKind.i64.has
abbrev ti:=Z.Ty.int .i64
abbrev TI:=Z.Ty.slice ti
theorem si{α:Type}{a b:α}(h:some a=some b):a=b:=Ws h
end Go.A
end
section
namespace Go.Proofs.YtlbdgahbamalcaaGreatDoor
open Go.RowKit Go.Shelf Go.Lib
def Tryz.laysValid_ren:Go.Shelf.Ren:=⟨fun|196=>60|259=>89|n=>n,fun|9=>9|4=>4|3=>3|5=>5|12=>12|119=>162|0=>0|46=>120|139=>165|138=>164|53=>151|n=>n,fun|3=>0|4=>1|n=>n⟩
theorem Tryz.laysValid:Go.Proofs.Lays.n196 Tryz.prog Tryz.laysValid_ren where
 mixed:=by kernel_rfl
 f196:=Tryz.func60.trans (Qv some (by kernel_rfl))
 f259:=Tryz.func89.trans (Qv some (by kernel_rfl))
 t0:=Tryz.underlying0
 a0:=Tryz.isAgg0
 z0:=Tryz.sizeOf0
 v0:=Tryz.zeroValue0
 t3:=Tryz.underlying3
 a3:=Tryz.isAgg3
 z3:=Tryz.sizeOf3
 v3:=Tryz.zeroValue3
 t4:=Tryz.underlying4
 a4:=Tryz.isAgg4
 z4:=Tryz.sizeOf4
 v4:=Tryz.zeroValue4
 t5:=Tryz.underlying5
 a5:=Tryz.isAgg5
 z5:=Tryz.sizeOf5
 v5:=Tryz.zeroValue5
 t9:=Tryz.underlying9
 a9:=Tryz.isAgg9
 z9:=Tryz.sizeOf9
 v9:=Tryz.zeroValue9
 t12:=Tryz.underlying12
 a12:=Tryz.isAgg12
 z12:=Tryz.sizeOf12
 v12:=Tryz.zeroValue12
 t46:=Tryz.underlying120
 a46:=Tryz.isAgg120
 z46:=Tryz.sizeOf120
 v46:=Tryz.zeroValue120
 t53:=Tryz.underlying151
 a53:=Tryz.isAgg151
 z53:=Tryz.sizeOf151
 v53:=Tryz.zeroValue151
 t119:=Tryz.underlying162
 a119:=Tryz.isAgg162
 z119:=Tryz.sizeOf162
 t138:=Tryz.underlying164
 a138:=Tryz.isAgg164
 z138:=Tryz.sizeOf164
 v138:=Tryz.zeroValue164
 t139:=Tryz.underlying165
 a139:=Tryz.isAgg165
 z139:=Tryz.sizeOf165
 v139:=Tryz.zeroValue165
 g3:=by kernel_rfl
 g4:=by kernel_rfl
def F.a7 (h:ByteArray):Option Bool:=some (Lib.validD h.data.toList)
theorem o_q (h:ByteArray)(h1:h.size<=maxLen)(r:Bool)(k:F.a7 h=some r):
  A.Ct Tryz.prog 60 [.string h] [(0,.el none 0 0 A.tabF),(1,.el none 1 0 A.tabA)] [] (fun v H'=>v=.bool r/\H'=[]):=
 A.Ct.valid Tryz.laysValid rfl rfl rfl h h1 r k
end Go.Proofs.YtlbdgahbamalcaaGreatDoor
end
section
namespace Go.A
open Go.RowKit Go.Z
def mb:Nat->Nat->List Bool
 |0,_=>[]
 |n+1,m=>Nat.beq (m%2) 1::mb n (m / 2)
def nxs:Nat->Option Code->List Kx->Option (Option Code×List Kx)
 |0,c,K=>some (c,K)
 |n+1,some (.seq x y),K=>nxs n (some x) (.c y::K)
 |n+1,some (.block id c),K=>nxs n (some c) (.b id::K)
 |n+1,some .skip,K=>nxs n none K
 |n+1,some (.label _),K=>nxs n none K
 |n+1,some (.exit id),K=>match popx id K with
  |some K'=>nxs n none K'
  |none=>none
 |n+1,none,.c y::K=>nxs n (some y) K
 |n+1,none,.b _::K=>nxs n none K
 |n+1,none,.s::K=>nxs n none K
 |_+1,_,_=>none
section
variable {r:Option Nat}{P:Program}{Y:Exit->Act->World->Prop}{C:Cx}{l:List (Nat×Value)}{H:List (Nat×Res)}{K K':List Kx}{c c':Code}
def GX (r:Option Nat)(P:Program)(Y:Exit->Act->World->Prop)(C:Cx)(l:List (Nat×Value))(H:List (Nat×Res)):Option Code->List Kx->Prop
 |some c,K=>AX r P Y K c C l H
 |none,K=>AE r P Y K .normal C l H
theorem o_bd: ∀{n:Nat} {c c':Option Code} {K K':List Kx},nxs n c K=some (c',K')->GX r P Y C l H c' K'->GX r P Y C l H c K:=by
 intro n;induction n with
 |zero=>intro c c' K K' e h;injection e with e;injection e with e1 e2;subst e1;subst e2;exact h
 |succ n ih=>
  intro c c' K K' e h
  unfold nxs at e
  split at e
  ·injection e with e;injection e with e1 e2;subst e1;subst e2;exact h
  ·rename_i e0;cases e0;exact AX.seq (ih e h)
  ·rename_i e0;cases e0;exact AX.block (ih e h)
  ·rename_i e0;cases e0;exact AX.skip (ih e h)
  ·rename_i e0;cases e0;exact AX.label (ih e h)
  ·rename_i e0
   cases e0
   split at e
   ·rename_i hp;exact AX.exit hp (ih e h)
   ·cases e
  ·rename_i e0;cases e0;exact AE.c (ih e h)
  ·rename_i e0;cases e0;exact AE.b (ih e h)
  ·rename_i e0;cases e0;exact AE.s (ih e h)
  ·cases e
theorem xx (n:Nat)(h:AX r P Y K' c' C l H)(e:nxs n (some c) K=some (some c',K'):=by rfl):AX r P Y K c C l H:=o_bd (c:=some c) (c':=some c') e h
theorem xe (n:Nat)(h:AE r P Y K' .normal C l H)(e:nxs n (some c) K=some (none,K'):=by rfl):AX r P Y K c C l H:=o_bd (c:=some c) (c':=none) e h
theorem ex (n:Nat)(h:AX r P Y K' c' C l H)(e:nxs n none K=some (some c',K'):=by rfl):AE r P Y K .normal C l H:=o_bd (c:=none) (c':=some c') e h
theorem ee (n:Nat)(h:AE r P Y K' .normal C l H)(e:nxs n none K=some (none,K'):=by rfl):AE r P Y K .normal C l H:=o_bd (c:=none) (c':=none) e h
theorem xl (n:Nat){id:Nat}{lo:List Oper}(h:AL r P lo.toArray (kont r P Y K') lo C l H)(e:nxs n (some c) K=some (some (.region id lo.toArray false),K'):=by rfl):AX r P Y K c C l H:=xx n (AX.reg h) e
theorem el (n:Nat){id:Nat}{lo:List Oper}(h:AL r P lo.toArray (kont r P Y K') lo C l H)(e:nxs n none K=some (some (.region id lo.toArray false),K'):=by rfl):AE r P Y K .normal C l H:=ex n (AX.reg h) e
theorem dl (n:Nat){ops:Array Oper}{id:Nat}{lo:List Oper}(h:AL r P lo.toArray (kont r P Y K') lo C l H)(e:nxs n none K=some (some (.region id lo.toArray false),K'):=by rfl):AL r P ops (kont r P Y K) [] C l H:=AL.done (el n h e)
theorem dx (n:Nat){ops:Array Oper}(h:AX r P Y K' c' C l H)(e:nxs n none K=some (some c',K'):=by rfl):AL r P ops (kont r P Y K) [] C l H:=AL.done (ex n h e)
theorem de (n:Nat){ops:Array Oper}(h:AE r P Y K' .normal C l H)(e:nxs n none K=some (none,K'):=by rfl):AL r P ops (kont r P Y K) [] C l H:=AL.done (ee n h e)
end
section
variable {r:Option Nat}{P:Program}{ops:Array Oper}{Q:Exit->Act->World->Prop}{lst rest:List Oper}{C:Cx}{l:List (Nat×Value)}{H:List (Nat×Res)}{T:TypeId}{pos:String}{af:Array Edge}
theorem q0 (bs es:List Nat)(hs:List Hint)(nl:List (Nat×Value))(h:AL r P ops Q (lst.drop hs.length) C (cat nl l) H)
  (hq:((qs P ⟨knb H bs,kne H es⟩ C.n ops hs lst (Z.q0 l)).bind (qfin l (nl.map Prod.fst)))=some ([],nl):=by kernel_rfl)
  (he:(qs P ⟨knb H bs,kne H es⟩ C.n ops hs lst (Z.q0 l)).map (fun s=>s.q.map Prod.fst)=(qs P ⟨knb H bs,kne H es⟩ C.n ops hs lst (Z.q0 l)).map (fun s=>s.q.map Prod.snd):=by kernel_rfl):AL r P ops Q lst C l H:=
 AL.q bs es hs (nl.map Prod.fst) [] nl trivial h hq he
theorem q (bs es:List Nat)(hs:List Hint)(cs:List Prop)(nl:List (Nat×Value))(hc:conj cs)(h:AL r P ops Q (lst.drop hs.length) C (cat nl l) H)
  (hq:((qs P ⟨knb H bs,kne H es⟩ C.n ops hs lst (Z.q0 l)).bind (qfin l (nl.map Prod.fst)))=some (cs,nl):=by kernel_rfl)
  (he:(qs P ⟨knb H bs,kne H es⟩ C.n ops hs lst (Z.q0 l)).map (fun s=>s.q.map Prod.fst)=(qs P ⟨knb H bs,kne H es⟩ C.n ops hs lst (Z.q0 l)).map (fun s=>s.q.map Prod.snd):=by kernel_rfl):AL r P ops Q lst C l H:=
 AL.q bs es hs (nl.map Prod.fst) cs nl hc h hq he
theorem sw (k:Nat)(js:List Nat)(new:List Value){t bt:TypeId}{x y:Operand}{g o m:Nat}{cs:List Value}{v:Value}(h:AL r P ops Q rest C l ((k,.blk g bt new)::ded js H))
  (hb:hk H k=some (.blk g bt cs):=by rfl) (hx:ev l x=some (.pointer (some ⟨g,o,none⟩)):=by rfl) (hy:ev l y=some v:=by rfl) (hS:szB P t=some m:=by kernel_rfl)
  (hv:v.cells=new.toArray:=by rfl) (hm:new.length=m:=by rfl) (ho:Nat.ble (o+m) cs.length=true:=by rfl) (h1:new.all (fun u=>u.oneCell')=true:=by rfl) (hc:cs.take o++new++cs.drop (o+m)=new:=by rfl) (hj:hng [k] js H=true:=by kernel_rfl):
  AL r P ops Q (⟨none,.store t x y,T,pos,af,none⟩::rest) C l H:=AL.store k js h hb hx hy hS hv hm ho h1 hc hj
end
section
variable {r:Option Nat}{P:Program}{Y:Exit->Act->World->Prop}{K:List Kx}{C:Cx}{l:List (Nat×Value)}{H:List (Nat×Res)}
theorem j {l':List (Nat×Value)}{H':List (Nat×Res)}{ks hs:List Nat}{J:List (Nat×Value)->List (Nat×Res)->Prop}{nl:List (Nat×Value)}{nh:List (Nat×Res)}(hJ:J nl nh)(h1:kp l ((cat nl (kp l' ks)).map (·.1))=cat nl (kp l' ks):=by kernel_rfl)(h2:kpH H (nh.map (·.1)++hs) (nh.map (·.1)++hs)=hcat nh (kpH H' hs hs):=by kernel_rfl):
  AE r P Y (.m (St C l' H' ks hs J)::K) .normal C l H:=AE.j (nh.map (·.1)++hs) nl nh hJ h1 h2
theorem lp_ (ks hs:List Nat)(J:Nat->List (Nat×Value)->List (Nat×Res)->Prop){nl:List (Nat×Value)}{nh:List (Nat×Res)}{x:Code}(hJ:J FU nl nh)
  (h: ∀f nl nh,J f nl nh->AX r P Y (.m (St C l H ks hs fun nl nh=>∃f',f'<f/\J f' nl nh)::K) x C (cat nl (kp l ks)) (hcat nh (kpH H hs hs)))
  (h1:kp l ((cat nl (kp l ks)).map (·.1))=cat nl (kp l ks):=by kernel_rfl) (h2:kpH H (nh.map (·.1)++hs) (nh.map (·.1)++hs)=hcat nh (kpH H hs hs):=by kernel_rfl):AX r P Y K (.loop x) C l H:=
 AX.loop ks hs (nh.map (·.1)++hs) J FU nl nh hJ h h1 h2
end
section
variable {r:Option Nat}{P:Program}{ops:Array Oper}{Q:Exit->Act->World->Prop}{Hq:List (Nat×Res)}{m g:Nat}{li:List Bool}{C:Cx}{l:List (Nat×Value)}{H:List (Nat×Res)}
theorem hq (hQ:Pq Q)(gs qs bs es:List Nat)(li':List Bool)(f:Nat)(is:List (Nat×Hint))(nl:List (Nat×Value))(h:AH r P ops Q (kpH H qs qs) m f li' C (cat nl l) H)
  (hg:g=f+is.length:=by rfl) (hb:is.all (fun p=>bon ops m p.1)=true:=by kernel_rfl) (hcl:cloB ops li.toArray=true:=by kernel_rfl) (hn:(Region.noSelect ops&&Qbx ops)=true:=by kernel_rfl)
  (hq:((dqs P ⟨knb (kpH H qs qs) bs,kne (kpH H qs qs) es⟩ C.n ops is li.toArray (Z.q0 l)).bind fun x=>(qfin l (nl.map Prod.fst) x.2).map fun y=>(x.1.toList,y))=some (li',[],nl):=by kernel_rfl)
  (he:(dqs P ⟨knb (kpH H qs qs) bs,kne (kpH H qs qs) es⟩ C.n ops is li.toArray (Z.q0 l)).map (fun s=>s.2.q.map Prod.fst)=(dqs P ⟨knb (kpH H qs qs) bs,kne (kpH H qs qs) es⟩ C.n ops is li.toArray (Z.q0 l)).map (fun s=>s.2.q.map Prod.snd):=by kernel_rfl)
  (e:kpH (kpH H qs qs) gs gs=Hq:=by kernel_rfl):AH r P ops Q Hq m g li C l H:=AH.q hQ gs qs bs es li' f is (nl.map Prod.fst) [] nl trivial h hg hb hcl hn hq he e
end
section
variable {r:Option Nat}{P:Program}{l:List (Nat×Value)}{H:List (Nat×Res)}{fn:Func}{K:List Kx}{w0:World}{S:List Nat}{F:Nat->Prop}{n:Nat}{R:Value->List (Nat×Res)->Prop}
theorem rt1 (ps:List (Nat×Nat)){t:Nat}{v:Value}(hR:R v (A.ren H ps))(hf:fn.results=#[.tmp t]:=by rfl)(hv:lk l t=some v:=by rfl)(h1:nod (ps.map (·.1))=true:=by rfl)(h2:nod (ps.map (·.2))=true:=by rfl):
  AX r P (bodyPost P fn fun e w'=>∃v H',e=.returned v/\R v H'/\Hp ⟨0,[],w0,S,F⟩ H' w') K .ret ⟨n,[],w0,S,F⟩ l H:=AX.ret ps v (fun a w h hh=>Z.resv1 hf (Z.rv_t h hv)) hR h1 h2
theorem rt2 (ps:List (Nat×Nat)){t u:Nat}{v v2:Value}(hR:R (.tuple #[v,v2]) (A.ren H ps))(hf:fn.results=#[.tmp t,.tmp u]:=by rfl)(hv:lk l t=some v:=by rfl)(hu:lk l u=some v2:=by rfl)(h1:nod (ps.map (·.1))=true:=by rfl)(h2:nod (ps.map (·.2))=true:=by rfl):
  AX r P (bodyPost P fn fun e w'=>∃v H',e=.returned v/\R v H'/\Hp ⟨0,[],w0,S,F⟩ H' w') K .ret ⟨n,[],w0,S,F⟩ l H:=AX.ret ps (.tuple #[v,v2]) (fun a w h hh=>Z.resv2 hf (Z.rv_t h hv) (Z.rv_t h hu)) hR h1 h2
end
theorem pb {r:Option Nat}{P:Program}{fn:Func}{R:Ending->World->Prop}{K:List Kx}:Pq (kont r P (bodyPost P fn R) K):=pk_kont (Z.Pq.body _ _ _)
section
variable {P:Program}{C:Cx}{l:List (Nat×Value)}{H:List (Nat×Res)}
end
end Go.A
end
section
namespace Go.Z
open Go.RowKit
section
variable {κ:Type}[DecidableEq κ]{α:Type}
end
section
variable {r:Option Nat}{P:Program}{ops:Array Oper}{Q:Exit->Act->World->Prop}{a:Act}{w:World}{rest:List Oper}{n:Nat}{ds:List Deferred}{l:List (Nat×Value)}{d:Nat}{T:TypeId}{pos:String}{af:Array Edge}
variable {κ:Type}[DecidableEq κ]{enc:κ->Value}{kt et tt kt2:TypeId}{t:Ty}{agg:Bool}{F:Nat->Prop}{b:Nat}{m:List (κ×t.den)}
theorem valw0 {op:Op}{v:Value}{w':World}(hf:Fr a n ds l)(hr:(execOp a.eval ⟨none,op,T,pos,af,none⟩).run P w=.ok (.value v) w')
  (h: ∀a',Fr a' n ds l->WL r P ops Q rest a' w'):WL r P ops Q (⟨none,op,T,pos,af,none⟩::rest) a w:=
 stepw rfl hr (fun _ h=>by cases h) fun _ hK=>hK _ _ (h _ (hf.put_none v))
theorem zc_get (zs:List Value)(n q:Nat)(h:q<n*zs.length)(h0:0<zs.length):(Builtin.zeroCells zs.toArray n).toList[q]?=zs[q%zs.length]?:=by
 have hm:=Ja q h0
 simp[Builtin.zeroCells,h,hm]
theorem run_clearOwn {t:Ty}{e tt ty:TypeId}{B:Nat}{F:Nat->Prop}{A:Option Addr}{c:Nat}{xs:List t.den}(h:Own t e B w F A c xs)(ht:P.underlying tt=some (.slice e)){z:Value}{zs:List Value}(hz: ∀w,(zeroValue e).run P w=.ok z w)
  (hzc:z.cells=zs.toArray) (hzl:zs.length=t.size) (h1z: ∀u∈zs,u.oneCell'=true) {z0:t.den} (hz0:t.rep w no zs z0) {u:Nat} (hu:u<=xs.length) (hF: ∀b,F b->b∉obl A):
  ∃w',(Builtin.clear_ #[tt] ty #[.slice (cutA A c u t.size) (xs.length-u) (c-u)]).run P w=.ok (.tuple #[]) w'/\Ch (obl A) w w'/\w'.heap.size=w.heap.size/\Own t e B w' F A c (xs.take u++List.replicate (xs.length-u) z0):=by
 rcases Nat.eq_or_lt_of_le hu with he|hlt
 ·subst he
  refine⟨w,?_,Ch.refl w |>.mono (by simp),rfl,by simpa using h⟩
  rw[Nat.sub_self]
  cases cutA A c xs.length t.size<;>simp[Builtin.clear_,run_underlying ht]
 obtain⟨cells,⟨hl,hrow⟩,h1c,h2⟩:=h
 rcases hrow with⟨hv0,hn⟩|⟨g,cap,cur,hv0,hb,hg,hnc,hcm,hcs,htake⟩
 ·omega
 injection hv0 with hA' _ hc'
 subst hA';subst hc'
 have hpos:=Qan t
 have hl:cells.length=xs.length*t.size:=hl
 have hcur:xs.length*t.size<=cur.size:=by rw[hcs];exact Q5 _ hnc
 have hcell: ∀q,q<xs.length*t.size->cur.toList[q]?=cells[q]?:=fun q hq=>by rw[<-htake,Q6 hq]
 have hBlk:Blk w g e cur.toList:=by unfold Blk;simpa using hg
 obtain⟨zc,hzcd⟩: ∃zc,zc=(Builtin.zeroCells zs.toArray (xs.length-u)).toList:=⟨_,rfl⟩
 have hzcl:zc.length=(xs.length-u)*t.size:=by rw[hzcd];simp[Builtin.zeroCells,hzl]
 have hsum:u*t.size+zc.length=xs.length*t.size:=by rw[hzcl,<-W6];congr 1;omega
 have hzq: ∀q,q<zc.length->zc[q]?=zs[q%t.size]?:=fun q hq=>by rw[hzcd,zc_get zs _ q (by rw[hzl,<-hzcl];exact hq) (by omega),hzl]
 have h1zc: ∀v∈zc,v.oneCell'=true:=fun v hv=>by
  obtain⟨q,hq⟩:=Wr.1 hv
  have:=hzq q (Qb.1 hq).1
  rw[this]at hq;exact h1z v (Qt hq)
 have hst:=run_storeCells_at P g (u*t.size) e zc 0 cur w hg (by omega) h1zc
 rw[Yo]at hst
 obtain⟨cs',hcs'⟩: ∃cs',cs'=cur.toList.take (u*t.size)++zc++cur.toList.drop (u*t.size+zc.length):=⟨_,rfl⟩
 rw[<-hcs']at hst
 have hlen':cs'.length=cur.size:=by rw[hcs'];simp;omega
 have hlt2:(xs.take u++List.replicate (xs.length-u) z0).length=xs.length:=by simp;omega
 have hget: ∀q,q<xs.length*t.size->(cs'.take (xs.length*t.size))[q]?=if q<u*t.size then cells[q]? else zc[q-u*t.size]?:=fun q hq=>by
  rw[Q6 hq,hcs',Qdu (by simp;omega),hcell q hq]
  split
  ·rfl
  ·rw[Qj (by omega)]
 have hch:Ch (obl (some (⟨g,0,none⟩:Addr))) w (w.setRow g cs'.toArray):=Ch.setRow w g _
 refine⟨w.setRow g cs'.toArray,?_,hch,by simp[World.setRow],cs'.take (xs.length*t.size),⟨by rw[hlt2,Qw,hlen',Xy hcur],.inr ⟨g,c,cs'.toArray,by rw[hlt2],hb,?_,by rw[hlt2];exact hnc,hcm,by rw[Xs,hlen',hcs],by rw[hlt2]⟩⟩,?_,?_⟩
 ·have hne:xs.length-u≠0:=by omega
  obtain⟨m,hm⟩: ∃m,xs.length-u=m+1:=⟨xs.length-u-1,by omega⟩
  have hcut:cutA (some (⟨g,0,none⟩:Addr)) c u t.size=some ⟨g,u*t.size,none⟩:=by
   unfold cutA;rw[Qd (by omega)];simp[Addr.add_lit]
  rw[hcut]
  have hst2:(storeCells ⟨g,u*t.size,none⟩ (Builtin.zeroCells z.cells (xs.length-u)).toList 0).run P w=.ok () (w.setRow g cs'.toArray):=by rw[hzc,<-hzcd];exact hst
  rw[hm]at hst2 ⊢
  simp[Builtin.clear_,run_underlying ht,hz,hst2]
 ·have:=hBlk.setRow (cs':=cs')
  unfold Blk at this;exact this
 ·intro v hv
  obtain⟨q,hq⟩:=Wr.1 hv
  have hql:q<xs.length*t.size:=by have:=(Qb.1 hq).1;rw[Qw]at this;omega
  rw[hget q hql]at hq
  split at hq
  ·exact h1c v (Qt hq)
  ·exact h1zc v (Qt hq)
 ·intro i x hx
  have hil:i<xs.length:=by have:=(Qb.1 hx).1;rwa[hlt2]at this
  have his:i*t.size+t.size<=xs.length*t.size:=by
   have:(i+1)*t.size<=xs.length*t.size:=Q5 _ hil
   rwa[W6,X7]at this
  by_cases hiu:i<u
  ·have hx2:xs[i]?=some x:=by rwa[Q2 (by simp;omega),Q6 hiu]at hx
   have hiu2:i*t.size+t.size<=u*t.size:=by
    have:(i+1)*t.size<=u*t.size:=Q5 _ hiu
    rwa[W6,X7]at this
   have e1:((cs'.take (xs.length*t.size)).drop (i*t.size)).take t.size=(cells.drop (i*t.size)).take t.size:=by
    refine Wp fun q=>?_
    rw[Qdb,Qdb]
    split
    ·rw[hget _ (by omega),Qj (by omega)]
    ·rfl
   rw[e1]
   exact rep_to (h2 i x hx2) hch fun b hb _=>⟨hF b hb,hb⟩
  ·have hx0:x=z0:=by
    rw[We (by simp;omega),List.getElem?_replicate]at hx
    split at hx
    ·injection hx with hx;exact hx.symm
    ·cases hx
   subst hx0
   have hui:u*t.size<=i*t.size:=Q5 _ (by omega)
   have e1:((cs'.take (xs.length*t.size)).drop (i*t.size)).take t.size=zs:=by
    refine Wp fun q=>?_
    rw[Qdb]
    split
    ·rename_i hq
     rw[hget _ (by omega),Qd (by omega),hzq _ (by omega)]
     have:i*t.size+q-u*t.size=q+(i-u)*t.size:=by rw[Nat.sub_mul];omega
     rw[this,Nat.add_mul_mod_self_right,Nat.mod_eq_of_lt hq]
    ·rw[Q9 (by omega)]
   rw[e1]
   exact rep_to (F':=F) hz0 hch fun _ h _=>h.elim
end
end Go.Z
namespace Go.A
open Go.RowKit Go.Z
section
variable {r:Option Nat}{P:Program}{ops:Array Oper}{Q:Exit->Act->World->Prop}{rest lst:List Oper}{C:Cx}{l:List (Nat×Value)}{H:List (Nat×Res)}{d:Nat}{op:Op}{T:TypeId}{pos:String}{af:Array Edge}
variable {κ:Type}[DecidableEq κ]{enc:κ->Value}{kt et tt kt2:TypeId}{t:Ty}{agg:Bool}{b:Nat}{m:List (κ×t.den)}
end
section
variable {r:Option Nat}{P:Program}{ops:Array Oper}{Q:Exit->Act->World->Prop}{rest lst:List Oper}{C:Cx}{l:List (Nat×Value)}{H:List (Nat×Res)}{d:Nat}{op:Op}{T T2:TypeId}{pos pos2:String}{af af2:Array Edge}
theorem Dat.rep0 {w:World}: ∀(t:Ty) {cs:List Value} {x:t.den},Dat [] t cs x->t.rep w no cs x
 | .int _,_,_,h=>h
 | .byte,_,_,h=>h
 | .bool,_,_,h=>h
 | .str,_,_,h=>h
 | .slice e,cs,xs,h=>by
  rcases h with⟨k,h⟩|⟨h1,h2⟩
  ·cases h
  ·subst h1;subst h2;exact Qev e
 | .pair a b,cs,x,h=>⟨_,_,(Jk a.size cs).symm,Dat.rep0 a h.1,Dat.rep0 b h.2⟩
theorem AL.clr (k:Nat)(js:List Nat){t:Ty}{tt e:TypeId}{x lo:Operand}{A:Option Addr}{c:Nat}{xs:List t.den}{k1:IntKind}{p:Int}{u:Nat}{z:Value}{zs:List Value}(z0:t.den)(hp:p=(u:Int))(h2:u<=xs.length)
  (hz: ∀w,(zeroValue e).run P w=.ok z w) (hz0:Dat [] t zs z0)
  (h:AL r P ops Q rest C l ((k,.own t e A c (xs.take u++List.replicate (xs.length-u) z0))::ded js H)) (hS: ∀w,(sizeOf e).run P w=.ok t.size w)
  (hk1:hk H k=some (.own t e A c xs):=by rfl) (hx:ev l x=some (.slice A xs.length c):=by rfl) (hlo:ev l lo=some (.int k1 p):=by rfl) (ht:P.underlying tt=some (.slice e):=by rfl)
  (hzc:z.cells=zs.toArray:=by rfl) (hzl:zs.length=t.size:=by rfl) (h1:zs.all (fun u=>u.oneCell')=true:=by rfl) (hd:Nat.ble (d+1) C.n=true:=by rfl) (hne:(l.any fun q=>Nat.beq q.1 d)=false:=by kernel_rfl) (hj:hng [k] js H=true:=by kernel_rfl):
  AL r P ops Q (⟨some d,.slice tt x (some lo) none none,T,pos,af,none⟩::⟨none,.call {callee:=.builtin .clear,args:=#[.tmp d],argTypes:=#[tt]},T2,pos2,af2,none⟩::rest) C l H:=fun a w hf hh=>by
 have hO:Own t e 0 w (Fh C H) A c xs:=hh.hold k _ hk1
 have hOi:Own t e 0 w (fun b=>Fh C H b/\b<w.heap.size) A c xs:=by
  obtain⟨cells0,p1,p2,p3⟩:=hO
  exact⟨cells0,p1,p2,fun i x hi=>Qac t (p3 i x hi)⟩
 have hr0:t.rep w no zs z0:=Dat.rep0 t hz0
 refine Z.val (v:=.slice (cutA A c u t.size) (xs.length-u) (c-u)) hf hd (Qhd ht hS (hf.eval hx) (hf.eval hlo) hp h2) fun a1 hf1=>?_
 obtain⟨w',g1,g2,g3,g4⟩:=run_clearOwn (P:=P) (ty:=T2) hOi ht hz hzc hzl (fun u hu=>Qx.1 h1 u hu) hr0 h2 (fun b hb hbA=>hb.1.1 k ⟨_,hk1,hbA⟩)
 refine Z.valw0 (w':=w') (v:=.tuple #[]) hf1 ?_ fun a' hf'=>h a' w' ⟨hf'.size,hf'.defs,fun q v hv=>hf'.get q v ?_⟩ (Hp.dd (hh.upd g2 (fun b hb=>⟨_,hk1,hb⟩) (fun b hb=>.inl ⟨_,hk1,hb⟩) (fun j hj=>by cases hj) fun F B hF _ _ _ _=>g4.more fun b hb=>hF b hb.1 hb.2) hj)
 ·simp only[execOp,resolve,invoke,builtin,Sem.run_bind,Sem.run_pure,Result.andThen_ok,Xi,Qz,Jh,hf1.eval (x:=.tmp d) (Qaf l d _),g1]
 ·rw[Qae]
  ·exact hv
  ·intro e;subst e
   have: ∀l:List (Nat×Value),(l.any fun q=>Nat.beq q.1 d)=false->lk l d=none:=by
    intro l
    induction l with
    |nil=>intro _;rfl
    |cons q r ih=>
     intro h
     simp only[Jq,Yg]at h
     obtain⟨q1,q2⟩:=q
     simp only[lk,h.1,cond_false];exact ih h.2
   rw[this l hne]at hv;cases hv
end
end Go.A
end
section
namespace Go.Z
open Go.RowKit
section
variable {r:Option Nat}{P:Program}{ops:Array Oper}{Q:Exit->Act->World->Prop}{a:Act}{w:World}{rest:List Oper}{n:Nat}{ds:List Deferred}{l:List (Nat×Value)}{d:Nat}{T:TypeId}{pos:String}{af:Array Edge}
end
end Go.Z
namespace Go.A
open Go.RowKit Go.Z
section
variable {P:Program}{a:Act}{w:World}{d:Option Tmp}{T tt ty e:TypeId}{pos:String}{af:Array Edge}{n:Nat}{ds:List Deferred}{l:List (Nat×Value)}{x y:Operand}{A:Option Addr}
end
section
variable {C:Cx}{l:List (Nat×Value)}{H:List (Nat×Res)}{X:Act->World->Prop}
end
section
variable {r:Option Nat}{P:Program}{ops:Array Oper}{Q:Exit->Act->World->Prop}{rest lst:List Oper}{C:Cx}{l:List (Nat×Value)}{H:List (Nat×Res)}{d:Nat}{T:TypeId}{pos:String}{af:Array Edge}
end
section
variable {r:Option Nat}{P:Program}{ops:Array Oper}{Q:Exit->Act->World->Prop}{rest lst:List Oper}{C:Cx}{l:List (Nat×Value)}{H:List (Nat×Res)}{d:Nat}{T:TypeId}{pos:String}{af:Array Edge}
end
end Go.A
end
