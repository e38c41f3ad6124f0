import Derived.Test.YtpoabedecgeamaaGreatDoorG0
import Derived.Scope
set_option linter.defProp false
set_option linter.unusedVariables false
set_option linter.unusedSimpArgs false
section
namespace Go.A
open Go.RowKit Go.Z
def Row (t:Ty)(w:World)(F G:Nat->Prop)(A:Option Addr)(c:Nat)(xs:List t.den):Prop:=
 xs.length<=c/\c<=maxLen/\∃cells:List Value,cells.length=xs.length*t.size/\
  (xs.length=0\/∃b o,A=some ⟨b,o,none⟩/\G b/\∀j u,cells[j]?=some u->w.cell? ⟨b,o+j,none⟩=some u)/\
  ∀(i:Nat) (x:t.den),xs[i]?=some x->t.rep w F ((cells.drop (i*t.size)).take t.size) x
section
variable {t:Ty}{w w':World}{F F' G G':Nat->Prop}{A:Option Addr}{c:Nat}{xs:List t.den}
def Row.of (h:(Ty.slice t).rep w F [.slice A xs.length c] xs):Row t w F F A c xs:=by
 obtain⟨A',c',cells,L,N,O,V,W,h6⟩:=h;injection L with L;injection L with hA hn hc
 subst hA;subst hc;exact⟨N,O,cells,V,W,h6⟩
def Row.to {S:List Nat}(h:Row t w F G A c xs)(O:Ch S w w')(hF: ∀b,F b->b<w.heap.size->b∉S/\F' b)(hG: ∀b,G b->b<w.heap.size->b∉S/\G' b):Row t w' F' G' A c xs:=by
 obtain⟨h2,h3,cells,V,N,h6⟩:=h;refine⟨h2,h3,cells,V,?_,λi x hi=>rep_to (h6 i x hi) O hF⟩;by_cases W:xs.length=0;exact .inl W;rcases N with N|⟨b,o,hA,hb,hcell⟩
 exact absurd N W;have h0:0<cells.length:=by rw[V];exact Nat.mul_pos (by omega) (Qal t)
 have L:=World.block_lt_of_cell? w _ (hcell 0 _ (Qf h0));obtain⟨h7,h8⟩:=hG b hb L;exact .inr ⟨b,o,hA,h8,λj u hu=>by rw[O.cell (p:=⟨b,o+j,none⟩) L h7];exact hcell j u hu⟩
def Row.own {e:TypeId}{B:Nat}(h:Own t e B w F A c xs)(hA: ∀k,k∈obl A->G k):Row t w F G A c xs:=by
 obtain⟨cells,hr,h1,h2⟩:=h;have hl:cells.length=xs.length*t.size:=hr.1;rcases hr.2 with⟨N,hn⟩|⟨g,cap,cur,N,hb,hg,O,V,hcs,htake⟩
 injection N with hA' _ W
 subst hA';subst W;exact⟨by omega,by simp[maxLen],cells,hl,.inl hn,h2⟩;injection N with hA' _ W
 subst hA';subst W;refine⟨O,V,cells,hl,.inr ⟨g,0,rfl,hA g (by simp[obl]),λj u L=>?_⟩,h2⟩;rw[W9,cell_of_row w g j cur e (0,0) hg];rw[<-htake,Yf]at L;split at L;simpa using L;cases L
def Row.at (h:Row t w F G A c xs){k:Nat}{x:t.den}(hk:xs[k]?=some x):
  ∃b o es,A=some ⟨b,o,none⟩/\G b/\b<w.heap.size/\Cells w ⟨b,o+k*t.size,none⟩ es/\t.rep w F es x:=by
 obtain⟨h2,h3,cells,W,V,h6⟩:=h;have L:=(Qd.1 hk).1;rcases V with V|⟨b,o,rfl,hb,hcell⟩
 omega;have hs:=Qal t;have N:k*t.size<cells.length:=by rw[W];exact Nat.mul_lt_mul_of_pos_right L hs
 refine⟨b,o,_,rfl,hb,World.block_lt_of_cell? w ⟨b,o+k*t.size,none⟩ (hcell (k*t.size) _ (Qf N)),λj u O=>?_,h6 k _ hk⟩;rw[Addr.add_lit];have hj:j<t.size:=by
  have:=(Qd.1 O).1;simp only[Qo]at this;omega
 rw[Q2 hj,Wl]at O;rw[Xx];exact hcell _ _ O
def Row.ok (h:Row t w F G A c xs): ∀x,x∈xs->t.ok x:=λx L=>by
 obtain⟨i,N,rfl⟩:=X6 L;obtain⟨_,_,es,_,_,_,_,O⟩:=h.at (Qf N);exact rep_ok t O
end
def Lst (w:World)(g b:Nat)(k v:Value):Prop:=
 ∃(since clock bo:Nat) (sb:Array Nat) (arr:List MapEntry) (e:MapEntry),w.heap[g]?=some (.mapIter (some b) since (sb.push bo) clock)/\w.heap[b]?=some (.map arr.toArray clock)/\arr.find? (λx=>x.born==bo)=some e/\e.key=k/\e.val=v
def Lst.ch {w w':World}{g b:Nat}{k v:Value}{S:List Nat}(h:Lst w g b k v)(L:Ch S w w')(V:g∉S)(W:b∉S):Lst w' g b k v:=by
 obtain⟨since,clock,bo,sb,arr,e,N,O,h3⟩:=h;exact⟨since,clock,bo,sb,arr,e,(L.block _ (Qv.1 N).1 V).trans N,(L.block _ (Qv.1 O).1 W).trans O,h3⟩
def Lst.run {P:Program}{w:World}{g b:Nat}{k v:Value}(h:Lst w g b k v):(Instr.entry (.pointer (some ⟨g,0,none⟩))).run P w=.ok (.tuple #[k,v]) w:=by
 obtain⟨since,clock,bo,sb,arr,e,L,N,O,rfl,rfl⟩:=h;have V:(getObj g).run P w=.ok (.mapIter (some b) since (sb.push bo) clock) w:=by rw[getObj,Sem.run];simp only[L];rfl
 have W:(getObj b).run P w=.ok (.map arr.toArray clock) w:=by rw[getObj,Sem.run];simp only[N];rfl
 simp only[Instr.entry,Sem.run_bind,V,Result.andThen_ok,Array.back?_push,W,bne_self_eq_false,Qw,Wb,List.find?_toArray,O,Sem.run_pure]
def lv:Ty->Nat
 | .slice _=>1
 | .pair a b=>lv a+lv b
 |_=>0
abbrev Lf:=List (Option Addr×Nat)
def cl:(t:Ty)->t.den->Lf->List Value
 | .int k,x,_=>[.int k x]
 | .byte,x,_=>[.int .u8 (x.toNat:Int)]
 | .bool,x,_=>[.bool x]
 | .str,x,_=>[.string x]
 | .slice _,xs,p::_=>[.slice p.1 xs.length p.2]
 | .slice _,_,[]=>[]
 | .pair a b,x,ps=>cl a x.1 (ps.take (lv a))++cl b x.2 (ps.drop (lv a))
def rbl (As:List (Option Addr×Nat)):List Nat:=As.flatMap λa=>obl a.1
def Mr {κ:Type}(enc:κ->Value)(t:Ty)(e:TypeId)(w:World)(F:Nat->Prop)(b:Nat)(As:List (Option Addr×Nat))(m:List (κ×List t.den)):Prop:=
 ∃es,MapC w b es/\es.length=m.length/\As.length=m.length/\(b::rbl As).Nodup/\(∀x,x∈rbl As->x<w.heap.size)/\
  ∀(i:Nat) (p:κ×List t.den) (a:Option Addr×Nat),m[i]?=some p->As[i]?=some a->es[i]?=some (enc p.1,.slice a.1 p.2.length a.2)/\Own t e 0 w F a.1 a.2 p.2
def Qaz {As:List (Option Addr×Nat)}{i:Nat}{a:Option Addr×Nat}(h:As[i]?=some a){k:Nat}(hk:k∈obl a.1):k∈rbl As:=List.mem_flatMap.2 ⟨a,Qg h,hk⟩
def Mr.to {κ:Type}{enc:κ->Value}{t:Ty}{e:TypeId}{w w':World}{F F':Nat->Prop}{b:Nat}{As:List (Option Addr×Nat)}{m:List (κ×List t.den)}{S:List Nat}(h:Mr enc t e w F b As m)(L:Ch S w w')(N: ∀x,x∈b::rbl As->x∉S)(V: ∀b,F b->b<w.heap.size->b∉S/\F' b):Mr enc t e w' F' b As m:=by
 obtain⟨es,W,h2,h3,h4,h5,h6⟩:=h;refine⟨es,W.ch L (N b (Ql ..)),h2,h3,h4,λx hx=>Q3 (h5 x hx) L.size,λi p a hp O=>?_⟩;obtain⟨h7,h8⟩:=h6 i p a hp O;exact⟨h7,Own.to h8 L (λk hk _ _=>N k (Qh _ (Qaz O hk))) V⟩
inductive Res:Type 1 where
 |dead
 |sh (t:Ty) (cs:List Value) (x:t.den)
 |ln (t:Ty) (A:Option Addr) (c:Nat) (xs:List t.den)
 |el (k:Option Nat) (b o:Nat) (cs:List Value)
 |own (t:Ty) (e:TypeId) (A:Option Addr) (c:Nat) (xs:List t.den)
 |blk (g:Nat) (e:TypeId) (cs:List Value)
 |mp (κ:Type) (enc:κ->Value) (t:Ty) (agg:Bool) (b:Nat) (m:List (κ×t.den))
 |mit (k g b n:Nat) (seen:List Nat) (last:Option (Value×Value))
 |si (g:Nat) (s:ByteArray) (p:Nat)
 |ob (g:Nat) (p:Obj->Prop)
 |lmp (κ:Type) (enc:κ->Value) (t:Ty) (agg:Bool) (b:Nat) (m:List (κ×t.den))
 |mr (κ:Type) (enc:κ->Value) (t:Ty) (e:TypeId) (b:Nat) (As:List (Option Addr×Nat)) (m:List (κ×List t.den))
 |gn (bs:List Nat) (p:World->(Nat->Prop)->Prop) (hp: ∀{w w':World} {F F':Nat->Prop} {S:List Nat},p w F->Ch S w w'->(∀b,b∈bs->b∉S)->(∀b,F b->b<w.heap.size->b∉S/\F' b)->p w' F')
def rs:(t:Ty)->t.den->Lf->List Res
 | .slice t,xs,p::_=>[.sh (.slice t) [.slice p.1 xs.length p.2] xs]
 | .pair a b,x,ps=>rs a x.1 (ps.take (lv a))++rs b x.2 (ps.drop (lv a))
 |_,_,_=>[]
def tele:Nat->(Lf->Prop)->Prop
 |0,K=>K []
 |n+1,K=>∀A c,tele n λps=>K ((A,c)::ps)
def Qba: ∀{n:Nat} {K:Lf->Prop},tele n K->∀ps:Lf,ps.length=n->K ps
 |0,_,h,[],_=>h
 |n+1,_,h,(A,c)::ps,L=>Qba (h A c) ps (by simpa using L)
def Res.bl:Res->List Nat
 | .own _ _ A _ _=>obl A
 | .blk g _ _=>[g]
 | .mp _ _ _ _ b _=>[b]
 | .mit _ g _ _ _ _=>[g]
 | .si g _ _=>[g]
 | .ob g _=>[g]
 | .mr _ _ _ _ b As _=>b::rbl As
 | .gn bs _ _=>bs
 |_=>[]
def Res.ref:Res->Option Nat
 | .el k _ _ _=>k
 | .mit k _ _ _ _ _=>some k
 |_=>none
def Res.holds (w:World)(F:Nat->Prop)(B:Nat->Nat->Prop):Res->Prop
 | .dead=>True
 | .sh t cs x=>t.rep w F cs x
 | .ln t A c xs=>Row t w F (λb=>∀k,¬B k b) A c xs
 | .el k b o cs=>Cells w ⟨b,o,none⟩ cs/\b<w.heap.size/\match k with
  |none=>∀k,¬B k b
  |some k=>B k b
 | .own t e A c xs=>Own t e 0 w F A c xs
 | .blk g e cs=>Blk w g e cs
 | .mp _ enc t agg b m=>Mt enc t agg w F b m
 | .mit k g b n seen last=>Rg w g b n seen/\B k b/\∀kv,last=some kv->Lst w g b kv.1 kv.2
 | .si g s p=>Si w g s p
 | .ob g p=>∃o,w.heap[g]?=some o/\p o
 | .lmp _ enc t agg b m=>Mt enc t agg w F b m/\∀k,¬B k b
 | .mr _ enc t e b As m=>Mr enc t e w F b As m
 | .gn _ p _=>p w F
def Res.to {r:Res}{w w':World}{F F':Nat->Prop}{B B':Nat->Nat->Prop}{S:List Nat}(h:r.holds w F B)(L:Ch S w w')(W: ∀b,F b->b<w.heap.size->b∉S/\F' b)
  (hG: ∀b,(∀k,¬B k b)->b<w.heap.size->b∉S/\∀k,¬B' k b) (hB: ∀k b,r.ref=some k->B k b->b∉S/\B' k b) (N: ∀b,b∈r.bl->b∉S):r.holds w' F' B':=by
 cases r with
 |dead=>trivial
 |sh t cs x=>exact rep_to h L W
 |ln t A c xs=>exact Row.to h L W hG
 |el k b o cs=>
  obtain⟨O,V,h3⟩:=h;cases k with
  |none=>exact⟨O.ch L λ_=>(hG b h3 V).1,Q3 V L.size,(hG b h3 V).2⟩
  |some k=>exact⟨O.ch L λ_=>(hB k b rfl h3).1,Q3 V L.size,(hB k b rfl h3).2⟩
 |own t e A c xs=>exact Own.to h L (λk hk _ _=>N k hk) W
 |blk g e cs=>exact Blk.ch h L (N g (by simp[Res.bl]))
 |mp κ enc t agg b m=>exact Mt.to h L (N b (by simp[Res.bl])) W
 |mit k g b n seen last=>exact⟨h.1.ch L (N g (by simp[Res.bl])) (hB k b rfl h.2.1).1,(hB k b rfl h.2.1).2,λkv hkv=>(h.2.2 kv hkv).ch L (N g (by simp[Res.bl])) (hB k b rfl h.2.1).1⟩
 |si g s p=>exact h.ch L (N g (by simp[Res.bl]))
 |ob g p=>
  obtain⟨o,O,V⟩:=h;exact⟨o,(L.block g (Qv.1 O).1 (N g (by simp[Res.bl]))).trans O,V⟩
 |lmp κ enc t agg b m=>
  obtain⟨O,V⟩:=h;exact⟨Mt.to O L (hG b V O.lt).1 W,(hG b V O.lt).2⟩
 |mr κ enc t e b As m=>exact Mr.to h L N W
 |gn bs p hp=>exact hp h L N W
def rep_cl {w:World}{F:Nat->Prop}{B:Nat->Nat->Prop}: ∀(t:Ty) {cs:List Value} {x:t.den},t.rep w F cs x->∃ps:Lf,ps.length=lv t/\cs=cl t x ps/\∀r∈rs t x ps,r.holds w F B/\r.bl=[]/\r.ref=none
 | .int _,cs,x,h=>⟨[],rfl,h.1,by simp[rs]⟩
 | .byte,cs,x,h=>⟨[],rfl,h,by simp[rs]⟩
 | .bool,cs,x,h=>⟨[],rfl,h,by simp[rs]⟩
 | .str,cs,x,h=>⟨[],rfl,h.1,by simp[rs]⟩
 | .slice e,cs,x,h=>by
  have O:=h;obtain⟨A,c,cells,N,_⟩:=h;refine⟨[(A,c)],rfl,N,λr L=>?_⟩;simp only[rs,Qk]at L;subst L;exact⟨by rw[N]at O;exact O,rfl,rfl⟩
 | .pair a b,cs,x,h=>by
  obtain⟨ca,cb,N,V,W⟩:=h;obtain⟨pa,a1,a2,a3⟩:=rep_cl (B:=B) a V;obtain⟨pb,b1,b2,b3⟩:=rep_cl (B:=B) b W;refine⟨pa++pb,by rw[Qe,a1,b1];rfl,?_,λr L=>?_⟩;simp only[cl,<-a1,List.take_left,List.drop_left];rw[N,a2,b2];simp only[rs,<-a1,List.take_left,List.drop_left,Qx]at L;exact L.elim (a3 r) (b3 r)
def hk:List (Nat×Res)->Nat->Option Res
 | [],_=>none
 |(e,v)::r,d=>bif Nat.beq e d then some v else hk r d
def Qaa (d e:Nat)(v:Res)(H:List (Nat×Res)):hk ((d,v)::H) e=if d=e then some v else hk H e:=by
 unfold hk;by_cases h:d=e;subst h;simp;have:Nat.beq d e=false:=by cases L:Nat.beq d e with
  |false=>rfl
  |true=>exact absurd (Wm L) h
 simp only[this,cond_false,Qb h];cases H<;>rfl
def drp (k:Nat):List (Nat×Res)->List (Nat×Res)
 | []=>[]
 |(e,v)::r=>(e,match v.ref with
  |none=>v
  |some j=>bif Nat.beq j k then .dead else v)::drp k r
def Qby (k:Nat): ∀(H:List (Nat×Res)) (e:Nat) (v:Res),hk (drp k H) e=some v->v=.dead\/(hk H e=some v/\v.ref≠some k)
 | [],e,v,h=>by cases h
 |(d,u)::r,e,v,h=>by
  unfold drp at h;rw[Qaa]at h;rw[Qaa];split at h;rename_i L;injection h with h
  cases N:u.ref with
  |none=>rw[N]at h;subst h;exact .inr ⟨by rw[Qc L],by rw[N];simp⟩
  |some j=>
   rw[N]at h;simp only[]at h;cases V:Nat.beq j k with
   |true=>rw[V]at h;exact .inl h.symm
   |false=>
    rw[V]at h;subst h;refine .inr ⟨by rw[Qc L];rfl,λO=>?_⟩;rw[show(bif false then Res.dead else u)=u from rfl,N]at O;injection O with O
    subst O;simp at V
  rename_i L;rw[Qb L];exact Qby k r e v h
def Bk (H:List (Nat×Res))(k b:Nat):Prop:=∃r,hk H k=some r/\b∈r.bl
structure Cx where
 n:Nat
 ds:List Deferred
 w0:World
 S:List Nat
 F:Nat->Prop
def Fh (C:Cx)(H:List (Nat×Res))(b:Nat):Prop:=(∀k,¬Bk H k b)/\(C.F b\/C.w0.heap.size<=b\/b∈C.S)
structure Hp (C:Cx) (H:List (Nat×Res)) (w:World):Prop where
 ch:Ch C.S C.w0 w
 hold: ∀k r,hk H k=some r->r.holds w (Fh C H) (Bk H)
 bnd: ∀k b,Bk H k b->(C.w0.heap.size<=b\/b∈C.S)/\b<w.heap.size
 dis: ∀k k' b,Bk H k b->Bk H k' b->k=k'
 ref: ∀k r j,hk H k=some r->r.ref=some j->j≠k/\∀r',hk H j=some r'->r'.ref=none
section
variable {C:Cx}{H:List (Nat×Res)}{w w':World}{k:Nat}{r':Res}{S:List Nat}
def Hp.upd (h:Hp C H w)(hc:Ch S w w')(hS: ∀b,b∈S->Bk H k b)(W: ∀b,b∈r'.bl->Bk H k b\/(w.heap.size<=b/\b<w'.heap.size))(hrf: ∀j,r'.ref=some j->j≠k/\∀r,hk H j=some r->r.ref=none)
  (hr: ∀(F:Nat->Prop) (B:Nat->Nat->Prop),(∀b,Fh C H b->b<w.heap.size->F b)->(∀b,(∃r,hk H k=some r/\b∈r.bl)->b∉r'.bl->F b)->(∀b,(∀k,¬Bk H k b)->b<w.heap.size->∀k,¬B k b)->(∀j b,r'.ref=some j->Bk H j b->B j b)->(∀b,b∈r'.bl->B k b)->r'.holds w' F B)
  :Hp C ((k,r')::drp k H) w':=by
 have hbk: ∀j b,j≠k->Bk ((k,r')::drp k H) j b->Bk H j b:=λj b N ⟨r,V,O⟩=>by
  rw[Qaa,Qb (Ne.symm N)]at V;rcases Qby k H j r V with rfl|⟨h3,_⟩
  cases O;exact⟨r,h3,O⟩
 have drp_keep: ∀(H:List (Nat×Res)) (j:Nat) (r:Res),hk H j=some r->r.ref≠some k->hk (drp k H) j=some r:=by
  intro H;induction H with
  |nil=>intro j r V;cases V
  |cons p q ih=>
   obtain⟨d,u⟩:=p;intro j r V O;unfold drp;rw[Qaa]at V ⊢;by_cases hd:d=j;rw[Qc hd]at V ⊢;injection V with V
   subst V;cases hu:u.ref with
   |none=>rfl
   |some i=>
    simp only[];have:Nat.beq i k=false:=by cases W:Nat.beq i k with
     |false=>rfl
     |true=>exact absurd (by rw[hu,Wm W]) O
    rw[this];rfl
   rw[Qb hd]at V ⊢;exact ih j r V O
 have hkp: ∀j b,j≠k->(∀r,hk H j=some r->r.ref=none)->Bk H j b->Bk ((k,r')::drp k H) j b:=λj b N hn ⟨r,V,O⟩=>
  ⟨r,by rw[Qaa,Qb (Ne.symm N)];exact drp_keep H j r V (by rw[hn r V];simp),O⟩
 have hk0: ∀b,Bk ((k,r')::drp k H) k b↔b∈r'.bl:=λb=>⟨λ⟨r,V,O⟩=>by rw[Qaa,Qc rfl]at V;injection V with V;subst V;exact O,λW=>⟨r',by rw[Qaa,Qc rfl],W⟩⟩;have hFh: ∀b,Fh C H b->b<w.heap.size->b∉S/\Fh C ((k,r')::drp k H) b:=λb hf hl=>by
  refine⟨λhS'=>hf.1 k (hS b hS'),⟨λj N=>?_,hf.2⟩⟩;by_cases L:j=k;subst L;rcases W b ((hk0 b).1 N)with O|O
  exact hf.1 j O;omega;exact hf.1 j (hbk j b L N)
 have hGh: ∀b,(∀k,¬Bk H k b)->b<w.heap.size->b∉S/\∀j,¬Bk ((k,r')::drp k H) j b:=λb hb' hl=>by
  refine⟨λhS'=>hb' k (hS b hS'),λj N=>?_⟩;by_cases L:j=k;subst L;rcases W b ((hk0 b).1 N)with O|O
  exact hb' j O;omega;exact hb' j (hbk j b L N)
 have hlt: ∀b,Bk H k b->b<w.heap.size:=λb W=>(h.bnd k b W).2;have bnd': ∀j b,Bk ((k,r')::drp k H) j b->(C.w0.heap.size<=b\/b∈C.S)/\b<w'.heap.size:=λj b N=>by
  by_cases L:j=k;subst L;rcases W b ((hk0 b).1 N)with O|O
  exact⟨(h.bnd j b O).1,Q3 (h.bnd j b O).2 hc.size⟩;exact⟨.inl (Wr h.ch.size O.1),O.2⟩;have:=h.bnd j b (hbk j b L N);exact⟨this.1,Q3 this.2 hc.size⟩
 refine⟨?_,λj r N=>?_,bnd',λj j' b N hj'=>?_,λj r i N hri=>?_⟩;have hch:=h.ch;refine⟨hc.os.trans hch.os,hc.tape.trans hch.tape,hc.output.trans hch.output,Wr hch.size hc.size,λb hb' hn=>?_⟩;have hb2:b∉S:=λhbS=>by
  rcases(h.bnd k b (hS b hbS)).1 with V|V
  omega;exact hn V
 rw[hc.block b (Q3 hb' hch.size) hb2];exact hch.block b hb' hn;rw[Qaa]at N;by_cases L:k=j;subst L;rw[Qc rfl]at N;injection N with N
 subst N;refine hr _ _ (λb W hl=>(hFh b W hl).2) (λb W hn=>⟨λj N=>?_,?_⟩) (λb W hl=>(hGh b W hl).2) (λj b L N=>?_) (λb W=>(hk0 b).2 W);by_cases L:j=k;subst L;exact hn ((hk0 b).1 N);exact L (h.dis j k b (hbk j b L N) W);exact .inr (h.bnd k b W).1;exact hkp j b (hrf j L).1 (hrf j L).2 N;rw[Qb L]at N;rcases Qby k H j r N with rfl|⟨h3,h4⟩
 trivial;refine Res.to (h.hold j r h3) hc hFh hGh (λi b hi hB=>?_) (λb W hS'=>L (h.dis k j b (hS b hS') ⟨r,h3,W⟩));have hik:i≠k:=λe=>h4 (by rw[hi,e]);exact⟨λhS'=>hik (h.dis i k b hB (hS b hS')),hkp i b hik (h.ref j r i h3 hi).2 hB⟩;by_cases L:j=k<;>by_cases hjk':j'=k;rw[L,hjk'];subst L;have O:=hbk j' b hjk' hj';rcases W b ((hk0 b).1 N)with V|V
 exact h.dis j j' b V O;have:=(h.bnd j' b O).2;omega;subst hjk';have O:=hbk j b L N;rcases W b ((hk0 b).1 hj')with V|V
 exact h.dis j j' b O V;have:=(h.bnd j b O).2;omega;exact h.dis j j' b (hbk j b L N) (hbk j' b hjk' hj');rw[Qaa]at N;by_cases L:k=j;subst L;rw[Qc rfl]at N;injection N with N
 subst N;refine⟨(hrf i hri).1,λr2 O=>?_⟩;rw[Qaa,Qb (Ne.symm (hrf i hri).1)]at O;rcases Qby k H i r2 O with rfl|⟨h3,_⟩
 rfl;exact(hrf i hri).2 r2 h3;rw[Qb L]at N;rcases Qby k H j r N with rfl|⟨h3,h4⟩
 cases hri;obtain⟨h5,h6⟩:=h.ref j r i h3 hri;have hik:k≠i:=λe=>h4 (by rw[hri,e]);refine⟨h5,λr2 O=>?_⟩;rw[Qaa,Qb hik]at O;rcases Qby k H i r2 O with rfl|⟨h7,_⟩
 rfl;exact h6 r2 h7
end
def Bk.cons_ne {H:List (Nat×Res)}{k j b:Nat}{r:Res}(h:j≠k):Bk ((k,r)::H) j b↔Bk H j b:=by
 unfold Bk;rw[Qaa,Qb (Ne.symm h)]
def Bk.cons_eq {H:List (Nat×Res)}{k b:Nat}{r:Res}:Bk ((k,r)::H) k b↔b∈r.bl:=by
 unfold Bk;rw[Qaa,Qc rfl];exact⟨λ⟨O,L,N⟩=>by injection L with L;subst L;exact N,λh=>⟨r,rfl,h⟩⟩
def Hp.ext {C:Cx}{H H':List (Nat×Res)}{w:World}(h:Hp C H w)(e: ∀j,hk H' j=hk H j\/(hk H' j=some .dead/\hk H j=none)):Hp C H' w:=by
 have V: ∀{j r},hk H' j=some r->r=.dead\/hk H j=some r:=λ{j r} O=>by
  rcases e j with N|⟨N,_⟩
  exact .inr (N▸O);rw[N]at O;injection O with O;exact .inl O.symm
 have W:Bk H'=Bk H:=by
  funext k b;refine propext ⟨λ⟨r,N,h2⟩=>?_,λ⟨r,N,h2⟩=>?_⟩;rcases V N with rfl|L
  cases h2;exact⟨r,L,h2⟩;rcases e k with L|⟨_,L⟩
  exact⟨r,L.trans N,h2⟩;rw[L]at N;cases N
 have e2:Fh C H'=Fh C H:=by funext b;unfold Fh;rw[W]
 refine⟨h.ch,λk r hk=>?_,?_,?_,λk r j hk hr=>?_⟩;rcases V hk with rfl|L
 trivial;rw[W,e2];exact h.hold k r L;rw[W];exact h.bnd;rw[W];exact h.dis;rcases V hk with rfl|L
 cases hr;refine⟨(h.ref k r j L hr).1,λr' h4=>?_⟩;rcases V h4 with rfl|h5
 rfl;exact(h.ref k r j L hr).2 r' h5
def ded:List Nat->List (Nat×Res)->List (Nat×Res)
 | [],H=>H
 |j::js,H=>(j,.dead)::ded js H
def Qgt {H:List (Nat×Res)}{j:Nat}: ∀{js:List Nat},hk (ded js H) j=bif js.any (Nat.beq j)then some .dead else hk H j
 | []=>rfl
 |i::js=>by
  show hk ((i,.dead)::ded js H) j=_;rw[Qaa,Qgt,Xy];by_cases h:i=j;subst h;simp;have:Nat.beq j i=false:=by cases L:Nat.beq j i with
   |false=>rfl
   |true=>exact absurd (Wm L).symm h
  rw[Qb h,this];rfl
def rin (ks:List Nat):Option Nat->Bool
 |none=>false
 |some i=>ks.any (Nat.beq i)
def hng (ks js:List Nat)(H:List (Nat×Res)):Bool:=
 js.all (λj=>match hk H j with|some v=>rin ks v.ref|none=>true)&&H.all λp=>bif rin ks p.2.ref then js.any (Nat.beq p.1)||(match hk H p.1 with|some v=> !(rin ks v.ref)|none=>true)else true
def hk_memb: ∀{H:List (Nat×Res)} {j:Nat} {v:Res},hk H j=some v->(j,v)∈H
 |(d,u)::H,j,v,h=>by
  rw[Qaa]at h;split at h;rename_i e;subst e;injection h with h;subst h;exact Ql ..
  exact Qh _ (hk_memb h)
def hng_at {ks js:List Nat}{H:List (Nat×Res)}(h:hng ks js H=true)(j:Nat):(bif js.any (Nat.beq j)then some Res.dead else hk H j)=((hk H j).map λv=>bif rin ks v.ref then .dead else v)\/((bif js.any (Nat.beq j)then some Res.dead else hk H j)=some .dead/\((hk H j).map λv=>bif rin ks v.ref then .dead else v)=none):=by
 simp only[hng,Qp,Wv]at h;cases O:js.any (Nat.beq j)with
 |true=>
  obtain⟨i,W,hb⟩:=Y6.1 O;have:=Wm hb;subst this;have L:=h.1 j W;cases N:hk H j with
  |none=>exact .inr ⟨rfl,rfl⟩
  |some v=>rw[N]at L;replace L:rin ks v.ref=true:=L;exact .inl (by simp[L])
 |false=>
  cases N:hk H j with
  |none=>exact .inl rfl
  |some v=>
   refine .inl ?_;have L:=h.2 _ (hk_memb N);simp only[O,N,Xn]at L;cases V:rin ks v.ref with
   |false=>simp[V]
   |true=>rw[V]at L;cases L
def Qcf (k:Nat): ∀(H:List (Nat×Res)) (j:Nat),hk (drp k H) j=(hk H j).map λv=>bif rin [k] v.ref then .dead else v
 | [],_=>rfl
 |(d,u)::H,j=>by
  unfold drp;rw[Qaa,Qaa];by_cases L:d=j;rw[Qc L,Qc L];cases N:u.ref with
  |none=>simp[N,rin]
  |some i=>cases O:Nat.beq i k<;>simp[N,rin]<;>simp at O<;>simp[O]
  rw[Qb L,Qb L];exact Qcf k H j
def Hp.dd {C:Cx}{H:List (Nat×Res)}{w:World}{k:Nat}{r:Res}{js:List Nat}(h:Hp C ((k,r)::drp k H) w)(L:hng [k] js H=true):Hp C ((k,r)::ded js H) w:=
 h.ext λj=>by
  rw[Qaa,Qaa];by_cases h:k=j;rw[Qc h,Qc h];exact .inl rfl;rw[Qb h,Qb h,Qgt,Qcf];exact hng_at L j
def Hp.dd2 {C:Cx}{H:List (Nat×Res)}{w:World}{k N:Nat}{r O:Res}{js:List Nat}(h:Hp C ((N,O)::(k,r)::drp k H) w)(V:hng [k] js H=true):Hp C ((N,O)::(k,r)::ded js H) w:=
 h.ext λj=>by
  rw[Qaa,Qaa,Qaa,Qaa];by_cases L:N=j;rw[Qc L,Qc L];exact .inl rfl;by_cases h:k=j;rw[Qb L,Qb L,Qc h,Qc h];exact .inl rfl;rw[Qb L,Qb L,Qb h,Qb h,Qgt,Qcf];exact hng_at V j
section
variable {C:Cx}{H:List (Nat×Res)}{w w':World}{k:Nat}{r':Res}
def Hp.noref (h:Hp C H w)(O:hk H k=none){j:Nat}{r:Res}(W:hk H j=some r):r.ref≠some k:=λL=>by
 have V:=h.hold j r W;cases r with
 |el i b o cs=>
  simp only[Res.ref]at L;subst L;obtain⟨_,_,r2,N,_⟩:=V;rw[O]at N;cases N
 |mit i g b n seen la=>
  simp only[Res.ref,Qr]at L;subst L;obtain⟨_,⟨r2,N,_⟩,_⟩:=V;rw[O]at N;cases N
 |_=>cases L
def Hp.new (h:Hp C H w)(h0:hk H k=none)(hc:Ch [] w w')(hb: ∀b,b∈r'.bl->w.heap.size<=b/\b<w'.heap.size)(hrf: ∀j,r'.ref=some j->∀r,hk H j=some r->r.ref=none)
  (hr: ∀(F:Nat->Prop) (B:Nat->Nat->Prop),(∀b,Fh C H b->b<w.heap.size->F b)->(∀b,(∀k,¬Bk H k b)->b<w.heap.size->∀k,¬B k b)->(∀j b,Bk H j b->B j b)->r'.holds w' F B):Hp C ((k,r')::H) w':=by
 have hkn: ∀j b,Bk H j b->j≠k:=λj b ⟨r,N,_⟩ e=>by subst e;rw[h0]at N;cases N
 have hup: ∀j b,Bk H j b->Bk ((k,r')::H) j b:=λj b L=>(Bk.cons_ne (hkn j b L)).2 L;have hcase: ∀j b,Bk ((k,r')::H) j b->(j=k/\w.heap.size<=b/\b<w'.heap.size)\/(j≠k/\Bk H j b):=λj b L=>by
  by_cases hjk:j=k;subst hjk;exact .inl ⟨rfl,hb b (Bk.cons_eq.1 L)⟩;exact .inr ⟨hjk,(Bk.cons_ne hjk).1 L⟩
 have hnb: ∀b,(∀k,¬Bk H k b)->b<w.heap.size->∀j,¬Bk ((k,r')::H) j b:=λb hb' hl j L=>by
  rcases hcase j b L with⟨_,N,_⟩|⟨_,N⟩
  omega;exact hb' j N
 refine⟨?_,λj r L=>?_,λj b L=>?_,λj j' b L hj'=>?_,λj r i L O=>?_⟩;have W:=h.ch;exact⟨hc.os.trans W.os,hc.tape.trans W.tape,hc.output.trans W.output,Wr W.size hc.size,λb hb' hn=>by rw[hc.block b (Q3 hb' W.size) (by simp)];exact W.block b hb' hn⟩;rw[Qaa]at L;split at L;injection L with L;subst L
 exact hr _ _ (λb hF hl=>⟨hnb b hF.1 hl,hF.2⟩) hnb hup;exact Res.to (h.hold j r L) hc (λb hF hl=>⟨by simp,hnb b hF.1 hl,hF.2⟩) (λb hB hl=>⟨by simp,hnb b hB hl⟩) (λi b _ hB=>⟨by simp,hup i b hB⟩) (by simp);rcases hcase j b L with⟨_,N,V⟩|⟨_,N⟩
 exact⟨.inl (Wr h.ch.size N),V⟩;exact⟨(h.bnd j b N).1,Q3 (h.bnd j b N).2 hc.size⟩;rcases hcase j b L with⟨N,V,_⟩|⟨_,N⟩<;>rcases hcase j' b hj' with⟨h3,h4,_⟩|⟨_,h3⟩
 rw[N,h3];have:=(h.bnd j' b h3).2;omega;have:=(h.bnd j b N).2;omega;exact h.dis j j' b N h3;rw[Qaa]at L;have hvis: ∀i r2,hk ((k,r')::H) i=some r2->i≠k->hk H i=some r2:=λi r2 V hne=>by rwa[Qaa,Qb (Ne.symm hne)]at V
 split at L;injection L with L;subst L
 have hik:i≠k:=λe=>by
  subst e;have N:=hr (λb=>Fh C H b/\b<w.heap.size) (Bk H) (λb N V=>⟨N,V⟩) (λb hB _=>hB) (λj b L=>L);cases r' with
  |el i' b o cs=>
   simp only[Res.ref]at O;subst O;obtain⟨_,_,r2,V,_⟩:=N;rw[h0]at V;cases V
  |mit i' g b n seen la=>
   simp only[Res.ref,Qr]at O;subst O;obtain⟨_,⟨r2,V,_⟩,_⟩:=N;rw[h0]at V;cases V
  |_=>cases O
 rename_i hkj;exact⟨λe=>hik (e.trans hkj.symm),λr2 V=>hrf i O r2 (hvis i r2 V hik)⟩;obtain⟨h5,h6⟩:=h.ref j r i L O;have hik:i≠k:=λe=>h.noref h0 L (by rw[O,e]);exact⟨h5,λr2 V=>h6 r2 (hvis i r2 V hik)⟩
def Hp.add (h:Hp C H w)(V:hk H k=none)(W:r'.bl=[])(L: ∀j,r'.ref=some j->∀r,hk H j=some r->r.ref=none)
  (hr:r'.holds w (λb=>Fh C H b/\b<w.heap.size) (Bk H)):Hp C ((k,r')::H) w:=
 h.new V (Ch.refl w) (by rw[W];simp) L λF B h1 h2 h3=>Res.to hr (S:=[]) (Ch.refl w) (λb O _=>⟨by simp,h1 b O.1 O.2⟩) (λb N hl=>⟨by simp,h2 b N hl⟩) (λi b _ N=>⟨by simp,h3 i b N⟩) (by simp)
end
def kx:Nat->List Res->List (Nat×Res)
 |_,[]=>[]
 |k,r::rs=>(k,r)::kx (k+1) rs
def hcat:List (Nat×Res)->List (Nat×Res)->List (Nat×Res)
 | [],H=>H
 |p::r,H=>p::hcat r H
def nok (H:List (Nat×Res)):Nat->Nat->Bool
 |_,0=>true
 |k,n+1=>(match hk H k with|none=>true|some _=>false)&&nok H (k+1) n
def Qbh {H:List (Nat×Res)}: ∀{n k j:Nat},nok H k n=true->k<=j->j<k+n->hk H j=none
 |0,k,j,_,L,N=>by omega
 |n+1,k,j,h,L,N=>by
  simp only[nok,Qp]at h;rcases Yn k j with O|V
  exact Qbh h.2 (by omega) (by omega);have:k=j:=by omega
  subst this;cases W:hk H k with
  |none=>rfl
  |some r=>rw[W]at h;exact absurd h.1 (by simp)
def hk_kx: ∀(rs:List Res) (k j:Nat) (H:List (Nat×Res)),j<k->hk (hcat (kx k rs) H) j=hk H j
 | [],_,_,_,_=>rfl
 |r::rs,k,j,H,h=>by
  show hk ((k,r)::hcat (kx (k+1) rs) H) j=_;rw[Qaa,Qb (by omega)];exact hk_kx rs (k+1) j H (by omega)
def Hp.adds {C:Cx}{w:World}: ∀{rs:List Res} {k:Nat} {H:List (Nat×Res)},Hp C H w->nok H k rs.length=true->(∀r,r∈rs->r.bl=[]/\r.ref=none/\r.holds w (λb=>Fh C H b/\b<w.heap.size) (Bk H))->Hp C (hcat (kx k rs) H) w
 | [],_,_,h,_,_=>h
 |r::rs,k,H,h,N,O=>by
  have h1:Hp C (hcat (kx (k+1) rs) H) w:=Hp.adds h (by simp only[Qi,nok,Qp]at N;exact N.2) λV L=>O V (Qh _ L);obtain⟨L,h3,h4⟩:=O r (Ql ..);have hb: ∀(rs:List Res) (k:Nat),(∀r,r∈rs->r.bl=[])->nok H k rs.length=true->∀j b,Bk (hcat (kx k rs) H) j b↔Bk H j b:=by
   intro rs;induction rs with
   |nil=>intro k _ _ j b;exact Iff.rfl
   |cons r rs ih=>
    intro k O N j b;show Bk ((k,r)::hcat (kx (k+1) rs) H) j b↔_;have hn2:nok H (k+1) rs.length=true:=by simp only[Qi,nok,Qp]at N;exact N.2
    have hh:hk H k=none:=Qbh N (Q4 k) (by simp);by_cases hjk:j=k;subst hjk;rw[Bk.cons_eq,O r (Ql ..)];exact⟨λh=>by simp at h,λ⟨V,L,_⟩=>by rw[hh]at L;cases L⟩;rw[Bk.cons_ne hjk];exact ih (k+1) (λV L=>O V (Qh _ L)) hn2 j b
  have hb':=hb rs (k+1) (λV L=>(O V (Qh _ L)).1) (by simp only[Qi,nok,Qp]at N;exact N.2);have hF: ∀b,Fh C H b->Fh C (hcat (kx (k+1) rs) H) b:=λb hF=>⟨λj W=>hF.1 j ((hb' j b).1 W),hF.2⟩;refine h1.add ?_ L (λj W=>by rw[h3]at W;cases W) ?_;rw[hk_kx rs (k+1) k H (by omega)];exact Qbh N (Q4 k) (by simp);exact Res.to h4 (S:=[]) (Ch.refl w) (λb h _=>⟨by simp,hF b h.1,h.2⟩) (λb h _=>⟨by simp,λj W=>h j ((hb' j b).1 W)⟩) (λi b _ h=>⟨by simp,(hb' i b).2 h⟩) (by simp)
def rok (ks:List Nat):Option Nat->Bool
 |none=>true
 |some j=>ks.any (Nat.beq j)
def kpH (H:List (Nat×Res))(all:List Nat):List Nat->List (Nat×Res)
 | []=>[]
 |k::ks=>match hk H k with
  |some r=>bif rok all r.ref then(k,r)::kpH H all ks else kpH H all ks
  |none=>kpH H all ks
def Qcq {H:List (Nat×Res)}{all:List Nat}: ∀{ks:List Nat} {k:Nat} {r:Res},hk (kpH H all ks) k=some r->hk H k=some r/\rok all r.ref=true/\k∈ks
 | [],k,r,h=>by cases h
 |j::ks,k,r,h=>by
  unfold kpH at h;cases V:hk H j with
  |none=>rw[V]at h;obtain⟨L,N,O⟩:=Qcq h;exact⟨L,N,Qh _ O⟩
  |some u=>
   rw[V]at h;simp only[]at h;cases W:rok all u.ref with
   |false=>rw[W]at h;obtain⟨L,N,O⟩:=Qcq (show hk (kpH H all ks) k=some r from h);exact⟨L,N,Qh _ O⟩
   |true=>
    rw[W]at h;replace h:hk ((j,u)::kpH H all ks) k=some r:=h;rw[Qaa]at h;split at h;rename_i hjk;subst hjk;have h:=Xm h;subst h;exact⟨V,W,Ql ..⟩;obtain⟨L,N,O⟩:=Qcq h;exact⟨L,N,Qh _ O⟩
def Qce {H:List (Nat×Res)}{all:List Nat}: ∀{ks:List Nat} {k:Nat} {r:Res},hk H k=some r->rok all r.ref=true->k∈ks->hk (kpH H all ks) k=some r
 | [],_,_,_,_,h=>by cases h
 |j::ks,k,r,h,N,O=>by
  unfold kpH;by_cases L:j=k;subst L;rw[h];simp only[N];show hk ((j,r)::_) j=_;rw[Qaa,Qc rfl];have hm':k∈ks:=(Qn.1 O).resolve_left (Ne.symm L);cases V:hk H j with
  |none=>exact Qce h N hm'
  |some u=>
   simp only[];cases rok all u.ref with
   |false=>exact Qce h N hm'
   |true=>
    show hk ((j,u)::_) k=_;rw[Qaa,Qb L];exact Qce h N hm'
def Hp.keep {C:Cx}{H:List (Nat×Res)}{w:World}(h:Hp C H w)(ks:List Nat):Hp C (kpH H ks ks) w:=by
 have O: ∀j b,Bk (kpH H ks ks) j b->Bk H j b:=λj b ⟨r,N,L⟩=>⟨r,(Qcq N).1,L⟩;refine⟨h.ch,λk r V=>?_,λk b hb1=>h.bnd k b (O k b hb1),λk k' b N L=>h.dis k k' b (O _ _ N) (O _ _ L),λk r j V hr=>?_⟩;obtain⟨N,L,h3⟩:=Qcq V;refine Res.to (h.hold k r N) (S:=[]) (Ch.refl w) (λb hF _=>⟨by simp,λj hj=>hF.1 j (O j b hj),hF.2⟩) (λb hB _=>⟨by simp,λj hj=>hB j (O j b hj)⟩) (λi b hi hB=>⟨by simp,?_⟩) (by simp);obtain⟨W,h4,h5⟩:=hB;have h6:=(h.ref k r i N hi).2 W h4;refine⟨W,Qce h4 (by rw[h6];rfl) ?_,h5⟩;rw[hi]at L;simp only[rok,Y6]at L;obtain⟨x,hx,O⟩:=L;rw[Wm O];exact hx;obtain⟨N,_,_⟩:=Qcq V;obtain⟨L,h3⟩:=h.ref k r j N hr;exact⟨L,λW h4=>h3 W (Qcq h4).1⟩
def Hp.cov {C:Cx}{H H':List (Nat×Res)}{w:World}(h:Hp C H w)(ks:List Nat)(e:kpH H ks ks=H'):Hp C H' w:=e▸h.keep ks
def ren (H:List (Nat×Res)):List (Nat×Nat)->List (Nat×Res)
 | []=>[]
 |(i,k)::ks=>match hk H k with
  |some r=>match r.ref with
   |none=>(i,r)::ren H ks
   |some _=>ren H ks
  |none=>ren H ks
def hk_ren {H:List (Nat×Res)}: ∀{ps:List (Nat×Nat)} {i:Nat} {r:Res},hk (ren H ps) i=some r->∃k,(i,k)∈ps/\hk H k=some r/\r.ref=none
 | [],i,r,h=>by cases h
 |(j,k)::ps,i,r,h=>by
  unfold ren at h;have step:hk (ren H ps) i=some r->∃k',(i,k')∈(j,k)::ps/\hk H k'=some r/\r.ref=none:=λh=>by
   obtain⟨k',V,W⟩:=hk_ren h;exact⟨k',Qh _ V,W⟩
  cases L:hk H k with
  |none=>rw[L]at h;exact step h
  |some u=>
   rw[L]at h;simp only[]at h;cases N:u.ref with
   |some _=>rw[N]at h;exact step h
   |none=>
    rw[N]at h;replace h:hk ((j,u)::ren H ps) i=some r:=h;rw[Qaa]at h;split at h;rename_i O;subst O;injection h with h;subst h;exact⟨k,Ql ..,L,N⟩
    exact step h
def nod:List Nat->Bool
 | []=>true
 |k::ks=> !(ks.any (Nat.beq k))&&nod ks
def Qig {α:Type}{f g:α->Nat}: ∀{l:List α},nod (l.map f)=true->∀x y,x∈l->y∈l->f x=f y->g x=g y
 | [],_,x,_,hx,_,_=>by cases hx
 |a::l,h,x,y,hx,hy,e=>by
  simp only[Q7,nod,Qp,Yj,List.any_map]at h;have L: ∀z∈l,f a≠f z:=λz hz e=>by
   have:=h.1;rw[Yz]at this;exact this z hz (by simp[Function.comp,e])
  rcases Qn.1 hx with N|O<;>rcases Qn.1 hy with V|W
  rw[N,V];subst N;exact absurd e (L y W);subst V;exact absurd e.symm (L x O);exact Qig h.2 x y O W e
def Hp.ren {C:Cx}{H:List (Nat×Res)}{w:World}(h:Hp C H w)(ps:List (Nat×Nat))(h1:nod (ps.map (·.1))=true)(h2:nod (ps.map (·.2))=true):Hp C (ren H ps) w:=by
 have hb: ∀i b,Bk (A.ren H ps) i b->∃k,(i,k)∈ps/\Bk H k b:=λi b ⟨r,V,L⟩=>by
  obtain⟨k,N,h6,_⟩:=hk_ren V;exact⟨k,N,r,h6,L⟩
 have W: ∀b,(∀k,¬Bk H k b)->∀k,¬Bk (A.ren H ps) k b:=λb hB j hj=>by obtain⟨k,_,L⟩:=hb j b hj;exact hB k L
 refine⟨h.ch,λk r O=>?_,λk b hb1=>by obtain⟨j,_,V⟩:=hb k b hb1;exact h.bnd j b V,λk k' b V L=>?_,λk r j O hr=>?_⟩;obtain⟨j,V,L,N⟩:=hk_ren O;exact Res.to (h.hold j r L) (S:=[]) (Ch.refl w) (λb hF _=>⟨by simp,W b hF.1,hF.2⟩) (λb hB _=>⟨by simp,W b hB⟩) (λi b hi hB=>by rw[N]at hi;cases hi) (by simp);obtain⟨j,N,h6⟩:=hb k b V;obtain⟨j',h7,h8⟩:=hb k' b L;exact Qig (f:=λp:Nat×Nat=>p.2) (g:=λp:Nat×Nat=>p.1) h2 (k,j) (k',j') N h7 (h.dis j j' b h6 h8);obtain⟨_,_,_,N⟩:=hk_ren O;rw[N]at hr;cases hr
inductive Kx where
 |c (y:Code)
 |b (id:Nat)
 |m (M:Act->World->Prop)
 |s
def kont (r:Option Nat)(P:Program)(Y:Exit->Act->World->Prop):List Kx->Exit->Act->World->Prop
 | [],e,a,w=>Y e a w
 | .c y::K,.normal,a,w=>WP r P y (kont r P Y K) a w
 | .m M::_,.normal,a,w=>M a w
 | .b _::K,.normal,a,w=>kont r P Y K .normal a w
 | .s::_,.goto _,_,_=>False
 | .b id::K,.exit i,a,w=>if i=id then kont r P Y K .normal a w else kont r P Y K (.exit i) a w
 |_::K,e,a,w=>kont r P Y K e a w
section
variable {r:Option Nat}{P:Program}{Y:Exit->Act->World->Prop}{K:List Kx}{C:Cx}{l:List (Nat×Value)}{H:List (Nat×Res)}
abbrev AX (r:Option Nat) (P:Program) (Y:Exit->Act->World->Prop) (K:List Kx) (c:Code) (C:Cx) (l:List (Nat×Value)) (H:List (Nat×Res)):Prop:=∀a w,Fr a C.n C.ds l->Hp C H w->WP r P c (kont r P Y K) a w
abbrev AE (r:Option Nat) (P:Program) (Y:Exit->Act->World->Prop) (K:List Kx) (e:Exit) (C:Cx) (l:List (Nat×Value)) (H:List (Nat×Res)):Prop:=∀a w,Fr a C.n C.ds l->Hp C H w->kont r P Y K e a w
abbrev AL (r:Option Nat) (P:Program) (ops:Array Oper) (Q:Exit->Act->World->Prop) (rest:List Oper) (C:Cx) (l:List (Nat×Value)) (H:List (Nat×Res)):Prop:=∀a w,Fr a C.n C.ds l->Hp C H w->WL r P ops Q rest a w
def AX.seq {x y:Code}(h:AX r P Y (.c y::K) x C l H):AX r P Y K (.seq x y) C l H:=λa w L N=>by
 refine wpIn_seq (wpIn_mono (h a w L N) λe a w hq=>?_);cases e<;>exact hq
def AX.reg {id:Nat}{lo:List Oper}(h:AL r P lo.toArray (kont r P Y K) lo C l H):AX r P Y K (.region id lo.toArray false) C l H:=λa w L N=>Z.reg (h a w L N)
def AL.done {ops:Array Oper}(h:AE r P Y K .normal C l H):AL r P ops (kont r P Y K) [] C l H:=λa w L N=>Z.done (h a w L N)
def AE.c {y:Code}(h:AX r P Y K y C l H):AE r P Y (.c y::K) .normal C l H:=h
def AE.b {id:Nat}(h:AE r P Y K .normal C l H):AE r P Y (.b id::K) .normal C l H:=h
def AX.skip (h:AE r P Y K .normal C l H):AX r P Y K .skip C l H:=λa w L N=>wpIn_skip (h a w L N)
def AX.block {id:Nat}{c:Code}(h:AX r P Y (.b id::K) c C l H):AX r P Y K (.block id c) C l H:=λa w L N=>by
 refine wpIn_block (wpIn_mono (h a w L N) λe a w hq=>?_);cases e<;>first|exact hq|skip
def popx (id:Nat):List Kx->Option (List Kx)
 | []=>none
 | .b i::K=>bif Nat.beq i id then some K else popx id K
 |_::K=>popx id K
def popx_spec {id:Nat}{a:Act}{w:World}: ∀{K K':List Kx},popx id K=some K'->kont r P Y K' .normal a w->kont r P Y K (.exit id) a w
 | [],_,h,_=>by cases h
 | .b i::K,K',h,hq=>by
  unfold popx at h;show(if id=i then kont r P Y K .normal a w else kont r P Y K (.exit id) a w);cases L:Nat.beq i id with
  |true=>
   rw[L]at h;have h:some K=some K':=h;injection h with h;subst h
   rw[Qc (Wm L).symm];exact hq
  |false=>
   rw[L]at h;rw[Qb (λe=>by subst e;simp at L)];exact popx_spec h hq
 | .c y::K,K',h,hq=>popx_spec (K:=K) h hq
 | .m M::K,K',h,hq=>popx_spec (K:=K) h hq
 | .s::K,K',h,hq=>popx_spec (K:=K) h hq
def AX.exit {id:Nat}{K':List Kx}(e:popx id K=some K')(h:AE r P Y K' .normal C l H):AX r P Y K (.exit id) C l H:=λa w L N=>wpIn_exit (popx_spec e (h a w L N))
def kont_ret {a:Act}{w:World}: ∀{K:List Kx},Y .ret a w->kont r P Y K .ret a w
 | [],h=>h
 | .b _::K,h=>kont_ret (K:=K) h
 | .c _::K,h=>kont_ret (K:=K) h
 | .m _::K,h=>kont_ret (K:=K) h
 | .s::K,h=>kont_ret (K:=K) h
def AX.ret0 (h: ∀a w,Fr a C.n C.ds l->Hp C H w->Y .ret a w):AX r P Y K .ret C l H:=λa w L N=>wpIn_ret (kont_ret (h a w L N))
def AE.s (h:AE r P Y K .normal C l H):AE r P Y (.s::K) .normal C l H:=h
def AX.scope {c:Code}(h:AX none P Y (.s::K) c C l H):AX none P Y K (.scope c) C l H:=λa w L N=>by
 refine wpIn_wide.2 (wp_scope_straight ?_);have:=wpIn_wide.1 (h a w L N);refine Code.wp_mono (λe a w hq=>?_) this;cases e<;>exact hq
def AX.label {i:Nat}(h:AE r P Y K .normal C l H):AX r P Y K (.label i) C l H:=λa w L N=>wpIn_label (h a w L N)
def AX.cnd {ρ:Type}{A B R:Option ρ}{c:Operand}{x y:Code}{p:Prop}[Decidable p](O:ev l c=some (.bool (decide p)))(L:(if p then A else B)=R)(W:p->A=R->AX r P Y K x C l H)(he: ¬p->B=R->AX r P Y K y C l H):AX r P Y K (.cond c x y) C l H:=λa w N V=>by
 by_cases hp:p;rw[Qc hp]at L;exact Z.condp N O (λ_=>W hp L a w N V) (λh=>absurd hp h);rw[Qb hp]at L;exact Z.condp N O (λh=>absurd h hp) (λ_=>he hp L a w N V)
def AX.cnb {ρ:Type}{A B R:Option ρ}{c:Operand}{x y:Code}{b:Bool}(O:ev l c=some (.bool b))(L:(if b=true then A else B)=R)(W:b=true->A=R->AX r P Y K x C l H)(he:b=false->B=R->AX r P Y K y C l H):AX r P Y K (.cond c x y) C l H:=λa w N V=>by
 cases b with
 |true=>rw[Qc rfl]at L;exact Z.condt N O (W rfl L a w N V)
 |false=>rw[Qb (by simp)]at L;exact Z.condf N O (he rfl L a w N V)
def AX.cnt {c:Operand}{x y:Code}(N:ev l c=some (.bool true))(O:AX r P Y K x C l H):AX r P Y K (.cond c x y) C l H:=λa w L V=>Z.condt L N (O a w L V)
def AX.cnf {c:Operand}{x y:Code}(N:ev l c=some (.bool false))(O:AX r P Y K y C l H):AX r P Y K (.cond c x y) C l H:=λa w L V=>Z.condf L N (O a w L V)
def Fr.cov {a:Act}{n:Nat}{ds:List Deferred}{l':List (Nat×Value)}(h:Fr a n ds l)(e:kp l (l'.map (·.1))=l'):Fr a n ds l':=e▸h.keep _
abbrev St (C:Cx) (l:List (Nat×Value)) (H:List (Nat×Res)) (ks hs:List Nat) (J:List (Nat×Value)->List (Nat×Res)->Prop):Act->World->Prop:=λa w=>∃nl nh,J nl nh/\Fr a C.n C.ds (cat nl (kp l ks))/\Hp C (hcat nh (kpH H hs hs)) w
def AX.join (ks L:List Nat)(J:List (Nat×Value)->List (Nat×Res)->Prop){x y:Code}(h:AX r P Y (.m (St C l H ks L J)::K) x C l H)(N: ∀nl nh,J nl nh->AX r P Y K y C (cat nl (kp l ks)) (hcat nh (kpH H L L))):AX r P Y K (.seq x y) C l H:=λa w O V=>by
 refine wpIn_seq (wpIn_mono (h a w O V) λe a w hq=>?_);cases e with
 |normal=>obtain⟨nl,nh,W,hf',hh'⟩:=hq;exact N nl nh W a w hf' hh'
 |_=>exact hq
def AE.j {l':List (Nat×Value)}{H':List (Nat×Res)}{ks L:List Nat}{J:List (Nat×Value)->List (Nat×Res)->Prop}(gs:List Nat)(nl:List (Nat×Value))(nh:List (Nat×Res))(N:J nl nh)(O:kp l ((cat nl (kp l' ks)).map (·.1))=cat nl (kp l' ks):=by kernel_rfl)(V:kpH H gs gs=hcat nh (kpH H' L L):=by kernel_rfl):
  AE r P Y (.m (St C l' H' ks L J)::K) .normal C l H:=λa w W hh=>⟨nl,nh,N,Fr.cov W O,hh.cov gs V⟩
def AX.loop (ks L gs:List Nat)(J:Nat->List (Nat×Value)->List (Nat×Res)->Prop)(m:Nat)(nl:List (Nat×Value))(nh:List (Nat×Res)){x:Code}(N:J m nl nh)
  (h: ∀f nl nh,J f nl nh->AX r P Y (.m (St C l H ks L λnl nh=>∃f',f'<f/\J f' nl nh)::K) x C (cat nl (kp l ks)) (hcat nh (kpH H L L)))
  (h1:kp l ((cat nl (kp l ks)).map (·.1))=cat nl (kp l ks):=by kernel_rfl) (h2:kpH H gs gs=hcat nh (kpH H L L):=by kernel_rfl):AX r P Y K (.loop x) C l H:=λa w O V=>by
 refine Z.loop (λf a w=>St C l H ks L (J f) a w) m ⟨nl,nh,N,Fr.cov O h1,V.cov gs h2⟩ λf a w ⟨nl,nh,N,O,V⟩=>?_;refine wpIn_mono (h f nl nh N a w O V) λe a w hq=>?_;cases e with
 |normal=>obtain⟨nl,nh,⟨f',W,hJ'⟩,hf',hh'⟩:=hq;exact⟨f',W,nl,nh,hJ',hf',hh'⟩
 |_=>exact hq
end
def ix {α:Type}(xs:List α)(i:Int):Option α:=if i<0 then none else xs[i.toNat]?
def Qaq {α:Type}{xs:List α}{i:Int}{x:α}(h:ix xs i=some x): ∃k:Nat,i=(k:Int)/\xs[k]?=some x:=by
 unfold ix at h;split at h;cases h;exact⟨i.toNat,by omega,h⟩
def knb (H:List (Nat×Res)):List Nat->List (Nat×TypeId×List Value)
 | []=>[]
 |k::ks=>match hk H k with
  |some (.blk g e cs)=>(g,e,cs)::knb H ks
  |_=>knb H ks
def kne (H:List (Nat×Res)):List Nat->List (Addr×List Value)
 | []=>[]
 |k::ks=>match hk H k with
  |some (.el _ b o cs)=>(⟨b,o,none⟩,cs)::kne H ks
  |_=>kne H ks
def o_cj {C:Cx}{H:List (Nat×Res)}{w:World}(h:Hp C H w)(bs es:List Nat):Kn.ok ⟨knb H bs,kne H es⟩ w:=by
 refine⟨?_,?_⟩;induction bs with
 |nil=>intro b L;cases L
 |cons k ks N=>
  intro b L;unfold knb at L;split at L;rename_i g e cs O;rcases Qn.1 L with rfl|L
  exact h.hold k _ O;exact N b L;exact N b L
 induction es with
 |nil=>intro b L;cases L
 |cons k ks N=>
  intro b L;unfold kne at L;split at L;rename_i j g o cs O;rcases Qn.1 L with rfl|L
  exact(h.hold k _ O).1;exact N b L;exact N b L
section
variable {r:Option Nat}{P:Program}{ops:Array Oper}{Q:Exit->Act->World->Prop}{rest lst:List Oper}{C:Cx}{l:List (Nat×Value)}{H:List (Nat×Res)}{d:Nat}{op:Op}{T:TypeId}{pos:String}{af:Array Edge}
def AL.q (bs es:List Nat)(L:List Hint)(ks:List Nat)(cs:List Prop)(nl:List (Nat×Value))(O:conj cs)(h:AL r P ops Q (lst.drop L.length) C (cat nl l) H)
  (hq:((qs P ⟨knb H bs,kne H es⟩ C.n ops L lst (q0 l)).bind (qfin l ks))=some (cs,nl):=by kernel_rfl)
  (V:(qs P ⟨knb H bs,kne H es⟩ C.n ops L lst (q0 l)).map (λs=>s.q.map Prod.fst)=(qs P ⟨knb H bs,kne H es⟩ C.n ops L lst (q0 l)).map (λs=>s.q.map Prod.snd):=by kernel_rfl):AL r P ops Q lst C l H:=λa w W N=>
 Z.qr L ks cs nl (o_cj N bs es) W (λa' hf'=>h a' w hf' N) O hq V
def AL.val {v:Value}(O:Nat.ble (d+1) C.n=true)(V: ∀a w,Fr a C.n C.ds l->Hp C H w->(execOp a.eval ⟨some d,op,T,pos,af,none⟩).run P w=.ok (.value v) w)(h:AL r P ops Q rest C ((d,v)::l) H):AL r P ops Q (⟨some d,op,T,pos,af,none⟩::rest) C l H:=
 λa w L N=>Z.val L O (V a w L N) λa' hf'=>h a' w hf' N
def AL.on {dst:Option Tmp}{j dj:Nat}{b:Bool}(N:(ops[j]?).bind (·.dst)=some dj)(O:lk l dj=some (.bool b))(h:AL r P ops Q (⟨dst,op,T,pos,af,none⟩::rest) C l H):AL r P ops Q (⟨dst,op,T,pos,af,some (j,b)⟩::rest) C l H:=
 λa w L V=>Z.on L N O (h a w L V)
def AL.cnd {ρ:Type}{A B R:Option ρ}{j:Nat}{b:Bool}(O:lk l j=some (.bool b))(L:(if b=true then A else B)=R)(W:A=R->AL r P ops Q rest C ((j,.bool true)::l) H)(he:B=R->AL r P ops Q rest C ((j,.bool false)::l) H):AL r P ops Q rest C l H:=λa w N V=>by
 cases b with
 |true=>rw[Qc rfl]at L;exact W L a w (N.cons N O) V
 |false=>rw[Qb (by simp)]at L;exact he L a w (N.cons N O) V
def AL.cnp {ρ:Type}{A B R:Option ρ}{j:Nat}{p:Prop}[Decidable p](O:lk l j=some (.bool (decide p)))(L:(if p then A else B)=R)(W:p->A=R->AL r P ops Q rest C ((j,.bool true)::l) H)(he: ¬p->B=R->AL r P ops Q rest C ((j,.bool false)::l) H):AL r P ops Q rest C l H:=λa w N V=>by
 by_cases hp:p;rw[Qc hp]at L;exact W hp L a w (N.cons N (by rw[O,Wc hp])) V;rw[Qb hp]at L;exact he hp L a w (N.cons N (by rw[O,Wk hp])) V
def Qdb {K K':Lf->Prop}: ∀{n:Nat},(∀ps,K ps->K' ps)->tele n K->tele n K'
 |0,h,hk=>h [] hk
 |n+1,h,hk=>λA c=>Qdb (λps=>h ((A,c)::ps)) (hk A c)
def AL.ixc {t:Ty}{A:Option Addr}{c kn:Nat}{xs:List t.den}{ko:Option Nat}{x y:Operand}{i:Int}{kd:IntKind}{v:t.den}{e tt:TypeId}
  (hrow: ∀w,Hp C H w->∃G:Nat->Prop,Row t w (Fh C H) G A c xs/\∀b,G b->match ko with|none=>∀k,¬Bk H k b|some k=>Bk H k b)
  (hko: ∀j,ko=some j->∀r,hk H j=some r->r.ref=none) (hx:ev l x=some (.slice A xs.length c)) (hy:ev l y=some (.int kd i)) (hi:ix xs i=some v) (ht:P.underlying tt=some (.slice e)) (hs:szB P e=some t.size)
  (h:t.ok v->tele (lv t) λps=>∀b o,(∃w,Hp C H w/\A=some ⟨b,o,none⟩)->AL r P ops Q rest C ((d,.pointer (some ⟨b,o+i.toNat*t.size,none⟩))::l) (hcat (kx (kn+1) (rs t v ps)) ((kn,.el ko b (o+i.toNat*t.size) (cl t v ps))::H)))
  (hd:Nat.ble (d+1) C.n=true) (hn: ∀ps:Lf,ps.length=lv t->nok H kn (1+(rs t v ps).length)=true):AL r P ops Q (⟨some d,.indexAddr tt x y,T,pos,af,none⟩::rest) C l H:=λa w hf hh=>by
 obtain⟨k,rfl,hv⟩:=Qaq hi;obtain⟨G,hR,hG⟩:=hrow w hh;obtain⟨b,o,es,hA,hb,hbl,hc,W⟩:=hR.at hv;obtain⟨ps,hl,rfl,hrs⟩:=rep_cl (B:=Bk H) t (Qaf t W);have hlt:=(Qd.1 hv).1;have hn':=hn ps hl;have O:hk H kn=none:=Qbh hn' (Q4 _) (by omega);have h1:Hp C ((kn,.el ko b (o+k*t.size) (cl t v ps))::H) w:=hh.add O rfl (λj L r W=>hko j L r W) ⟨hc,hbl,by
  have:=hG b hb;cases ko<;>exact this⟩
 have hnn: ∀n k',nok H k' n=true->(∀j,k'<=j->j<k'+n->j≠kn)->nok ((kn,.el ko b (o+k*t.size) (cl t v ps))::H) k' n=true:=by
  intro n;induction n with
  |zero=>intro _ _ _;rfl
  |succ n ih=>
   intro k' V h3;simp only[nok,Qp]at V ⊢;refine⟨?_,ih (k'+1) V.2 λj h4 h5=>h3 j (by omega) (by omega)⟩;rw[Qaa,Qb (Ne.symm (h3 k' (Q4 _) (by omega)))];exact V.1
 have hn2:nok H (kn+1) (rs t v ps).length=true:=by
  rw[Yg 1]at hn';simp only[nok,Qp]at hn';exact hn'.2
 have V:Hp C (hcat (kx (kn+1) (rs t v ps)) ((kn,.el ko b (o+k*t.size) (cl t v ps))::H)) w:=by
  refine h1.adds (hnn _ _ hn2 λj h4 _=>by omega) λr2 h4=>?_;obtain⟨h5,h6,h7⟩:=hrs r2 h4;have N: ∀j b',Bk ((kn,.el ko b (o+k*t.size) (cl t v ps))::H) j b'↔Bk H j b':=λj b'=>by
   by_cases L:j=kn;subst L;rw[Bk.cons_eq];exact⟨λh=>by simp[Res.bl]at h,λ⟨_,h8,_⟩=>by rw[O]at h8;cases h8⟩;exact Bk.cons_ne L
  exact⟨h6,h7,Res.to h5 (S:=[]) (Ch.refl w) (λb' hF _=>⟨by simp,⟨λj L=>hF.1.1 j ((N j b').1 L),hF.1.2⟩,hF.2⟩) (λb' hB _=>⟨by simp,λj L=>hB j ((N j b').1 L)⟩) (λi b' _ hB=>⟨by simp,(N i b').2 hB⟩) (by simp)⟩
 subst hA;refine Z.val (v:=.pointer (some ⟨b,o+k*t.size,none⟩)) hf hd ?_ λa' hf'=>Qba (h (rep_ok t W)) ps hl b o ⟨w,hh,rfl⟩ a' w hf' V;have:=r_indexAddrA (P:=P) (w:=w) (d:=some d) (T:=T) (pos:=pos) (af:=af) (gd:=none) ht (Qah hs) (hf.eval hx) rfl (hf.eval hy) rfl hlt;rw[Addr.add_lit]at this;exact this
def Qcu: ∀(t:Ty) (v:t.den) (ps:Lf),ps.length=lv t->(rs t v ps).length=lv t
 | .int _,_,_,_=>rfl
 | .byte,_,_,_=>rfl
 | .bool,_,_,_=>rfl
 | .str,_,_,_=>rfl
 | .slice _,_,[p],_=>rfl
 | .slice _,_,[],h=>by cases h
 | .slice _,_,_::_::_,h=>by simp[lv]at h
 | .pair a b,v,ps,h=>by
  simp only[rs,Qe];simp only[lv]at h;rw[Qcu a v.1 _ (by rw[Qo];omega),Qcu b v.2 _ (by rw[Qu];omega)];rfl
def rowS {k:Nat}{t:Ty}{A:Option Addr}{c:Nat}{xs:List t.den}(h:hk H k=some (.sh (.slice t) [.slice A xs.length c] xs))(w:World)(L:Hp C H w): ∃G:Nat->Prop,Row t w (Fh C H) G A c xs/\∀b,G b->∀k,¬Bk H k b:=
 ⟨Fh C H,Row.of (L.hold k _ h),λ_ N=>N.1⟩
def rowL {k:Nat}{t:Ty}{A:Option Addr}{c:Nat}{xs:List t.den}(h:hk H k=some (.ln t A c xs))(w:World)(L:Hp C H w): ∃G:Nat->Prop,Row t w (Fh C H) G A c xs/\∀b,G b->∀k,¬Bk H k b:=
 ⟨_,L.hold k _ h,λ_ N=>N⟩
def rowO {k:Nat}{t:Ty}{e:TypeId}{A:Option Addr}{c:Nat}{xs:List t.den}(h:hk H k=some (.own t e A c xs))(w:World)(L:Hp C H w): ∃G:Nat->Prop,Row t w (Fh C H) G A c xs/\∀b,G b->Bk H k b:=
 ⟨λb=>b∈obl A,Row.own (L.hold k _ h) λ_ h=>h,λ_ N=>⟨_,h,N⟩⟩
def AL.ixs (k kn:Nat){t:Ty}{A:Option Addr}{c:Nat}{xs:List t.den}{x y:Operand}{i:Int}{kd:IntKind}{v:t.den}{e tt:TypeId}(N:ix xs i=some v)
  (h:t.ok v->tele (lv t) λps=>∀b o,AL r P ops Q rest C ((d,.pointer (some ⟨b,o,none⟩))::l) (hcat (kx (kn+1) (rs t v ps)) ((kn,.el none b o (cl t v ps))::H)))
  (L:hk H k=some (.sh (.slice t) [.slice A xs.length c] xs):=by rfl) (O:ev l x=some (.slice A xs.length c):=by rfl) (V:ev l y=some (.int kd i):=by rfl) (W:P.underlying tt=some (.slice e):=by rfl) (hs:szB P e=some t.size:=by kernel_rfl)
  (hd:Nat.ble (d+1) C.n=true:=by rfl) (hn:nok H kn (1+lv t)=true:=by kernel_rfl):AL r P ops Q (⟨some d,.indexAddr tt x y,T,pos,af,none⟩::rest) C l H:=
 AL.ixc (ko:=none) (rowS L) (λ_ h=>by cases h) O V N W hs (λho=>Qdb (λps h b o _=>h b _) (h ho)) hd λps hl=>by rw[Qcu t v ps hl];exact hn
def AL.ixl (k kn:Nat){t:Ty}{A:Option Addr}{c:Nat}{xs:List t.den}{x y:Operand}{i:Int}{kd:IntKind}{v:t.den}{e tt:TypeId}(N:ix xs i=some v)
  (h:t.ok v->tele (lv t) λps=>∀b o,AL r P ops Q rest C ((d,.pointer (some ⟨b,o,none⟩))::l) (hcat (kx (kn+1) (rs t v ps)) ((kn,.el none b o (cl t v ps))::H)))
  (L:hk H k=some (.ln t A c xs):=by rfl) (O:ev l x=some (.slice A xs.length c):=by rfl) (V:ev l y=some (.int kd i):=by rfl) (W:P.underlying tt=some (.slice e):=by rfl) (hs:szB P e=some t.size:=by kernel_rfl)
  (hd:Nat.ble (d+1) C.n=true:=by rfl) (hn:nok H kn (1+lv t)=true:=by kernel_rfl):AL r P ops Q (⟨some d,.indexAddr tt x y,T,pos,af,none⟩::rest) C l H:=
 AL.ixc (ko:=none) (rowL L) (λ_ h=>by cases h) O V N W hs (λho=>Qdb (λps h b o _=>h b _) (h ho)) hd λps hl=>by rw[Qcu t v ps hl];exact hn
def AL.ixo (k kn:Nat){t:Ty}{e':TypeId}{A:Option Addr}{c:Nat}{xs:List t.den}{x y:Operand}{i:Int}{kd:IntKind}{v:t.den}{e tt:TypeId}(W:ix xs i=some v)
  (h:t.ok v->tele (lv t) λps=>∀g,A=some ⟨g,0,none⟩->AL r P ops Q rest C ((d,.pointer (some ⟨g,i.toNat*t.size,none⟩))::l) (hcat (kx (kn+1) (rs t v ps)) ((kn,.el (some k) g (i.toNat*t.size) (cl t v ps))::H)))
  (L:hk H k=some (.own t e' A c xs):=by rfl) (hx:ev l x=some (.slice A xs.length c):=by rfl) (hy:ev l y=some (.int kd i):=by rfl) (ht:P.underlying tt=some (.slice e):=by rfl) (hs:szB P e=some t.size:=by kernel_rfl)
  (hd:Nat.ble (d+1) C.n=true:=by rfl) (hn:nok H kn (1+lv t)=true:=by kernel_rfl):AL r P ops Q (⟨some d,.indexAddr tt x y,T,pos,af,none⟩::rest) C l H:=
 AL.ixc (ko:=some k) (rowO L) (λj h r N=>by injection h with h;subst h;rw[L]at N;injection N with N;subst N;rfl) hx hy W ht hs (λho=>Qdb (λps h b o ⟨w,hh,O⟩=>by
  obtain⟨cells,hrow,_⟩:Own t e' 0 w (Fh C H) A c xs:=hh.hold k _ L;rcases hrow.2 with⟨V,_⟩|⟨g,cap,cur,V,_⟩
  injection V with hA' _ _;rw[O]at hA';cases hA'
  injection V with hA' _ _;rw[O]at hA';injection hA' with hA';injection hA' with h1 h2 _;subst h2;have:=h b O;simpa using this) (h ho)) hd λps hl=>by rw[Qcu t v ps hl];exact hn
def AL.box (k:Nat){e:TypeId}{x:Operand}{v:Value}{cs:List Value}(h: ∀g,AL r P ops Q rest C ((d,.pointer (some ⟨g,0,none⟩))::l) ((k,.blk g e cs)::H))
  (N:ev l x=some v:=by rfl) (O:v.cells=cs.toArray:=by rfl) (V:Nat.ble (d+1) C.n=true:=by rfl) (W:hk H k=none:=by kernel_rfl):AL r P ops Q (⟨some d,.box e x,T,pos,af,none⟩::rest) C l H:=λa w hf hh=>
 Z.st_box hf V N O λg w' a' hg hs hb L hf'=>h g a' w' hf' (hh.new W L (λb hb'=>by simp only[Res.bl,Qk]at hb';omega) (λj hj=>by cases hj) λ_ _ _ _ _=>hb)
def AL.alloc (k:Nat){e:TypeId}{z:Value}{cs:List Value}(N: ∀w,(zeroValue e).run P w=.ok z w)(h: ∀g,AL r P ops Q rest C ((d,.pointer (some ⟨g,0,none⟩))::l) ((k,.blk g e cs)::H))
  (O:z.cells=cs.toArray:=by rfl) (V:Nat.ble (d+1) C.n=true:=by rfl) (W:hk H k=none:=by kernel_rfl):AL r P ops Q (⟨some d,.alloc e,T,pos,af,none⟩::rest) C l H:=λa w hf hh=>
 Z.st_alloc hf V N O λg w' a' hg hs hb L hf'=>h g a' w' hf' (hh.new W L (λb hb'=>by simp only[Res.bl,Qk]at hb';omega) (λj hj=>by cases hj) λ_ _ _ _ _=>hb)
def AL.store (k:Nat)(js:List Nat){t bt:TypeId}{x y:Operand}{g o m:Nat}{cs new cs':List Value}{v:Value}(h:AL r P ops Q rest C l ((k,.blk g bt cs')::ded js H))
  (N:hk H k=some (.blk g bt cs):=by rfl) (hx:ev l x=some (.pointer (some ⟨g,o,none⟩)):=by rfl) (hy:ev l y=some v:=by rfl) (hS:szB P t=some m:=by kernel_rfl)
  (hv:v.cells=new.toArray:=by rfl) (hm:new.length=m:=by rfl) (ho:Nat.ble (o+m) cs.length=true:=by rfl) (h1:new.all (λu=>u.oneCell')=true:=by rfl) (hc:cs.take o++new++cs.drop (o+m)=cs':=by rfl) (O:hng [k] js H=true:=by kernel_rfl):
  AL r P ops Q (⟨none,.store t x y,T,pos,af,none⟩::rest) C l H:=λa w hf W=>
 Z.st_store hf (W.hold k _ N) hx hy (Qah hS) hv hm ho (λu hu=>Wv.1 h1 u hu) hc λw' a' hs hb' V hf'=>
  h a' w' hf' (Hp.dd (W.upd V (λb L=>⟨_,N,L⟩) (λb L=>.inl ⟨_,N,L⟩) (λj O=>by cases O) λ_ _ _ _ _ _ _=>hb') O)
def Dat (H:List (Nat×Res)):(t:Ty)->List Value->t.den->Prop
 | .int k,cs,x=>cs=[.int k x]/\k.has x
 | .byte,cs,x=>cs=[.int .u8 (x.toNat:Int)]
 | .bool,cs,x=>cs=[.bool x]
 | .str,cs,x=>cs=[.string x]/\x.size<=maxLen
 | .slice e,cs,xs=>(∃k,hk H k=some (.sh (.slice e) cs xs))\/(cs=[.slice none 0 0]/\xs=[])
 | .pair a b,cs,x=>Dat H a (cs.take a.size) x.1/\Dat H b (cs.drop a.size) x.2
def Dat.rep {w:World}(L:Hp C H w): ∀(t:Ty) {cs:List Value} {x:t.den},Dat H t cs x->t.rep w (Fh C H) cs x
 | .int _,_,_,h=>h
 | .byte,_,_,h=>h
 | .bool,_,_,h=>h
 | .str,_,_,h=>h
 | .slice e,cs,xs,h=>by
  rcases h with⟨k,h⟩|⟨N,O⟩
  exact L.hold k _ h;subst N;subst O;exact rep_nil e
 | .pair a b,cs,x,h=>⟨_,_,(Xu a.size cs).symm,Dat.rep L a h.1,Dat.rep L b h.2⟩
def Dats (H:List (Nat×Res))(t:Ty):List Value->List t.den->Prop
 |cs,[]=>cs=[]
 |cs,x::xs=>Dat H t (cs.take t.size) x/\Dats H t (cs.drop t.size) xs
def Dats.all {w:World}(O:Hp C H w){t:Ty}: ∀{cs:List Value} {xs:List t.den},Dats H t cs xs->cs.length=xs.length*t.size/\(∀u∈cs,u.oneCell'=true)/\∀(i:Nat) (x:t.den),xs[i]?=some x->t.rep w (Fh C H) ((cs.drop (i*t.size)).take t.size) x
 |cs,[],h=>by
  have h:cs=[]:=h;subst h;exact⟨by simp,by simp,λi x L=>by simp at L⟩
 |cs,x::xs,h=>by
  obtain⟨h1,h2⟩:=h;obtain⟨V,h4,h5⟩:=Dats.all O h2;have N:=Dat.rep O t h1;have hl:=Qhw t N;rw[Qo]at hl;rw[Qu]at V;have hlen:cs.length=(xs.length+1)*t.size:=by rw[Nat.succ_mul,<-V];omega
  refine⟨hlen,λu W=>?_,λi y L=>?_⟩;rw[<-Xu t.size cs,Qx]at W;exact W.elim (Qdh t N u) (h4 u);cases i with
  |zero=>
   simp only[Xa,Qr]at L;subst L;rw[Nat.zero_mul,Wu];exact N
  |succ i=>
   rw[W7]at L;have:=h5 i y L;rw[Xi]at this;rw[Nat.succ_mul,Yg];exact this
def AL.bsl (k:Nat){ty:Ty}{t e:TypeId}{len sz:Nat}{z:Value}{parts:List (Nat×Operand)}{vs:List (Nat×Value)}{cs:List Value}(xs:List ty.den)(hD:Dats H ty cs xs)
  (h: ∀g,AL r P ops Q rest C ((d,.slice (some ⟨g,0,none⟩) len len)::l) ((k,.own ty e (some ⟨g,0,none⟩) len xs)::H))
  (hz: ∀w,(zeroValue e).run P w=.ok z w) (hS: ∀w,(sizeOf e).run P w=.ok sz w) (N:xs.length=len:=by rfl) (O:ty.size=sz:=by rfl)
  (hp:evp l parts=some vs:=by rfl) (ht:P.underlying t=some (.slice e):=by rfl) (W:Nat.ble (len*sz) 16777216=true:=by rfl) (h0:Nat.ble 1 (len*sz)=true:=by rfl)
  (hc:Instr.fill (λi=>some (i*sz,sz)) ((Array.range (len*sz)).map (z.cells[· %z.cells.size]!)) vs=some cs.toArray:=by kernel_rfl)
  (hd:Nat.ble (d+1) C.n=true:=by rfl) (hn:hk H k=none:=by kernel_rfl):AL r P ops Q (⟨some d,.buildSlice t len parts.toArray,T,pos,af,none⟩::rest) C l H:=λa w hf hh=>by
 subst N;subst O;refine Z.st_bslice hf hd ht hS hz hp W h0 hc λg w' a' hg hs' V L hf'=>h g a' w' hf' (hh.new hn L (λb hb'=>?_) (λj hj=>by cases hj) λF B h1 _ _=>?_);simp only[Res.bl,obl,Qk]at hb';omega;obtain⟨d1,d2,d3⟩:=Dats.all hh hD;refine Own.made (B:=0) V (X7 _) d1 ?_ d2 λi x hi=>rep_to (d3 i x hi) L λb V N=>⟨by simp,h1 b V N⟩;have:=Qq W;have h2:xs.length<=xs.length*ty.size:=Yv _ (Qal ty);simp only[maxLen];omega
def AL.bs0 (k:Nat)(ty:Ty){t e:TypeId}(h: ∀g,AL r P ops Q rest C ((d,.slice (some ⟨g,0,none⟩) 0 0)::l) ((k,.own ty e (some ⟨g,0,none⟩) 0 [])::H))
  (N: ∀w,(sizeOf e).run P w=.ok ty.size w) (O:P.underlying t=some (.slice e):=by rfl) (V:Nat.ble (d+1) C.n=true:=by rfl) (W:hk H k=none:=by kernel_rfl):AL r P ops Q (⟨some d,.buildSlice t 0 #[],T,pos,af,none⟩::rest) C l H:=λa w hf hh=>
 Z.st_bslice0 hf V O N λg w' a' hg hs' hb L hf'=>h g a' w' hf' (hh.new W L (λb hb'=>by simp only[Res.bl,obl,Qk]at hb';omega) (λj hj=>by cases hj) λF B h1 _ _=>Own.made (t:=ty) (xs:=[]) (B:=0) hb (X7 _) (by simp) (by simp[maxLen]) (by simp) (λi x hi=>by simp at hi))
def Hp.frz {w:World}(N:Hp C H w){k:Nat}{t:Ty}{e:TypeId}{A:Option Addr}{c:Nat}{xs:List t.den}(h:hk H k=some (.own t e A c xs)):Hp C ((k,.sh (.slice t) [.slice A xs.length c] xs)::drp k H) w:=
 N.upd (S:=[]) (Ch.refl w) (by simp) (by simp[Res.bl]) (λj O=>by cases O) λF B V W _ _ _=>by
  have hO:Own t e 0 w (Fh C H) A c xs:=N.hold k _ h;obtain⟨cells,hr,o1,o2⟩:=hO;have hO':Own t e 0 w F A c xs:=⟨cells,hr,o1,λi x hi=>rep_as (o2 i x hi) λb L hl=>V b L hl⟩;exact hO'.rep (λ_ h=>h) λb L=>W b ⟨_,h,L⟩ (by simp[Res.bl])
end
def Row.cells {t:Ty}{w:World}{F G:Nat->Prop}{A:Option Addr}{c:Nat}{xs:List t.den}(h:Row t w F G A c xs): ∃cells:List Value,cells.length=xs.length*t.size/\(∀u∈cells,u.oneCell'=true)/\(xs.length=0\/∃ad,A=some ad/\∀j u,cells[j]?=some u->w.cell? (ad.add j)=some u)/\
  ∀(i:Nat) (x:t.den),xs[i]?=some x->t.rep w F ((cells.drop (i*t.size)).take t.size) x:=by
 obtain⟨h2,h3,cells,O,L,h6⟩:=h;refine⟨cells,O,λu N=>?_,?_,h6⟩;obtain⟨j,V,rfl⟩:=X6 N;have W:=Qal t;have hi:j / t.size<xs.length:=Nat.div_lt_of_lt_mul (by rw[Y9,<-O];exact V);have hr:=h6 (j / t.size) _ (Qf hi);refine Qdh t hr _ (Qg (i:=j%t.size) ?_);rw[Q2 (Nat.mod_lt _ W),Wl,Y9,Nat.div_add_mod];exact Qf V;rcases L with L|⟨b,o,rfl,hb,hcell⟩
 exact .inl L;exact .inr ⟨_,rfl,λj u N=>by rw[Addr.add_lit];exact hcell j u N⟩
section
variable {P:Program}{t:Ty}{e:TypeId}{B:Nat}{w:World}{F G:Nat->Prop}{A:Option Addr}{c:Nat}{xs:List t.den}
def run_appendR {tt ty:TypeId}{i:TypeInfo}{z:Value}{bytes:Nat}(ht:P.underlying tt=some (.slice e))(L:P.info? e=some i)(hz:i.zero=some z)(hsize:i.size=t.size)(hby:i.bytes=bytes)
  (hzs:z.cells.size=t.size) (hown:Own t e B w F A c xs) {A2:Option Addr} {c2:Nat} {ys:List t.den} (hr:Row t w F G A2 c2 ys) (h63:(xs.length+ys.length)*bytes<=140737488355328)
  (hbp:0<bytes) (hA: ∀b,F b->b∉obl A) (hB:B<=w.heap.size):
  ∃A' c' w',(Builtin.append_ #[tt,tt] ty #[.slice A xs.length c,.slice A2 ys.length c2]).run P w=.ok (.slice A' (xs.length+ys.length) c') w'/\Own t e B w' F A' c' (xs++ys)/\Ch (obl A) w w'/\
   (∀k,k∈obl A'->k∈obl A\/k=w.heap.size):=by
 obtain⟨cells,hrow,h1,h2⟩:=hown;obtain⟨news,hnl,W,N,hn3⟩:=hr.cells;have hsz:=Qal t;have hbig:xs.length+ys.length<=maxLen:=by
  have:xs.length+ys.length<=(xs.length+ys.length)*bytes:=Yv _ hbp;simp only[maxLen];omega
 by_cases hz2:ys.length=0;have hy:ys=[]:=Qz hz2;subst hy;have hrun:(Builtin.append_ #[tt,tt] ty #[.slice A xs.length c,.slice A2 0 c2]).run P w=.ok (.slice A xs.length c) w:=by
  rcases hrow.2 with⟨O,hn⟩|⟨g,cap,cur,O,_,_,hnc,_⟩
  injection O with hA' hn' hc
  subst hA';subst hc;cases A2<;>simp[Builtin.append_,run_underlying ht,sizeOf,typeInfo,L,Builtin.lenOf,Builtin.firstCells,hn,loadCells,loadCellsFrom];injection O with hA' hn' hc
  subst hA';subst hc;cases A2<;>simp[Builtin.append_,run_underlying ht,sizeOf,typeInfo,L,Builtin.lenOf,Builtin.firstCells,hnc,storeCells,loadCells,loadCellsFrom]
 refine⟨A,c,w,by simpa using hrun,⟨cells,by simpa using hrow,h1,by simpa using h2⟩,Ch.refl' _ _,λk hk=>.inl hk⟩;rcases N with N|⟨ad,rfl,hcell⟩
 exact absurd N hz2;obtain⟨v',w',hrun,h3,h4,_,h5⟩:=run_append_own_at (P:=P) w B tt ty e i z t.size bytes ht L hz hsize hby hzs hsz _ xs.length cells hrow ad ys.length c2 news hnl hcell W hbig h63 hB;have hform: ∃A' c',v'=.slice A' (xs.length+ys.length) c':=by
  rcases h3.2 with⟨O,hn⟩|⟨g,cap,cur,O,_⟩
  exact⟨none,0,by rw[O,show xs.length+ys.length=0 from by omega]⟩;exact⟨_,_,O⟩
 obtain⟨A',c',rfl⟩:=hform;have V:Ch (obl A) w w':=by have:=Ch.of_grown h4;rwa[ownBlock_slice]at this
 refine⟨A',c',w',hrun,⟨cells++news,?_,?_,?_⟩,V,λk hk=>?_⟩;rw[Qe];exact h3;intro u hu;rcases Qx.1 hu with hu|hu
 exact h1 u hu;exact W u hu;exact Qbj hrow.1 (λi x L=>Qgp V hA t (h2 i x L)) (λi x L=>Qgp V hA t (hn3 i x L));rcases h5 with h5|h5
 left;have:obl A'=obl A:=by rw[<-ownBlock_slice A' (xs.length+ys.length) c',h5,ownBlock_slice]
 rwa[<-this];right;have:obl A'=[w.heap.size]:=by rw[<-ownBlock_slice A' (xs.length+ys.length) c',h5];rfl
 rw[this]at hk;simpa using hk
def Own.take (h:Own t e B w F A c xs){k:Nat}(hk:k<=xs.length):Own t e B w F A c (xs.take k):=by
 obtain⟨cells,hr,h1,h2⟩:=h;have N:(xs.take k).length=k:=by rw[Qo];omega
 have hmul:k*t.size<=xs.length*t.size:=Ww _ hk;refine⟨cells.take (k*t.size),⟨by rw[Qo,hr.1,N];omega,?_⟩,λu hu=>h1 u (List.mem_of_mem_take hu),λi x hi=>?_⟩;rcases hr.2 with⟨O,hn⟩|⟨g,cap,cur,O,hb,hg,hnc,V,W,htake⟩
 left;injection O with hA' _ hc
 subst hA';subst hc;exact⟨by rw[N];congr 1;omega,by omega⟩;right;injection O with hA' _ hc
 subst hA';subst hc;refine⟨g,c,cur,rfl,hb,hg,by omega,V,W,?_⟩;rw[N,<-htake,List.take_take,X4 hmul];have L:i<k:=by
  have:=(Qd.1 hi).1;omega
 have hx:xs[i]?=some x:=by rwa[Q2 L]at hi
 have:=h2 i x hx;have hm:(i+1)*t.size<=k*t.size:=Ww _ L;rw[Yk,Yu]at hm;rw[Yy,List.take_take,X4 (by omega)];exact this
end
section
variable {r:Option Nat}{P:Program}{ops:Array Oper}{Q:Exit->Act->World->Prop}{rest lst:List Oper}{C:Cx}{l:List (Nat×Value)}{H:List (Nat×Res)}{d:Nat}{op:Op}{T:TypeId}{pos:String}{af:Array Edge}
def AL.app {k:Nat}(js:List Nat){t:Ty}{tt e:TypeId}{x y:Operand}{i:TypeInfo}{z:Value}{bytes m n1 n2:Nat}{A A2:Option Addr}{c c2:Nat}{xs ys:List t.den}{kp':(Nat->Prop)->Prop}(hrow: ∀w,Hp C H w->∃G:Nat->Prop,Row t w (Fh C H) G A2 c2 ys/\kp' G)
  (hinf:P.info? e=some i/\i.zero=some z/\i.size=m/\i.bytes=bytes/\z.cells.size=m) (hl:(xs.length+ys.length)*bytes<=140737488355328)
  (h: ∀A' c',AL r P ops Q rest C ((d,.slice A' (xs++ys).length c')::l) ((k,.own t e A' c' (xs++ys))::ded js H))
  (N:hk H k=some (.own t e A c xs):=by rfl) (hx:ev l x=some (.slice A n1 c):=by rfl) (hy:ev l y=some (.slice A2 n2 c2):=by rfl) (hn1:n1=xs.length:=by rfl) (hn2:n2=ys.length:=by rfl) (hm:m=t.size:=by rfl) (V:Nat.ble 1 bytes=true:=by rfl)
  (ht:P.underlying tt=some (.slice e):=by rfl) (hd:Nat.ble (d+1) C.n=true:=by rfl) (hj:hng [k] js H=true:=by kernel_rfl):AL r P ops Q (⟨some d,.call {callee:=.builtin .append,args:=#[x,y],argTypes:=#[tt,tt]},T,pos,af,none⟩::rest) C l H:=λa w hf hh=>by
 subst hn1;subst hn2;subst hm;obtain⟨O,hz,hsize,W,hzs⟩:=hinf;obtain⟨G,hR,_⟩:=hrow w hh;have hO:Own t e 0 w (Fh C H) A c xs:=hh.hold k _ N;obtain⟨A',c',w',hrun,h1,h2,h3⟩:=run_appendR (P:=P) (ty:=T) ht O hz hsize W hzs hO hR hl (Qq V) (λb L hbA=>L.1 k ⟨_,N,hbA⟩) (X7 _);refine Z.valw (w':=w') (v:=.slice A' (xs++ys).length c') hf hd ?_ λa' hf'=>h A' c' a' w' hf' (Hp.dd (hh.upd h2 (λb L=>⟨_,N,L⟩) (λb L=>?_) (λj hj=>by cases hj) λF B hF _ _ _ hB=>?_) hj);rw[Qe];simp only[execOp,resolve,invoke,builtin,Sem.run_bind,Sem.run_pure,Result.andThen_ok,Xg,Q7,Xh,hf.eval hx,hf.eval hy,hrun];rcases h3 b L with h4|h4
 exact .inl ⟨_,N,h4⟩;exact .inr ⟨by omega,(h1.lt b L).2⟩;obtain⟨cells,o1,o2,o3⟩:=h1;obtain⟨cells0,p1,p2,p3⟩:=hO;obtain⟨cells2,q1,q2,q3,q4⟩:=hR.cells;have hFo: ∀b,Fh C H b->b∉obl A:=λb L hbA=>L.1 k ⟨_,N,hbA⟩;have h1':Own t e 0 w' (Fh C H) A' c' (xs++ys):=⟨cells,o1,o2,o3⟩;have hOi:Own t e 0 w (λb=>Fh C H b/\b<w.heap.size) A c xs:=⟨cells0,p1,p2,λi x O=>Qaf t (p3 i x O)⟩;have hRi:Row t w (λb=>Fh C H b/\b<w.heap.size) (λ_=>True) A2 c2 ys:=by
  obtain⟨r1,r2,cs,r3,r4,r5⟩:=hR;refine⟨r1,r2,cs,r3,?_,λi x O=>Qaf t (r5 i x O)⟩;rcases r4 with r4|⟨b,o,r4,_,r6⟩
  exact .inl r4;exact .inr ⟨b,o,r4,trivial,r6⟩
 obtain⟨A3,c3,w3,hrun3,h13,h23,_⟩:=run_appendR (P:=P) (ty:=T) ht O hz hsize W hzs hOi hRi hl (Qq V) (λb L=>hFo b L.1) (X7 _);rw[hrun]at hrun3;injection hrun3 with e1 e2
 injection e1 with e1 _ e3
 subst e1;subst e2;subst e3;exact h13.more λb L=>hF b L.1 L.2
def AL.mks (k:Nat){t:Ty}{tt e:TypeId}{x y:Operand}{i:TypeInfo}{z:Value}{bytes m u:Nat}{k1 k2:IntKind}{p q:Int}(z0:t.den)(hu:bytes*u<=140737488355328)(hinf:P.info? e=some i/\i.zero=some z/\i.size=m/\i.bytes=bytes/\z.cells.size=m)
  (h: ∀g,AL r P ops Q rest C ((d,.slice (some ⟨g,0,none⟩) u u)::l) ((k,.own t e (some ⟨g,0,none⟩) u (List.replicate u z0))::H))
  (hx:ev l x=some (.int k1 p)) (hy:ev l y=some (.int k2 q)) (hp:p=(u:Int)) (hq:q=(u:Int)) (O:Dat [] t [z] z0) (V:Nat.ble 1 bytes=true:=by rfl) (hm:m=1:=by rfl) (W:z.cells=#[z]:=by rfl) (hts:t.size=1:=by rfl) (h1:z.oneCell'=true:=by rfl)
  (ht:P.underlying tt=some (.slice e):=by rfl) (hd:Nat.ble (d+1) C.n=true:=by rfl) (hn:hk H k=none:=by kernel_rfl):AL r P ops Q (⟨some d,.makeSlice tt x y,T,pos,af,none⟩::rest) C l H:=λa w hf hh=>by
 subst hm;obtain⟨hi,hz,hsize,hby,hzs⟩:=hinf;have hz1:t.rep w no [z] z0:=by
  have:Hp (Cx.mk 0 [] w [] no) [] w:=⟨Ch.refl w,λk r h=>(by cases h),λk b ⟨_,h,_⟩=>(by cases h),λk k' b ⟨_,h,_⟩=>(by cases h),λk r j h=>(by cases h)⟩;have h2:=Dat.rep this t O;refine rep_as (Qaf t h2) λb L hl=>?_;rcases L.1.2 with N|N|N
  exact N;have h4:=L.2;have N:w.heap.size<=b:=N;omega;cases N
 refine Z.st_makeSlice hf hd ht hi hz hsize hby W hts hx hy hp hq hu ?_ z0 hz1 h1 λg w' a' hg hs hO hch hf'=>h g a' w' hf' (hh.new hn hch (λb L=>?_) (λj hj=>by cases hj) λF B _ _ _=>?_);have:=Qq V;have h2:u<=bytes*u:=Nat.le_mul_of_pos_left _ this;simp only[maxLen];omega;simp only[Res.bl,obl,Qk]at L;omega;exact(hO.base (X7 _)).more λ_ L=>L.elim
def AL.setel (k ke:Nat)(js:List Nat){t:Ty}{e tt:TypeId}{A:Option Addr}{c g o m:Nat}{xs:List t.den}{px py:Operand}{u:Value}{new es:List Value}{i:Int}{v:t.den}(y:t.den)(V:ix xs i=some v)(hA:A=some ⟨g,0,none⟩)
  (hD:Dat H t (es.take o++new++es.drop (o+m)) y) (h:AL r P ops Q rest C l ((k,.own t e A c (xs.set i.toNat y))::ded js H))
  (L:hk H k=some (.own t e A c xs):=by rfl) (W:hk H ke=some (.el (some k) g (i.toNat*t.size) es):=by rfl) (hx:ev l px=some (.pointer (some ⟨g,i.toNat*t.size+o,none⟩)):=by rfl) (hy:ev l py=some u:=by rfl) (hS:szB P tt=some m:=by kernel_rfl)
  (hv:u.cells=new.toArray:=by rfl) (hm:new.length=m:=by rfl) (ho:Nat.ble (o+m) t.size=true:=by rfl) (h1:new.all (λu=>u.oneCell')=true:=by rfl) (hel:es.length=t.size:=by rfl) (hj:hng [k] js H=true:=by kernel_rfl):
  AL r P ops Q (⟨none,.store tt px py,T,pos,af,none⟩::rest) C l H:=λa w hf O=>by
 obtain⟨n,rfl,hn⟩:=Qaq V;have hlt:=(Qd.1 hn).1;have hO:Own t e 0 w (Fh C H) A c xs:=O.hold k _ L;have hOi:Own t e 0 w (λb=>Fh C H b/\b<w.heap.size) A c xs:=by
  obtain⟨cells0,p1,p2,p3⟩:=hO;exact⟨cells0,p1,p2,λi x V=>Qaf t (p3 i x V)⟩
 have hc:=(O.hold ke _ W).1;refine Z.st_setel (F:=λb=>Fh C H b/\b<w.heap.size) hf hOi (k:=n) (o:=o) (m:=m) hlt (Qah hS) ho hA (by rw[hx,Addr.add_lit,Addr.add_lit];simp) hy hv hm (λu hu=>Wv.1 h1 u hu) (by rw[Addr.add_lit];simpa using hc) hel (Qaf t (Dat.rep O t hD)) (λb N hbA=>N.1.1 k ⟨_,L,hbA⟩) λw' a' hch hs hO' hf'=>
  h a' w' hf' (Hp.dd (O.upd hch (λb N=>⟨_,L,N⟩) (λb N=>.inl ⟨_,L,N⟩) (λj hj=>by cases hj) λF B hF _ _ _ _=>hO'.more λb N=>hF b N.1 N.2) hj)
def AL.cut (k kn:Nat){t:Ty}{tt e:TypeId}{x lo hi:Operand}{A:Option Addr}{c:Nat}{xs:List t.den}{k1 k2:IntKind}{p q:Int}{u v:Nat}(hp:p=(u:Int))(hq:q=(v:Int))(h1:u<=v)(h2:v<=xs.length)
  (h: ∀A' c',AL r P ops Q rest C ((d,.slice A' ((xs.take v).drop u).length c')::l) ((kn,.sh (.slice t) [.slice A' ((xs.take v).drop u).length c'] ((xs.take v).drop u))::H))
  (O:hk H k=some (.sh (.slice t) [.slice A xs.length c] xs):=by rfl) (hx:ev l x=some (.slice A xs.length c):=by rfl) (V:ev l lo=some (.int k1 p):=by rfl) (W:ev l hi=some (.int k2 q):=by rfl) (hS:szB P e=some t.size:=by kernel_rfl)
  (ht:P.underlying tt=some (.slice e):=by rfl) (hd:Nat.ble (d+1) C.n=true:=by rfl) (hn:hk H kn=none:=by kernel_rfl):AL r P ops Q (⟨some d,.slice tt x (some lo) (some hi) none,T,pos,af,none⟩::rest) C l H:=λa w N hh=>by
 have hr:(Ty.slice t).rep w (Fh C H) [.slice A xs.length c] xs:=hh.hold k _ O;have hlen:=rep_slice_len hr;have hlen2:((xs.take v).drop u).length=v-u:=by rw[Qu,Qo];omega
 refine Z.val (v:=.slice (cutA A c u t.size) (v-u) (c-u)) N hd (r_slice_lh ht (Qah hS) (N.eval hx) (N.eval V) (N.eval W) hp hq h1 (by omega)) λa' hf'=>?_;have L:(Ty.slice t).rep w (Fh C H) [.slice (cutA A c u t.size) (v-u) (c-u)] ((xs.take v).drop u):=by
  refine rep_drop (Qbi hr h2) (by rw[Qo];omega) (by omega) (by omega) λhlt ad hA=>?_;rw[Qo]at hlt;unfold cutA;rw[Qb (by omega),hA];rfl
 rw[<-hlen2]at L hf';exact h _ _ a' w hf' (hh.add hn rfl (λj hj=>by cases hj) (Qaf _ L))
def AL.cuth (k kn:Nat){t:Ty}{tt e:TypeId}{x hi:Operand}{A:Option Addr}{c:Nat}{xs:List t.den}{k2:IntKind}{q:Int}{v:Nat}(hq:q=(v:Int))(h2:v<=xs.length)
  (h: ∀c',AL r P ops Q rest C ((d,.slice A (xs.take v).length c')::l) ((kn,.sh (.slice t) [.slice A (xs.take v).length c'] (xs.take v))::H))
  (N:hk H k=some (.sh (.slice t) [.slice A xs.length c] xs):=by rfl) (hx:ev l x=some (.slice A xs.length c):=by rfl) (O:ev l hi=some (.int k2 q):=by rfl) (hS:szB P e=some t.size:=by kernel_rfl)
  (ht:P.underlying tt=some (.slice e):=by rfl) (hd:Nat.ble (d+1) C.n=true:=by rfl) (hn:hk H kn=none:=by kernel_rfl):AL r P ops Q (⟨some d,.slice tt x none (some hi) none,T,pos,af,none⟩::rest) C l H:=λa w V hh=>by
 have hr:(Ty.slice t).rep w (Fh C H) [.slice A xs.length c] xs:=hh.hold k _ N;have hlen:=rep_slice_len hr;have L:(xs.take v).length=v:=by rw[Qo];omega
 refine Z.val (v:=.slice A v c) V hd (Qdf ht (Qah hS) (V.eval hx) (V.eval O) hq (by omega)) λa' hf'=>?_;have W:=Qbi hr h2;rw[<-L]at hf';have hr3:(Ty.slice t).rep w (Fh C H) [.slice A (xs.take v).length c] (xs.take v):=by rw[L];exact W
 exact h _ a' w hf' (hh.add hn rfl (λj hj=>by cases hj) (Qaf _ hr3))
def AL.cuto (k:Nat)(js:List Nat){t:Ty}{tt e e':TypeId}{x N:Operand}{A:Option Addr}{c:Nat}{xs:List t.den}{k2:IntKind}{q:Int}{v:Nat}(hq:q=(v:Int))(h2:v<=xs.length)
  (h:AL r P ops Q rest C ((d,.slice A (xs.take v).length c)::l) ((k,.own t e' A c (xs.take v))::ded js H))
  (L:hk H k=some (.own t e' A c xs):=by rfl) (hx:ev l x=some (.slice A xs.length c):=by rfl) (O:ev l N=some (.int k2 q):=by rfl) (hS:szB P e=some t.size:=by kernel_rfl)
  (ht:P.underlying tt=some (.slice e):=by rfl) (hd:Nat.ble (d+1) C.n=true:=by rfl) (V:hng [k] js H=true:=by kernel_rfl):AL r P ops Q (⟨some d,.slice tt x none (some N) none,T,pos,af,none⟩::rest) C l H:=λa w W hh=>by
 have hO:Own t e' 0 w (Fh C H) A c xs:=hh.hold k _ L;have hlen:=hO.len;have hl2:(xs.take v).length=v:=by rw[Qo];omega
 refine Z.val (v:=.slice A v c) W hd (Qdf ht (Qah hS) (W.eval hx) (W.eval O) hq (by omega)) λa' hf'=>?_;rw[<-hl2]at hf';refine h a' w hf' (Hp.dd (hh.upd (S:=[]) (Ch.refl w) (by simp) (λb hb=>.inl ⟨_,L,hb⟩) (λj V=>by cases V) λF B hF _ _ _ _=>?_) V);obtain⟨cells,o1,o2,o3⟩:=Own.take hO h2;exact⟨cells,o1,o2,λi x N=>rep_as (o3 i x N) λb hb hl=>hF b hb hl⟩
def AL.ixt {tt:TypeId}{x y:Operand}{s:ByteArray}{kd:IntKind}{i:Int}{v:UInt8}(V:ix s.data.toList i=some v)(h:AL r P ops Q rest C ((d,.int .u8 (v.toNat:Int))::l) H)
  (W:P.underlying tt=some .string:=by rfl) (hx:ev l x=some (.string s):=by rfl) (hy:ev l y=some (.int kd i):=by rfl) (hd:Nat.ble (d+1) C.n=true:=by rfl):AL r P ops Q (⟨some d,.index tt x y,T,pos,af,none⟩::rest) C l H:=by
 obtain⟨k,rfl,N⟩:=Qaq V;have L:=(Qd.1 N).1;refine AL.val hd (λa w O hh=>?_) h;have:=r_indexStr (P:=P) (w:=w) (d:=some d) (T:=T) (pos:=pos) (af:=af) (gd:=none) W (O.eval hx) (O.eval hy) rfl (show k<s.size from L);rw[this];have hb:bat s k=v:=by
  unfold bat;rw[Wg,<-X9,N];rfl
 rw[hb]
def AL.rgs (k:Nat){tt:TypeId}{x:Operand}{s:ByteArray}(h: ∀g,AL r P ops Q rest C ((d,.pointer (some ⟨g,0,none⟩))::l) ((k,.si g s 0)::H))
  (N:P.underlying tt=some .string:=by rfl) (O:ev l x=some (.string s):=by rfl) (V:Nat.ble (d+1) C.n=true:=by rfl) (W:hk H k=none:=by kernel_rfl):AL r P ops Q (⟨some d,.range tt x,T,pos,af,none⟩::rest) C l H:=λa w hf hh=>
 Z.st_rangeStr hf V N O λg w' a' hg hs hb L hf'=>h g a' w' hf' (hh.new W L (λb hb'=>by simp only[Res.bl,Qk]at hb';omega) (λj hj=>by cases hj) λ_ _ _ _ _=>hb)
def AL.nxs (k:Nat)(js:List Nat){x:Operand}{s:ByteArray}{g p:Nat}{ρ:Type}{A B R:Option ρ}(N:(if p<s.size then A else B)=R)
  (h2:p<s.size->A=R->AL r P ops Q rest C ((d,.tuple #[.bool true,.int .i64 (p:Int),.int .i32 ((Utf8.decode s p).1:Int)])::l) ((k,.si g s (p+(Utf8.decode s p).2))::ded js H))
  (h1: ¬p<s.size->B=R->AL r P ops Q rest C ((d,.tuple #[.bool false])::l) H)
  (L:hk H k=some (.si g s p):=by rfl) (hx:ev l x=some (.pointer (some ⟨g,0,none⟩)):=by rfl) (hd:Nat.ble (d+1) C.n=true:=by rfl) (O:hng [k] js H=true:=by kernel_rfl):AL r P ops Q (⟨some d,.next x true,T,pos,af,none⟩::rest) C l H:=λa w hf V=>
 Z.st_nextStr hf hd hx (V.hold k _ L) (λhp a' hf'=>h1 hp (by rw[Qb hp]at N;exact N) a' w hf' V) λhp w' a' W hs hsi hf'=>
  h2 hp (by rw[Qc hp]at N;exact N) a' w' hf' (Hp.dd (V.upd W (λb hb=>⟨_,L,hb⟩) (λb hb=>.inl ⟨_,L,hb⟩) (λj O=>by cases O) λ_ _ _ _ _ _ _=>hsi) O)
section
variable {κ:Type}[DecidableEq κ]{enc:κ->Value}{kt et tt:TypeId}{t:Ty}{agg:Bool}{b:Nat}{m:List (κ×t.den)}
def AL.mkm (k:Nat)(κ:Type)(enc:κ->Value)(t:Ty)(agg:Bool)(h: ∀b,AL r P ops Q rest C ((d,.map (some b))::l) ((k,.mp κ enc t agg b [])::H))(O:Nat.ble (d+1) C.n=true:=by rfl)(V:hk H k=none:=by kernel_rfl):
  AL r P ops Q (⟨some d,.makeMap tt none,T,pos,af,none⟩::rest) C l H:=λa w W hh=>
 Z.st_makeMap rfl W O enc t agg no λg w' a' hg hs L N hf'=>h g a' w' hf' (hh.new V N (λb hb'=>by simp only[Res.bl,Qk]at hb';omega) (λj hj=>by cases hj) λF B h1 _ _=>L.to (Ch.refl w') (by simp) λb L _=>L.elim)
def asmp:Option Res->Option Res
 |some (.lmp κ enc t agg b m)=>some (.mp κ enc t agg b m)
 |r=>r
def Qga {κ:Type}{enc:κ->Value}{t:Ty}{agg:Bool}{b:Nat}{m:List (κ×t.den)}{C:Cx}{H:List (Nat×Res)}{w:World}(O:Hp C H w){k:Nat}(h:asmp (hk H k)=some (.mp κ enc t agg b m)):Mt enc t agg w (Fh C H) b m:=by
 cases L:hk H k with
 |none=>rw[L]at h;cases h
 |some r=>
  rw[L]at h;have N:=O.hold k r L;cases r with
  |lmp κ' enc' t' agg' b' m'=>
   have h:some (Res.mp κ' enc' t' agg' b' m')=_:=h;injection h with h;cases h;exact N.1
  |mp κ' enc' t' agg' b' m'=>
   have h:some (Res.mp κ' enc' t' agg' b' m')=_:=h;injection h with h;cases h;exact N
  |_=>injection h with h;cases h
def Qgc {w:World}{x:t.den}{cs:List Value}(W:Hp C H w)(hr:t.rep w (Fh C H) cs x)(kn:Nat)(hn:nok H kn (lv t)=true): ∃ps:Lf,ps.length=lv t/\cs=cl t x ps/\Hp C (hcat (kx kn (rs t x ps)) H) w:=by
 obtain⟨ps,V,hc,L⟩:=rep_cl (B:=Bk H) t (Qaf t hr);exact⟨ps,V,hc,W.adds (by rw[Qcu t x ps V];exact hn) λN O=>⟨(L N O).2.1,(L N O).2.2,(L N O).1⟩⟩
def AL.lku (k kn:Nat){x y:Operand}{z v:t.den}{zs:List Value}(K:Ky P kt enc)(key:κ)(V: ∀w,(zeroValue et).run P w=.ok (vof agg zs) w)(W:Dat H t zs z)(hv:mget z m key=v)
  (h:t.ok v->tele (lv t) λps=>AL r P ops Q rest C ((d,vof agg (cl t (v) ps))::l) (hcat (kx kn (rs t (v) ps)) H))
  (L:asmp (hk H k)=some (.mp κ enc t agg b m):=by rfl) (hx:ev l x=some (.map (some b)):=by rfl) (hy:ev l y=some (enc key):=by rfl) (ht:P.underlying tt=some (.map kt et):=by rfl) (hd:Nat.ble (d+1) C.n=true:=by rfl) (hn:nok H kn (lv t)=true:=by kernel_rfl):
  AL r P ops Q (⟨some d,.lookup tt x y false,T,pos,af,none⟩::rest) C l H:=λa w hf N=>by
 subst hv;exact Z.st_lookup hf hd K ht V z (Dat.rep N t W) (Qga N L) hx key hy λcs a' O hf'=>by
  obtain⟨ps,hl,rfl,h2⟩:=Qgc N O kn hn;exact Qba (h (rep_ok t O)) ps hl a' w hf' h2
def AL.lk2 (k kn:Nat){x y:Operand}{z v:t.den}{zs:List Value}(K:Ky P kt enc)(key:κ)(V: ∀w,(zeroValue et).run P w=.ok (vof agg zs) w)(W:Dat H t zs z)(hv:mget z m key=v)
  (h:t.ok v->tele (lv t) λps=>AL r P ops Q rest C ((d,.tuple #[vof agg (cl t (v) ps),.bool (mhas m key)])::l) (hcat (kx kn (rs t (v) ps)) H))
  (L:asmp (hk H k)=some (.mp κ enc t agg b m):=by rfl) (hx:ev l x=some (.map (some b)):=by rfl) (hy:ev l y=some (enc key):=by rfl) (ht:P.underlying tt=some (.map kt et):=by rfl) (hd:Nat.ble (d+1) C.n=true:=by rfl) (hn:nok H kn (lv t)=true:=by kernel_rfl):
  AL r P ops Q (⟨some d,.lookup tt x y true,T,pos,af,none⟩::rest) C l H:=λa w hf N=>by
 subst hv;exact Z.st_lookup2 hf hd K ht V z (Dat.rep N t W) (Qga N L) hx key hy λcs a' O hf'=>by
  obtain⟨ps,hl,rfl,h2⟩:=Qgc N O kn hn;exact Qba (h (rep_ok t O)) ps hl a' w hf' h2
def AL.mup (k:Nat)(js:List Nat){x y v:Operand}{cs:List Value}{u:t.den}(K:Ky P kt enc)(key:κ)(hD:Dat H t cs u)(h:AL r P ops Q rest C l ((k,.mp κ enc t agg b (mins m key u))::ded js H))
  (L:hk H k=some (.mp κ enc t agg b m):=by rfl) (hx:ev l x=some (.map (some b)):=by rfl) (hy:ev l y=some (enc key):=by rfl) (hv:ev l v=some (vof agg cs):=by rfl) (ht:P.underlying tt=some (.map kt et):=by rfl) (N:hng [k] js H=true:=by kernel_rfl):
  AL r P ops Q (⟨none,.mapUpdate tt x y v,T,pos,af,none⟩::rest) C l H:=λa w hf O=>by
 have hm:Mt enc t agg w (Fh C H) b m:=O.hold k _ L;have hm':Mt enc t agg w (λb=>Fh C H b/\b<w.heap.size) b m:=by
  obtain⟨es,h1,h2,h3⟩:=hm;refine⟨es,h1,h2,λi p hp=>?_⟩;obtain⟨cs,h4,h5⟩:=h3 i p hp;exact⟨cs,h4,Qaf t h5⟩
 refine Z.st_mapUpdate hf K ht hm' hx key hy hv (Qaf t (Dat.rep O t hD)) (λb' hb' e=>hb'.1.1 k ⟨_,L,by rw[e];simp[Res.bl]⟩) λw' a' V hs W hf'=>
  h a' w' hf' (Hp.dd (O.upd V (λb' hb'=>⟨_,L,hb'⟩) (λb' hb'=>.inl ⟨_,L,hb'⟩) (λj N=>by cases N) λF B hF _ _ _ _=>?_) N)
 exact W.to (Ch.refl w') (by simp) λb' hb' _=>⟨by simp,hF b' hb'.1 hb'.2⟩
end
def Ct (P:Program)(f:FuncId)(vs:List Value)(H:List (Nat×Res))(S:List Nat)(R:Value->List (Nat×Res)->Prop):Prop:=
 ∀(w:World) (F:Nat->Prop),Hp ⟨0,[],w,S,F⟩ H w->Calls P f vs.toArray w λe w'=>∃v H',e=.returned v/\R v H'/\Hp ⟨0,[],w,S,F⟩ H' w'
def Ct.enter {f:FuncId}{fn:Func}{c:Code}{vs:List Value}{n:Nat}{S:List Nat}{R:Value->List (Nat×Res)->Prop}(O:P.funcs[f]?=some fn)(V:fn.body=some c)(W:fn.ntmps=n)(hm:Nat.ble vs.length n=true)
  (h: ∀w F,AX none P (bodyPost P fn λe w'=>∃v H',e=.returned v/\R v H'/\Hp ⟨0,[],w,S,F⟩ H' w') [] c ⟨n,[],w,S,F⟩ (argl vs 0) H):Ct P f vs H S R:=λw F L=>
 Z.enter O V W (Qq hm) λa N=>h w F a w N ⟨L.ch,L.hold,L.bnd,L.dis,L.ref⟩
def AX.ret {fn:Func}{K:List Kx}{N:World}{S:List Nat}{F:Nat->Prop}{n:Nat}{R:Value->List (Nat×Res)->Prop}(ps:List (Nat×Nat))(v:Value)(hres: ∀a w,Fr a n [] l->Hp ⟨n,[],N,S,F⟩ H w->(results fn a.tmps).run P w=.ok v w)(W:R v (A.ren H ps))(h1:nod (ps.map (·.1))=true:=by rfl)(h2:nod (ps.map (·.2))=true:=by rfl):
  AX r P (bodyPost P fn λe w'=>∃v H',e=.returned v/\R v H'/\Hp ⟨0,[],N,S,F⟩ H' w') K .ret ⟨n,[],N,S,F⟩ l H:=AX.ret0 λa w O V=>by
 have L:=V.ren ps h1 h2;exact Z.retv O (hres a w O V) ⟨v,_,rfl,W,⟨L.ch,L.hold,L.bnd,L.dis,L.ref⟩⟩
def AE.ret {fn:Func}{N:World}{S:List Nat}{F:Nat->Prop}{n:Nat}{R:Value->List (Nat×Res)->Prop}(ps:List (Nat×Nat))(v:Value)(hres: ∀a w,Fr a n [] l->Hp ⟨n,[],N,S,F⟩ H w->(results fn a.tmps).run P w=.ok v w)(W:R v (A.ren H ps))(h1:nod (ps.map (·.1))=true:=by rfl)(h2:nod (ps.map (·.2))=true:=by rfl):
  AE r P (bodyPost P fn λe w'=>∃v H',e=.returned v/\R v H'/\Hp ⟨0,[],N,S,F⟩ H' w') [] .normal ⟨n,[],N,S,F⟩ l H:=λa w O V=>by
 have L:=V.ren ps h1 h2;exact Z.endv O (hres a w O V) ⟨v,_,rfl,W,⟨L.ch,L.hold,L.bnd,L.dis,L.ref⟩⟩
end
inductive Sub (H:List (Nat×Res)):List (Nat×Res)->List (Nat×Nat)->List Nat->Prop
 |nil:Sub H [] [] []
 |s (k:Nat) {k0:Nat} {r:Res} {H0:List (Nat×Res)} {ms:List (Nat×Nat)} {ls:List Nat} (h:Sub H H0 ms ls) (h1:hk H k=some r:=by rfl) (hb:r.bl=[]:=by rfl) (hr:r.ref=none:=by rfl):Sub H ((k0,r)::H0) ms ls
 |o (k:Nat) {k0:Nat} {t:Ty} {e:TypeId} {A:Option Addr} {c:Nat} {xs:List t.den} {H0:List (Nat×Res)} {ms:List (Nat×Nat)} {ls:List Nat} (h:Sub H H0 ms ls) (h1:hk H k=some (.own t e A c xs):=by rfl):Sub H ((k0,.ln t A c xs)::H0) ms (k::ls)
 |l (k:Nat) {k0:Nat} {t:Ty} {A:Option Addr} {c:Nat} {xs:List t.den} {H0:List (Nat×Res)} {ms:List (Nat×Nat)} {ls:List Nat} (h:Sub H H0 ms ls) (h1:hk H k=some (.sh (.slice t) [.slice A xs.length c] xs):=by rfl):Sub H ((k0,.ln t A c xs)::H0) ms ls
 |nl {k0:Nat} {t:Ty} {H0:List (Nat×Res)} {ms:List (Nat×Nat)} {ls:List Nat} (h:Sub H H0 ms ls):Sub H ((k0,.ln t none 0 [])::H0) ms ls
 |ns {k0:Nat} {t:Ty} {H0:List (Nat×Res)} {ms:List (Nat×Nat)} {ls:List Nat} (h:Sub H H0 ms ls):Sub H ((k0,.sh (.slice t) [.slice none 0 0] [])::H0) ms ls
 |b (k:Nat) {k0:Nat} {g:Nat} {e:TypeId} {cs:List Value} {H0:List (Nat×Res)} {ms:List (Nat×Nat)} {ls:List Nat} (h:Sub H H0 ms ls) (h1:hk H k=some (.blk g e cs):=by rfl):Sub H ((k0,.el none g 0 cs)::H0) ms (k::ls)
 |lm (k:Nat) {k0:Nat} {κ:Type} {enc:κ->Value} {t:Ty} {agg:Bool} {b:Nat} {m:List (κ×t.den)} {H0:List (Nat×Res)} {ms:List (Nat×Nat)} {ls:List Nat} (h:Sub H H0 ms ls) (h1:hk H k=some (.mp κ enc t agg b m):=by rfl):Sub H ((k0,.lmp κ enc t agg b m)::H0) ms (k::ls)
 |m (k:Nat) {k0:Nat} {r:Res} {H0:List (Nat×Res)} {ms:List (Nat×Nat)} {ls:List Nat} (h:Sub H H0 ms ls) (h1:hk H k=some r:=by rfl) (hr:r.ref=none:=by rfl):Sub H ((k0,r)::H0) ((k0,k)::ms) ls
def blks (H:List (Nat×Res)):List (Nat×Nat)->List Nat
 | []=>[]
 |(_,k)::ms=>match hk H k with
  |some r=>r.bl++blks H ms
  |none=>blks H ms
def Qcx {H:List (Nat×Res)}{b:Nat}: ∀{ms:List (Nat×Nat)},b∈blks H ms↔∃p,p∈ms/\Bk H p.2 b
 | []=>by simp[blks]
 |(i,k)::ms=>by
  unfold blks;cases V:hk H k with
  |none=>
   simp only[];rw[Qcx];exact⟨λ⟨p,L,N⟩=>⟨p,Qh _ L,N⟩,λ⟨p,L,N⟩=>by
    rcases Qn.1 L with rfl|L
    obtain⟨r,O,_⟩:=N;rw[V]at O;cases O;exact⟨p,L,N⟩⟩
  |some r=>
   simp only[Qx];rw[Qcx];constructor;rintro(h|⟨p,L,N⟩);exact⟨(i,k),Ql ..,r,V,h⟩;exact⟨p,Qh _ L,N⟩;rintro⟨p,L,N⟩;rcases Qn.1 L with rfl|L
   obtain⟨r2,O,W⟩:=N;rw[V]at O;injection O with O;subst O;exact .inl W
   exact .inr ⟨p,L,N⟩
def Sub.hp {C:Cx}{H:List (Nat×Res)}{w:World}(hh:Hp C H w){H0:List (Nat×Res)}{ms:List (Nat×Nat)}{ls:List Nat}(h:Sub H H0 ms ls)(h1:nod (H0.map (·.1))=true)(h2:nod (ms.map (·.2))=true)(h3:ls.all (λk=> !(ms.map (·.2)).any (Nat.beq k))=true):
  Hp ⟨0,[],w,blks H ms,Fh C H⟩ H0 w:=by
 have hvis: ∀{H0:List (Nat×Res)} {k:Nat} {r:Res},hk H0 k=some r->(k,r)∈H0:=by
  intro H0;induction H0 with
  |nil=>intro k r h;cases h
  |cons p q O=>
   obtain⟨d,u⟩:=p;intro k r h;rw[Qaa]at h;split at h;rename_i e;subst e;injection h with h;subst h;exact Ql ..
   exact Qh _ (O h)
 have hmoved: ∀{H0:List (Nat×Res)} {ms:List (Nat×Nat)} {ls:List Nat},Sub H H0 ms ls->∀k r,(k,r)∈H0->r.ref=none/\∀b,b∈r.bl->∃j,(k,j)∈ms/\hk H j=some r:=by
  intro H0 ms ls h;induction h with
  |nil=>intro k r L;cases L
  |s k _ h1 N hr O=>
   intro k r L;rcases Qn.1 L with e|L
   injection e with V W;subst V;subst W;exact⟨hr,λb hb2=>by rw[N]at hb2;cases hb2⟩
   exact O k r L
  |m k _ h1 hr O=>
   intro k r L;rcases Qn.1 L with e|L
   injection e with V W;subst V;subst W;exact⟨hr,λb hb2=>⟨_,Ql ..,h1⟩⟩
   obtain⟨h4,h5⟩:=O k r L;exact⟨h4,λb N=>by obtain⟨j,h6,h7⟩:=h5 b N;exact⟨j,Qh _ h6,h7⟩⟩
  |_=>
   rename_i O;intro k r L;rcases Qn.1 L with e|L
   injection e with V W;subst V;subst W;exact⟨rfl,λb hb2=>by cases hb2⟩
   exact O k r L
 have hbk: ∀k b,Bk H0 k b->∃j,(k,j)∈ms/\Bk H j b:=λk b ⟨r,h4,h5⟩=>by
  obtain⟨j,h6,h7⟩:=(hmoved h k r (hvis h4)).2 b h5;exact⟨j,h6,r,h7,h5⟩
 have hnb: ∀b,(∀k,¬Bk H k b)->∀k,¬Bk H0 k b:=λb hB k hk=>by obtain⟨j,_,h4⟩:=hbk k b hk;exact hB j h4
 have hF: ∀b,Fh C H b->Fh ⟨0,[],w,blks H ms,Fh C H⟩ H0 b:=λb N=>⟨hnb b N.1,.inl N⟩;have hholds: ∀{H1:List (Nat×Res)} {ms1:List (Nat×Nat)} {ls1:List Nat},Sub H H1 ms1 ls1->(∀k,k∈ls1->∀p,p∈ms->p.2≠k)->∀k r,(k,r)∈H1->r.holds w (Fh ⟨0,[],w,blks H ms,Fh C H⟩ H0) (Bk H0):=by
  intro H1 ms1 ls1 h;have go: ∀k r,hk H k=some r->r.ref=none->r.holds w (Fh ⟨0,[],w,blks H ms,Fh C H⟩ H0) (Bk H0):=λk r h4 h5=>
   Res.to (hh.hold k r h4) (S:=[]) (Ch.refl w) (λb N _=>⟨by simp,hF b N⟩) (λb N _=>⟨by simp,hnb b N⟩) (λi b hi _=>by rw[h5]at hi;cases hi) (by simp)
  induction h with
  |nil=>intro _ k r L;cases L
  |s k _ h1 N hr O=>
   intro hl k r L;rcases Qn.1 L with e|L
   injection e with V W;subst V;subst W;exact go _ _ h1 hr
   exact O hl k r L
  |m k _ h1 hr O=>
   intro hl k r L;rcases Qn.1 L with e|L
   injection e with V W;subst V;subst W;exact go _ _ h1 hr
   exact O hl k r L
  |o k _ h1 O=>
   intro hl k' r L;rcases Qn.1 L with e|L
   injection e with V W;subst V;subst W
   obtain⟨G,h4,h5⟩:=rowO h1 w hh;refine Row.to h4 (S:=[]) (Ch.refl w) (λb N _=>⟨by simp,hF b N⟩) λb N _=>⟨by simp,λk2 hk2=>?_⟩;obtain⟨j,h6,h7⟩:=hbk k2 b hk2;exact hl k (Ql ..) _ h6 (hh.dis j k b h7 (h5 b N));exact O (λk hk=>hl k (Qh _ hk)) k' r L
  |b k _ h1 O=>
   intro hl k' r L;rcases Qn.1 L with e|L
   injection e with V W;subst V;subst W
   have hB:Blk w _ _ _:=hh.hold k _ h1;refine⟨λj u hu=>?_,hB.lt,λk2 hk2=>?_⟩;rw[Addr.add_lit,W9,hB.cell];exact hu;obtain⟨j,h6,h7⟩:=hbk k2 _ hk2;exact hl k (Ql ..) _ h6 (hh.dis j k _ h7 ⟨_,h1,by simp[Res.bl]⟩);exact O (λk hk=>hl k (Qh _ hk)) k' r L
  |lm k _ h1 O=>
   intro hl k' r L;rcases Qn.1 L with e|L
   injection e with V W;subst V;subst W
   have hB:Mt _ _ _ w (Fh C H) _ _:=hh.hold k _ h1;refine⟨Mt.to hB (S:=[]) (Ch.refl w) (by simp) λb N _=>⟨by simp,hF b N⟩,λk2 hk2=>?_⟩;obtain⟨j,h6,h7⟩:=hbk k2 _ hk2;exact hl k (Ql ..) _ h6 (hh.dis j k _ h7 ⟨_,h1,by simp[Res.bl]⟩);exact O (λk hk=>hl k (Qh _ hk)) k' r L
  |l k _ h1 O=>
   intro hl k' r L;rcases Qn.1 L with e|L
   injection e with V W;subst V;subst W
   obtain⟨G,h4,h5⟩:=rowS h1 w hh;exact Row.to h4 (S:=[]) (Ch.refl w) (λb N _=>⟨by simp,hF b N⟩) λb N _=>⟨by simp,hnb b (h5 b N)⟩;exact O hl k' r L
  |nl _ O=>
   intro hl k' r L;rcases Qn.1 L with e|L
   injection e with V W;subst V;subst W
   exact⟨Q4 _,by simp[maxLen],[],by simp,.inl rfl,λi x hi=>by simp at hi⟩;exact O hl k' r L
  |ns _ O=>
   intro hl k' r L;rcases Qn.1 L with e|L
   injection e with V W;subst V;subst W;exact rep_nil _
   exact O hl k' r L
 have hls: ∀k,k∈ls->∀p,p∈ms->p.2≠k:=λk hk p hp e=>by
  have h4:=Wv.1 h3 k hk;simp only[Yj,List.any_map,Yz]at h4;exact h4 p hp (by simp[Function.comp,e])
 refine⟨Ch.refl' _ _,λk r hk1=>hholds h hls k r (hvis hk1),λk b N=>?_,λk k' b N hb'=>?_,λk r j hk1 hr=>?_⟩;obtain⟨j,h4,h5⟩:=hbk k b N;exact⟨.inr (Qcx.2 ⟨_,h4,h5⟩),(hh.bnd j b h5).2⟩;obtain⟨j,h4,h5⟩:=hbk k b N;obtain⟨j',h6,h7⟩:=hbk k' b hb';exact Qig (f:=λp:Nat×Nat=>p.2) (g:=λp:Nat×Nat=>p.1) h2 (k,j) (k',j') h4 h6 (hh.dis j j' b h5 h7);rw[(hmoved h k r (hvis hk1)).1]at hr;cases hr
def kill:List Nat->List (Nat×Res)->List (Nat×Res)
 | [],H=>H
 |k::ks,H=>(k,.dead)::drp k (kill ks H)
def Qds {H:List (Nat×Res)}: ∀{ks:List Nat} {j:Nat} {r:Res},hk (kill ks H) j=some r->r=.dead\/(hk H j=some r/\j∉ks/\∀k,k∈ks->r.ref≠some k)
 | [],j,r,h=>.inr ⟨h,by simp,by simp⟩
 |k::ks,j,r,h=>by
  unfold kill at h;rw[Qaa]at h;split at h;injection h with h;exact .inl h.symm
  rename_i L;rcases Qby k _ j r h with N|⟨N,h2⟩
  exact .inl N;rcases Qds N with O|⟨O,h4,h5⟩
  exact .inl O;refine .inr ⟨O,λV=>?_,λi W=>?_⟩;rcases Qn.1 V with e|V
  exact L e.symm;exact h4 V;rcases Qn.1 W with rfl|W
  exact h2;exact h5 i W
def Qdp {k:Nat}: ∀{H:List (Nat×Res)} {j:Nat} {r:Res},hk H j=some r->r.ref≠some k->hk (drp k H) j=some r
 | [],_,_,h,_=>by cases h
 |(d,u)::q,j,r,L,N=>by
  unfold drp;rw[Qaa]at L ⊢;by_cases O:d=j;rw[Qc O]at L ⊢;injection L with L
  subst L;cases V:u.ref with
  |none=>rfl
  |some i=>
   simp only[];have:Nat.beq i k=false:=by cases W:Nat.beq i k with
    |false=>rfl
    |true=>exact absurd (by rw[V,Wm W]) N
   rw[this];rfl
  rw[Qb O]at L ⊢;exact Qdp L N
def Qev {H:List (Nat×Res)}: ∀{ks:List Nat} {j:Nat} {r:Res},hk H j=some r->j∉ks->(∀k,k∈ks->r.ref≠some k)->hk (kill ks H) j=some r
 | [],_,_,h,_,_=>h
 |k::ks,j,r,h,L,N=>by
  unfold kill;rw[Qaa,Qb (λe=>L (by rw[e];exact Ql ..))];exact Qdp (Qev h (λO=>L (Qh _ O)) λi V=>N i (Qh _ V)) (N k (Ql ..))
def sft (n:Nat):List (Nat×Res)->List (Nat×Res)
 | []=>[]
 |(k,r)::H=>(k+n,r)::sft n H
def Qgf {n:Nat}{H0:List (Nat×Res)}: ∀{H:List (Nat×Res)} {j:Nat} {r:Res},hk (hcat (sft n H) H0) j=some r->(∃k,j=k+n/\hk H k=some r)\/(hk H0 j=some r/\∀k,j=k+n->hk H k=none)
 | [],j,r,h=>.inr ⟨h,λ_ _=>rfl⟩
 |(d,u)::H,j,r,h=>by
  replace h:hk ((d+n,u)::hcat (sft n H) H0) j=some r:=h;rw[Qaa]at h;split at h;rename_i e;injection h with h;subst h;exact .inl ⟨d,e.symm,by rw[Qaa,Qc rfl]⟩
  rename_i L;rcases Qgf h with⟨k,N,O⟩|⟨N,O⟩
  exact .inl ⟨k,N,by rw[Qaa,Qb (λe=>L (by rw[e,N]))];exact O⟩;exact .inr ⟨N,λk hk=>by rw[Qaa,Qb (λe=>L (by rw[e,hk]))];exact O k hk⟩
def outs:List (Nat×Res)->Bool
 | []=>true
 |(_,r)::H=>(match r with| .ln _ _ _ _=>false| .el _ _ _ _=>false| .mit _ _ _ _ _ _=>false| .lmp _ _ _ _ _ _=>false|_=>true)&&outs H
def Qbw: ∀{H:List (Nat×Res)} {k:Nat} {r:Res},outs H=true->hk H k=some r->(∀t A c xs,r≠ .ln t A c xs)/\(∀k b o cs,r≠ .el k b o cs)/\r.ref=none
 | [],_,_,_,h=>by cases h
 |(d,u)::H,k,r,L,h=>by
  simp only[outs,Qp]at L;rw[Qaa]at h;split at h;injection h with h;subst h
  cases u<;>simp_all [Res.ref];exact Qbw L.2 h
def outs_lmp: ∀{H:List (Nat×Res)} {k:Nat} {κ:Type} {enc:κ->Value} {t:Ty} {agg:Bool} {b:Nat} {m:List (κ×t.den)},outs H=true->hk H k=some (.lmp κ enc t agg b m)->False
 | [],_,_,_,_,_,_,_,_,h=>by cases h
 |(d,u)::H,k,_,_,_,_,_,_,L,h=>by
  simp only[outs,Qp]at L;rw[Qaa]at h;split at h;injection h with h;subst h;exact absurd L.1 (by simp)
  exact outs_lmp L.2 h
def frs (n:Nat)(H:List (Nat×Res)):List (Nat×Res)->Bool
 | []=>true
 |(k,_)::H'=>(match hk H (k+n)with|none=>true|some _=>false)&&frs n H H'
def Hp.back {C:Cx}{H H':List (Nat×Res)}{w w':World}{ms:List (Nat×Nat)}{n:Nat}(h:Hp C H w)(h':Hp ⟨0,[],w,blks H ms,Fh C H⟩ H' w')(ho:outs H'=true)(hf:frs n H H'=true):Hp C (hcat (sft n H') (kill (ms.map (·.2)) H)) w':=by
 have hS: ∀b,b∈blks H ms->∃k,k∈ms.map (·.2)/\Bk H k b:=λb O=>by
  obtain⟨p,N,L⟩:=Qcx.1 O;exact⟨p.2,Xf.2 ⟨p,N,rfl⟩,L⟩
 have hbk: ∀j b,Bk (hcat (sft n H') (kill (ms.map (·.2)) H)) j b->(∃k,j=k+n/\Bk H' k b)\/((∀k,j=k+n->hk H' k=none)/\Bk H j b/\j∉ms.map (·.2)):=λj b ⟨r,N,L⟩=>by
  rcases Qgf N with⟨k,W,V⟩|⟨W,V⟩
  exact .inl ⟨k,W,r,V,L⟩;rcases Qds W with rfl|⟨h5,h6,_⟩
  cases L;exact .inr ⟨V,⟨r,h5,L⟩,h6⟩
 have hnew: ∀k b,Bk H' k b->(w.heap.size<=b\/b∈blks H ms)/\b<w'.heap.size:=λk b O=>h'.bnd k b O;have hold: ∀b,(∀k,¬Bk H k b)->b<w.heap.size->b∉blks H ms/\∀j,¬Bk (hcat (sft n H') (kill (ms.map (·.2)) H)) j b:=λb hB hl=>by
  refine⟨λO=>by obtain⟨k,_,N⟩:=hS b O;exact hB k N,λj hj=>?_⟩;rcases hbk j b hj with⟨k,_,N⟩|⟨_,N,_⟩
  rcases(hnew k b N).1 with L|L
  omega;obtain⟨k,_,W⟩:=hS b L;exact hB k W;exact hB j N
 have hch:=h'.ch;have hsz:w.heap.size<=w'.heap.size:=hch.size;have hrefk: ∀j r i,hk H j=some r->r.ref=some i->i∉ms.map (·.2)->∀b,Bk H i b->Bk (hcat (sft n H') (kill (ms.map (·.2)) H)) i b:=λj r i hj hr hi b O=>by
  obtain⟨r2,N,L⟩:=O;have W:=(h.ref j r i hj hr).2 r2 N;refine⟨r2,?_,L⟩;have V:hk (kill (ms.map (·.2)) H) i=some r2:=Qev N hi λk _=>by rw[W];simp
  have h5: ∀{H':List (Nat×Res)},frs n H H'=true->hk (hcat (sft n H') (kill (ms.map (·.2)) H)) i=some r2:=by
   intro H';induction H' with
   |nil=>intro _;exact V
   |cons p q ih=>
    obtain⟨d,u⟩:=p;intro hf;simp only[frs,Qp]at hf;show hk ((d+n,u)::hcat (sft n q) _) i=some r2;rw[Qaa,Qb (λe=>by subst e;rw[N]at hf;exact absurd hf.1 (by simp))];exact ih hf.2
  exact h5 hf
 refine⟨?_,λj r hj=>?_,λj b hj=>?_,λj j' b hj hj'=>?_,λj r i hj hri=>?_⟩;have hc0:=h.ch;refine⟨hch.os.trans hc0.os,hch.tape.trans hc0.tape,hch.output.trans hc0.output,Wr hc0.size hch.size,λb O hn=>?_⟩;have hb2:b∉blks H ms:=λhbS=>by
  obtain⟨k,_,N⟩:=hS b hbS;rcases(h.bnd k b N).1 with L|L
  omega;exact hn L
 rw[hch.block b (Q3 O hc0.size) hb2];exact hc0.block b O hn;rcases Qgf hj with⟨k,rfl,N⟩|⟨N,_⟩
 obtain⟨o1,o2,o3⟩:=Qbw ho N;have hh:=h'.hold k r N;have hF: ∀b,Fh ⟨0,[],w,blks H ms,Fh C H⟩ H' b->b<w'.heap.size->Fh C (hcat (sft n H') (kill (ms.map (·.2)) H)) b:=λb O hl=>by
  refine⟨λj hj=>?_,?_⟩;rcases hbk j b hj with⟨k,_,L⟩|⟨_,L,W⟩
  exact O.1 k L;rcases O.2 with V|V|V
  exact V.1 j L;have:=(h.bnd j b L).2;have V:w.heap.size<=b:=V;omega;obtain⟨k,h5,h6⟩:=hS b V;exact W (by rw[h.dis j k b L h6];exact h5);rcases O.2 with V|V|V
  exact V.2;exact .inr (.inl (Wr h.ch.size V));obtain⟨k,_,h6⟩:=hS b V;exact .inr (h.bnd k b h6).1
 cases r with
 |ln t A c xs=>exact absurd rfl (o1 t A c xs)
 |el k b o cs=>exact absurd rfl (o2 k b o cs)
 |mit k g b n seen la=>cases o3
 |dead=>trivial
 |sh t cs x=>exact rep_to hh (S:=[]) (Ch.refl w') λb O hl=>⟨by simp,hF b O hl⟩
 |own t e A c xs=>exact Own.to hh (S:=[]) (Ch.refl w') (by simp) λb O hl=>⟨by simp,hF b O hl⟩
 |blk g e cs=>exact hh
 |mp κ enc t agg b m=>exact Mt.to hh (S:=[]) (Ch.refl w') (by simp) λb O hl=>⟨by simp,hF b O hl⟩
 |si g s p=>exact hh
 |ob g p=>exact hh
 |lmp κ enc t agg b m=>exact(outs_lmp ho N).elim
 |mr κ enc t e b As m=>exact Mr.to hh (S:=[]) (Ch.refl w') (by simp) λb O hl=>⟨by simp,hF b O hl⟩
 |gn bs p hp=>exact hp hh (S:=[]) (Ch.refl w') (by simp) λb O hl=>⟨by simp,hF b O hl⟩
 rcases Qds N with rfl|⟨L,W,V⟩
 trivial;refine Res.to (h.hold j r L) hch (λb O hl=>⟨(hold b O.1 hl).1,(hold b O.1 hl).2,O.2⟩) (λb O hl=>hold b O hl) (λi b hi hB=>⟨λhbS=>?_,?_⟩) λb O hbS=>?_;obtain⟨k,h5,h6⟩:=hS b hbS;exact V k h5 (by rw[hi,h.dis i k b hB h6]);exact hrefk j r i L hi (λhm=>V i hm hi) b hB;obtain⟨k,h5,h6⟩:=hS b hbS;exact W (by rw[h.dis j k b ⟨r,L,O⟩ h6];exact h5);rcases hbk j b hj with⟨k,_,N⟩|⟨_,N,_⟩
 obtain⟨L,W⟩:=hnew k b N;refine⟨?_,W⟩;rcases L with L|L
 exact .inl (Wr h.ch.size L);obtain⟨k,_,h6⟩:=hS b L;exact(h.bnd k b h6).1;exact⟨(h.bnd j b N).1,Q3 (h.bnd j b N).2 hsz⟩;have cross: ∀k j b,Bk H' k b->Bk H j b->j∉ms.map (·.2)->False:=λk j b N L W=>by
  rcases(hnew k b N).1 with V|V
  have:=(h.bnd j b L).2;omega;obtain⟨i,h5,h6⟩:=hS b V;exact W (by rw[h.dis j i b L h6];exact h5)
 rcases hbk j b hj with⟨k,rfl,N⟩|⟨_,N,W⟩<;>rcases hbk j' b hj' with⟨k',rfl,L⟩|⟨_,L,V⟩
 rw[h'.dis k k' b N L];exact(cross k j' b N L V).elim;exact(cross k' j b L N W).elim;exact h.dis j j' b N L;rcases Qgf hj with⟨k,rfl,N⟩|⟨N,_⟩
 rw[(Qbw ho N).2.2]at hri;cases hri;rcases Qds N with rfl|⟨L,W,V⟩
 cases hri;obtain⟨h5,h6⟩:=h.ref j r i L hri;refine⟨h5,λr2 h7=>?_⟩;rcases Qgf h7 with⟨k,rfl,h8⟩|⟨h8,_⟩
 exact(Qbw ho h8).2.2;rcases Qds h8 with rfl|⟨h9,_⟩
 rfl;exact h6 r2 h9
section
variable {r:Option Nat}{P:Program}{ops:Array Oper}{Q:Exit->Act->World->Prop}{rest lst:List Oper}{C:Cx}{l:List (Nat×Value)}{H:List (Nat×Res)}{d:Nat}{T:TypeId}{pos:String}{af:Array Edge}
def Qer {H:List (Nat×Res)}: ∀(ks:List Nat) (j:Nat),hk (kill ks H) j=bif ks.any (Nat.beq j)then some .dead else(hk H j).map λv=>bif rin ks v.ref then .dead else v
 | [],j=>by
  show hk H j=(hk H j).map _;cases hk H j with
  |none=>rfl
  |some v=>cases O:v.ref<;>simp[rin,O]
 |k::ks,j=>by
  show hk ((k,.dead)::drp k (kill ks H)) j=_;rw[Qaa,Qcf,Qer ks j,Xy];by_cases L:k=j;subst L;simp;have N:Nat.beq j k=false:=by cases V:Nat.beq j k with
   |false=>rfl
   |true=>exact absurd (Wm V).symm L
  rw[Qb L,N];revert N;intro _;cases ks.any (Nat.beq j)<;>cases O:hk H j<;>try rfl
  rename_i v;cases W:v.ref with
  |none=>simp[rin,W]
  |some i=>simp only[cond_false,Xn,Wp,rin,W,Xy,List.any_nil,Bool.or_false];cases V:ks.any (Nat.beq i)<;>cases hb2:Nat.beq i k<;>simp_all [rin,Res.ref]
def kld (js:List Nat)(H:List (Nat×Res))(ks:List Nat):List (Nat×Res):=ded ks (ded js H)
def hk_kld {H:List (Nat×Res)}{ks js:List Nat}(h:hng ks js H=true)(j:Nat):hk (kld js H ks) j=hk (kill ks H) j\/(hk (kld js H ks) j=some .dead/\hk (kill ks H) j=none):=by
 rw[kld,Qgt,Qgt,Qer];cases ks.any (Nat.beq j)with
 |true=>exact .inl rfl
 |false=>exact hng_at h j
def Qfl: ∀{A H H':List (Nat×Res)},(∀j,hk H' j=hk H j\/(hk H' j=some .dead/\hk H j=none))->∀j,hk (hcat A H') j=hk (hcat A H) j\/(hk (hcat A H') j=some .dead/\hk (hcat A H) j=none)
 | [],_,_,h,j=>h j
 |(d,u)::A,H,H',h,j=>by
  show hk ((d,u)::hcat A H') j=hk ((d,u)::hcat A H) j\/(hk ((d,u)::hcat A H') j=some .dead/\hk ((d,u)::hcat A H) j=none);rw[Qaa,Qaa];by_cases L:d=j;rw[Qc L,Qc L];exact .inl rfl;rw[Qb L,Qb L];exact Qfl (A:=A) h j
def AL.call (n:Nat)(js:List Nat){f:FuncId}{c:Operand}{xs:List Operand}{vs vs' first cap:List Value}{ts:Array TypeId}{H0:List (Nat×Res)}{ms:List (Nat×Nat)}{ls:List Nat}{S:List Nat}{R:Value->List (Nat×Res)->Prop}
  (L: ∀args w,(callFunc f args).run P w=.ok (.enter f args) w) (N:Ct P f vs' H0 S R) (hs:Sub H H0 ms ls)
  (h: ∀v H',R v H'->(outs H'&&frs n H H')=true/\AL r P ops Q rest C ((d,v)::l) (hcat (sft n H') (kld js H (ms.map (·.2)))))
  (hc:ev l c=some (.func (.func f) first.toArray cap.toArray):=by rfl) (hx:evs l xs=some vs:=by rfl) (hv:first++vs++cap=vs':=by rfl) (hS:blks H ms=S:=by rfl) (h1:nod (H0.map (·.1))=true:=by rfl) (h2:nod (ms.map (·.2))=true:=by rfl) (h3:ls.all (λk=> !(ms.map (·.2)).any (Nat.beq k))=true:=by rfl) (hd:Nat.ble (d+1) C.n=true:=by rfl) (hj:hng (ms.map (·.2)) js H=true:=by kernel_rfl):
  AL r P ops Q (⟨some d,.call {callee:=.value c,args:=xs.toArray,argTypes:=ts},T,pos,af,none⟩::rest) C l H:=λa w V W=>by
 subst hS;subst hv;refine Z.call1 V hd (r_callv L V (first:=first) (cap:=cap) (vs:=vs) (xs:=xs) hc hx) (N w (Fh C H) (hs.hp W h1 h2 h3)) λe w' ⟨v,H',he,hR,hh'⟩=>⟨v,he,λa' hf'=>?_⟩;obtain⟨O,h5⟩:=h v H' hR;rw[Qp]at O;exact h5 a' w' hf' ((W.back hh' O.1 O.2).ext (Qfl (hk_kld hj)))
end
def pk_kont {r:Option Nat}{P:Program}{Y:Exit->Act->World->Prop}(hp:Pq Y): ∀{K:List Kx},Pq (kont r P Y K)
 | []=>hp
 | .c _::K=>λc a d v w h=>pk_kont hp (K:=K) c a d v w h
 | .b _::K=>λc a d v w h=>pk_kont hp (K:=K) c a d v w h
 | .m _::K=>λc a d v w h=>pk_kont hp (K:=K) c a d v w h
 | .s::K=>λc a d v w h=>pk_kont hp (K:=K) c a d v w h
section
variable {r:Option Nat}{P:Program}{ops:Array Oper}{Q:Exit->Act->World->Prop}{S S':World->Prop}{m:Nat}
def gn (ops:Array Oper)(li:Array Bool)(m:Nat):Bool:=(ops[m]?).isSome&&li.getD m false
def Hem (r:Option Nat)(P:Program)(ops:Array Oper)(Q:Exit->Act->World->Prop)(S:World->Prop)(m:Nat):Nat->Array Bool->Act->World->Prop
 |0,listed,a,w=>Region.ready .any ops listed=[]/\Q .normal a w
 |f+1,listed,a,w=>(Region.ready .any ops listed=[]->Q .normal a w)/\
  ∀i∈Region.ready .any ops listed,wpOpIn (FW r) 0 P ops Q i (λa' w'=>(gn ops (listed.setIfInBounds i true) m=false->S w')/\Hem r P ops Q S m f (listed.setIfInBounds i true) a' w') a w
def Hem.any: ∀(f:Nat) (listed:Array Bool) (a:Act) (w:World),Hem r P ops Q S m f listed a w->wpAnyIn (FW r) 0 P .any ops Q f listed a w
 |0,_,_,_,h=>h
 |f+1,_,_,_,h=>⟨h.1,λi L=>wpOpIn_mono (λa' w' h'=>Hem.any f _ a' w' h'.2) (h.2 i L)⟩
def bonf (ops:Array Oper)(i:Nat):Nat->Nat->Bool
 |0,_=>false
 |f+1,m=>match ops[m]? with
  |none=>false
  |some o=>(o.after.any λe=>Region.binds .any e&&Nat.beq e.on i)||o.after.any λe=>Region.binds .any e&&bonf ops i f e.on
def bon (ops:Array Oper)(m i:Nat):Bool:=match ops[m]? with
 |none=>true
 |some _=> !(Nat.beq i m)&&bonf ops i 12 m
def Clo (ops:Array Oper)(li:Array Bool):Prop:=∀k o,ops[k]?=some o->li.getD k false=true->∀e∈o.after,Region.binds .any e=true->li.getD e.on false=true
def cloB (ops:Array Oper)(li:Array Bool):Bool:=(List.range ops.size).all λk=>match ops[k]? with
 |none=>true
 |some o=> !(li.getD k false)||o.after.all λe=> !(Region.binds .any e)||li.getD e.on false
def clo_of {ops:Array Oper}{li:Array Bool}(h:cloB ops li=true):Clo ops li:=λk o hk L e N O=>by
 have:=Wv.1 h k (Y0.2 (Qv.1 hk).1);rw[hk]at this;simp only[L,Xe,Xn]at this;have V:=(Array.all_eq_true_iff_forall_mem.1 this) e N;simpa[O] using V
def Qdm {li:Array Bool}{j k:Nat}(h:li.getD k false=true):(li.setIfInBounds j true).getD k false=true:=by
 by_cases e:j=k;subst e;by_cases L:j<li.size;simp[L];simp[Ye (Yo L)]at h;rw[getD_set_ne false e];exact h
def Clo.step {ops:Array Oper}{li:Array Bool}{j:Nat}(h:Clo ops li)(hj:j∈Region.ready .any ops li):Clo ops (li.setIfInBounds j true):=λk o hk O e V W=>by
 by_cases N:j=k;subst N;obtain⟨_,oj,L,hall⟩:=mem_ready.1 hj;rw[hk]at L;injection L with L;subst L
 exact Qdm (hall e V W);rw[getD_set_ne false N]at O;exact Qdm (h k o hk O e V W)
def Qdk {ops:Array Oper}{li:Array Bool}{i:Nat}(W:Clo ops li): ∀(f m:Nat) {o:Oper},ops[m]?=some o->(∀e∈o.after,Region.binds .any e=true->li.getD e.on false=true)->bonf ops i f m=true->li.getD i false=true
 |0,_,_,_,_,h=>by cases h
 |f+1,m,o,hm,ha,h=>by
  unfold bonf at h;rw[hm]at h;simp only[Yi,Array.any_eq_true']at h;rcases h with⟨e,O,L⟩|⟨e,O,L⟩
  rw[Qp]at L;rw[<-Wm L.2];exact ha e O L.1;rw[Qp]at L;have N:=L.2;cases f with
  |zero=>cases N
  |succ f=>
   cases V:ops[e.on]? with
   |none=>unfold bonf at N;rw[V]at N;cases N
   |some o'=>exact Qdk W (f+1) e.on V (W e.on o' V (ha e O L.1)) N
def gn_ne {li:Array Bool}{i:Nat}(h:i≠m):gn ops (li.setIfInBounds i true) m=gn ops li m:=by unfold gn;rw[getD_set_ne false h]
def Qfr {li:Array Bool}{j:Nat}(h:gn ops (li.setIfInBounds j true) m=false):gn ops li m=false:=by
 cases L:gn ops li m with
 |false=>rfl
 |true=>
  unfold gn at h L;rw[Qp]at L;rw[L.1,Qdm L.2]at h;cases h
def bon_ne {i:Nat}{oi:Oper}(L:ops[i]?=some oi)(h:bon ops m i=true):i≠m:=λe=>by
 subst e;unfold bon at h;rw[L]at h;simp only[Qp,Y1,Xe,Qw,false_and]at h
def bon_gn {li:Array Bool}{i:Nat}(hc:Clo ops li)(O:bon ops m i=true)(hr:i∈Region.ready .any ops li):gn ops li m=false:=by
 cases L:gn ops li m with
 |false=>rfl
 |true=>
  unfold gn at L;rw[Qp]at L;unfold bon at O;cases V:ops[m]? with
  |none=>rw[V]at L;cases L.1
  |some om=>
   rw[V]at O;simp only[Qp]at O;have W:=Qdk hc 12 m V (hc m om V L.2) O.2;have h0:=(mem_ready.1 hr).1;by_cases N:i<li.size;simp[N]at h0 W;rw[h0]at W;cases W;simp[Ye (Yo N)]at W
def Hem.first {T:World->Prop}{i:Nat}{oi:Oper}{v:Value}(hn:Qay ops=true)(hi:ops[i]?=some oi)(hs:Region.noSelect ops=true)(hne:i≠m)(N:(bon ops m i=true/\∀w,S w->T w)\/∀w,T w)(hQ: ∀c a w,Q (.panic c) (a.put oi.dst v) w->Q (.panic c) a w): ∀(f:Nat) (listed:Array Bool) (a:Act) (w:World),Clo ops listed->
  (∀j oj,ops[j]?=some oj->j≠i->listed.getD j true=false->(∀e∈oj.after,Region.binds .any e=true->e.on≠i)->oi.apart ops oj=true)->i∈Region.ready .any ops listed->YieldsIf P ops T oi v a->(gn ops listed m=false->S w)->
  Hem r P ops Q S m f (listed.setIfInBounds i true) (a.put oi.dst v) w->Hem r P ops Q S m (f+1) listed a w
 |0,listed,a,w,O,_,V,hy,hS,H=>⟨λh=>(by rw[h]at V;cases V),λj hj=>by
   have hT:T w:=by
    rcases N with N|N
    exact N.2 w (hS (bon_gn O N.1 V));exact N w
   by_cases L:j=i;subst L;exact Hel.op (Qbc hn hi) hi hy hT ⟨λh=>hS (Qfr h),H⟩;have:=ready_mono hj L;rw[H.1]at this;cases this⟩
 |f+1,listed,a,w,O,hfree,V,hy,hS,H=>⟨λh=>(by rw[h]at V;cases V),λj hj=>by
   have hT:T w:=by
    rcases N with N|N
    exact N.2 w (hS (bon_gn O N.1 V));exact N w
   by_cases L:j=i;subst L;exact Hel.op (Qbc hn hi) hi hy hT ⟨λh=>hS (Qfr h),H⟩;have h1:=H.2 j (ready_mono hj L);obtain⟨hun,oj,W,hall⟩:=mem_ready.1 hj;have hno: ∀e∈oj.after,Region.binds .any e=true->e.on≠i:=λe he N heq=>by
    have hl:=hall e he N;have h0:=(mem_ready.1 V).1;rw[heq]at hl;by_cases hsz:i<listed.size;simp[hsz]at h0 hl;rw[h0]at hl;cases hl;simp[Ye (Yo hsz)]at hl
   have h2:=Hel.put (Qbc hn W) W (hfree j oj W L hun hno) (λcs b=>Region.noSelect_spec hs i oi cs b hi) (λcs b=>Region.noSelect_spec hs j oj cs b W) hQ hy h1;refine wpOpIn_mono (λa' w' h3=>?_) h2;have hS':gn ops (listed.setIfInBounds j true) m=false->S w':=λh=>h3.2.1 (by rw[Array.setIfInBounds_comm _ _ (Ne.symm L),gn_ne hne];exact h);refine⟨hS',Hem.first hn hi hs hne N hQ f _ a' w' (O.step hj) (λk ok hk hki hkun hkno=>hfree k ok hk hki ?_ hkno) (ready_mono V (Ne.symm L)) h3.1 hS' ?_⟩;by_cases hjk:j=k;subst hjk;exact hun;rwa[getD_set_ne true hjk]at hkun;rw[Array.setIfInBounds_comm _ _ L];exact h3.2.2⟩
def Hem.str (L: ∀w,S' w->S w): ∀(f:Nat) (li:Array Bool) (a:Act) (w:World),Hem r P ops Q S' m f li a w->Hem r P ops Q S m f li a w
 |0,_,_,_,h=>h
 |f+1,li,a,w,h=>⟨h.1,λi N=>wpOpIn_mono (λa' w' h'=>⟨λO=>L w' (h'.1 O),Hem.str L f _ a' w' h'.2⟩) (h.2 i N)⟩
def HZ (r:Option Nat)(P:Program)(ops:Array Oper)(Q:Exit->Act->World->Prop)(S:World->Prop)(m fuel:Nat)(listed:Array Bool)(i:Nat):Exit->Act->World->Prop
 | .normal,a,w=>(gn ops (listed.setIfInBounds i true) m=false->S w)/\Hem r P ops Q S m fuel (listed.setIfInBounds i true) a w
 |e,a,w=>Q e a w
def Hem.list {a:Act}{w:World}{fuel:Nat}{listed:Array Bool}{i:Nat}{o:Oper}(V:ops[i]?=some o)(h:WL r P ops (HZ r P ops Q S m fuel listed i) [o] a w):wpOpIn (FW r) 0 P ops Q i (λa' w'=>(gn ops (listed.setIfInBounds i true) m=false->S w')/\Hem r P ops Q S m fuel (listed.setIfInBounds i true) a' w') a w:=by
 unfold wpOpIn;rw[V];simp only[];unfold WL wpListIn at h;by_cases O:Region.wanted o (yielded ops a.tmps)=true;rw[Qc O]at h ⊢;refine⟨h.1,?_⟩;have h:=h.2;generalize (o.semAt (FW r).round a.eval).run P w=res at h ⊢;cases res with
 |ok x w'=>
  cases x with
  |enter f args=>exact⟨h.1,CallsIn.mono h.2 λe w'' L=>by cases e<;>first|exact L|exact L.elim λ_ N=>N.elim λ_ N=>⟨_,_,N⟩⟩
  |row row args=>exact⟨h.1,RowsIn.mono h.2 λ_ _ L=>L⟩
  |round l f tmps assign body=>exact⟨h.1,RoundIn.mono h.2 λe w'' L=>by cases e<;>first|exact L|exact L.elim λ_ N=>N.elim λ_ N=>⟨_,_,N⟩⟩
  |_=>exact h
 |halt x w'=>cases x<;>exact h
 rw[Qb O]at h ⊢;exact h
section
variable {K:Kn}{w:World}{n:Nat}{ds:List Deferred}
def dqm_walk {li':Array Bool}{f:Nat}(W:(Region.noSelect ops&&Qay ops)=true)(hQ: ∀c a d v w,Q (.panic c) (Act.put a d v) w->Q (.panic c) a w){bb:Nat->Bool}(N: ∀i,bb i=true->∀o,ops[i]?=some o->i≠m/\((bon ops m i=true/\∀w,S w->K.ok w)\/∀w,K.ok w)):
  ∀{is:List (Nat×Hint)} {li:Array Bool} {s s':QS} {a:Act},(gn ops li m=false->S w)->Clo ops li->is.all (λp=>bb p.1)=true->dqs P K n ops is li s=some (li',s')->(∀p,p∈s'.c->p)->(∀p,p∈s'.q->p.1=p.2)->s.ok a n ds->(∀a',s'.ok a' n ds->Hem r P ops Q S m f li' a' w)->Hem r P ops Q S m (f+is.length) li a w
 | [],_,s,s',a,_,_,_,hq,_,_,hs,h=>by simp only[dqs,Qr,Yq]at hq;obtain⟨h1,h2⟩:=hq;subst h1;subst h2;exact h a hs
 |(i,g)::is,li,s,s',a,hS,O,hb,hq,hc,he,hs0,h=>by
  have hn':=W;rw[Qp]at W;rw[Xo,Qp]at hb;unfold dqs at hq;split at hq;rename_i o hi;split at hq;rename_i L;rw[Qp]at L;split at hq;rename_i s1 h1;have V:=dqs_le hq;obtain⟨d,v,hd,k1,k2,k3⟩:=o_ch hs0 h1 (λp hp=>hc p (V.c p hp)) (λp hp=>he p (V.q p hp));have hrest:Hem r P ops Q S m (f+is.length) (li.setIfInBounds i true) (a.put (some d) v) w:=dqm_walk hn' hQ N (λhg=>hS (Qfr hg)) (O.step (by simpa using L.2)) hb.2 hq hc he k1 h;obtain⟨hne,hb1⟩:=N i hb.1 o hi;refine Hem.first (T:=K.ok) W.2 hi W.1 hne hb1 (λc a w=>hQ c a _ v w) _ li a w O (Region.free_spec hi L.1) (by simpa using L.2) ?_ hS (by rw[hd];exact hrest);rcases k3 with⟨hw,hv⟩|⟨hw,rfl⟩
  exact .inl ⟨hw,hv⟩;exact .inr ⟨hw,rfl⟩;cases hq;cases hq;cases hq
end
variable {C:Cx}{l:List (Nat×Value)}{H Hq:List (Nat×Res)}{f:Nat}{li:List Bool}
abbrev AH (r:Option Nat) (P:Program) (ops:Array Oper) (Q:Exit->Act->World->Prop) (Hq:List (Nat×Res)) (m f:Nat) (li:List Bool) (C:Cx) (l:List (Nat×Value)) (H:List (Nat×Res)):Prop:=
 ∀a w,Fr a C.n C.ds l->Hp C H w->Hem r P ops Q (Hp C Hq) m f li.toArray a w
def Hp.drew {w w':World}(h:Hp C H w)(N:Ch [] w w'):Hp C H w':=by
 refine⟨?_,λk r O=>?_,λk b W=>?_,h.dis,h.ref⟩;have L:=h.ch;exact⟨N.os.trans L.os,N.tape.trans L.tape,N.output.trans L.output,Wr L.size N.size,λb hb' hn=>by rw[N.block b (Q3 hb' L.size) (by simp)];exact L.block b hb' hn⟩;exact Res.to (h.hold k r O) N (λb hF _=>⟨by simp,hF⟩) (λb V _=>⟨by simp,V⟩) (λi b _ V=>⟨by simp,V⟩) (by simp);exact⟨(h.bnd k b W).1,Q3 (h.bnd k b W).2 N.size⟩
def AX.dr {Y:Exit->Act->World->Prop}{K:List Kx}{id:Nat}{lo:List Oper}(N:P.follows .mixedOrders=true)(m f:Nat)(li:List Bool)(h:AH r P lo.toArray (kont r P Y K) [] m f li C l H)(L:lo.toArray.size=f:=by rfl)(O:(Array.replicate lo.toArray.size false).toList=li:=by kernel_rfl):
  AX r P Y K (.region id lo.toArray true) C l H:=λa w V W=>by
 subst L;subst O;have:=h a _ V (Hp.drew W (Ch.drew w));rw[Wy]at this;exact wpIn_region_any N (Hem.any _ _ _ _ this)
def AH.str (gs:List Nat){Hq':List (Nat×Res)}(h:AH r P ops Q Hq' m f li C l H)(e:kpH Hq' gs gs=Hq:=by kernel_rfl):AH r P ops Q Hq m f li C l H:=λa w L N=>
 Hem.str (λw h=>h.cov gs e) _ _ a w (h a w L N)
def AH.q (hQ:Pq Q)(gs qs bs es:List Nat)(li':List Bool)(f:Nat)(is:List (Nat×Hint))(ks:List Nat)(cs:List Prop)(nl:List (Nat×Value)){g:Nat}(hc:conj cs)(h:AH r P ops Q (kpH H qs qs) m f li' C (cat nl l) H)
  (hg:g=f+is.length:=by rfl) (hb:is.all (λp=>bon ops m p.1)=true:=by kernel_rfl) (V:cloB ops li.toArray=true:=by kernel_rfl) (hn:(Region.noSelect ops&&Qay ops)=true:=by kernel_rfl)
  (hq:((dqs P ⟨knb (kpH H qs qs) bs,kne (kpH H qs qs) es⟩ C.n ops is li.toArray (q0 l)).bind λx=>(qfin l ks x.2).map λy=>(x.1.toList,y))=some (li',cs,nl):=by kernel_rfl)
  (O:(dqs P ⟨knb (kpH H qs qs) bs,kne (kpH H qs qs) es⟩ C.n ops is li.toArray (q0 l)).map (λs=>s.2.q.map Prod.fst)=(dqs P ⟨knb (kpH H qs qs) bs,kne (kpH H qs qs) es⟩ C.n ops is li.toArray (q0 l)).map (λs=>s.2.q.map Prod.snd):=by kernel_rfl)
  (e:kpH (kpH H qs qs) gs gs=Hq:=by kernel_rfl):AH r P ops Q Hq m g li C l H:=AH.str gs (e:=e) λa w hf hh=>by
 subst hg;cases N:dqs P ⟨knb (kpH H qs qs) bs,kne (kpH H qs qs) es⟩ C.n ops is li.toArray (q0 l)with
 |none=>rw[N]at hq;cases hq
 |some x=>
  obtain⟨li1,s'⟩:=x;rw[N]at hq O;have hq:((qfin l ks s').map λy=>(li1.toList,y))=some (li',cs,nl):=hq;have O:s'.q.map Prod.fst=s'.q.map Prod.snd:=by injection O
  cases L:qfin l ks s' with
  |none=>rw[L]at hq;cases hq
  |some y=>
   obtain⟨cs1,nl1⟩:=y;rw[L]at hq;simp only[Wp,Qr,Yq]at hq;obtain⟨h1,h2,h3⟩:=hq;subst h1;subst h2;subst h3;have W:s'.c=cs1:=by unfold qfin at L;split at L;(injection L with L;injection L);cases L
   exact dqm_walk hn hQ (bb:=λi=>bon ops m i) (λi hi o ho=>⟨bon_ne ho hi,.inl ⟨hi,λw' h'=>o_cj h' bs es⟩⟩) (λ_=>hh.keep qs) (clo_of V) hb N (by rw[W];exact Qfd hc) (Qdx O) (o_ci hf) λa' hok=>by
    have:=h a' w (qfin_fr hok (dqs_inv (q0_inv l) N) L).1 hh;rwa[Wy]at this
def AH.v (hQ:Pq Q)(gs qs:List Nat)(i:Nat)(li':List Bool){d:Nat}{op:Op}{T:TypeId}{pos:String}{af:Array Edge}{v:Value}(N:ops[i]?=some ⟨some d,op,T,pos,af,none⟩)(hr: ∀a w,Fr a C.n C.ds l->Hp C (kpH H qs qs) w->(execOp a.eval ⟨some d,op,T,pos,af,none⟩).run P w=.ok (.value v) w)
  (h:AH r P ops Q (kpH H qs qs) m f li' C ((d,v)::l) H) (W:bon ops m i=true:=by kernel_rfl) (O:cloB ops li.toArray=true:=by kernel_rfl) (hl:(li.toArray.setIfInBounds i true).toList=li':=by kernel_rfl) (hd:Nat.ble (d+1) C.n=true:=by rfl) (V:(Region.noSelect ops&&Qay ops)=true:=by kernel_rfl)
  (L:(Region.free .any ops li.toArray i&&(Region.ready .any ops li.toArray).contains i)=true:=by kernel_rfl) (e:kpH (kpH H qs qs) gs gs=Hq:=by kernel_rfl):AH r P ops Q Hq m (f+1) li C l H:=AH.str gs (e:=e) λa w hf hh=>by
 rw[Qp]at V L;refine Hem.first (T:=Hp C (kpH H qs qs)) V.2 N V.1 (bon_ne N W) (.inl ⟨W,λ_ h=>h⟩) (λc a w=>hQ c a _ _ w) f li.toArray a w (clo_of O) (Region.free_spec N L.1) (by simpa using L.2) (.inl ⟨Qbr,λw' h'=>hr a w' hf h'⟩) (λ_=>hh.keep qs) ?_;have:=h _ w (hf.put (Qq hd) v) hh;rw[<-hl,Wy]at this;exact this
def AH.vg (hQ:Pq Q)(gs qs:List Nat)(i:Nat)(li':List Bool){d j dj:Nat}{b:Bool}{op:Op}{T:TypeId}{pos:String}{af:Array Edge}{v:Value}(N:ops[i]?=some ⟨some d,op,T,pos,af,some (j,b)⟩)(hr: ∀a w,Fr a C.n C.ds l->Hp C (kpH H qs qs) w->(execOp a.eval ⟨some d,op,T,pos,af,none⟩).run P w=.ok (.value v) w)
  (h:AH r P ops Q (kpH H qs qs) m f li' C ((d,v)::l) H) (hj:(ops[j]?).bind (·.dst)=some dj:=by rfl) (O:lk l dj=some (.bool b):=by rfl) (hb:bon ops m i=true:=by kernel_rfl) (V:cloB ops li.toArray=true:=by kernel_rfl) (hl:(li.toArray.setIfInBounds i true).toList=li':=by kernel_rfl) (hd:Nat.ble (d+1) C.n=true:=by rfl) (W:(Region.noSelect ops&&Qay ops)=true:=by kernel_rfl)
  (L:(Region.free .any ops li.toArray i&&(Region.ready .any ops li.toArray).contains i)=true:=by kernel_rfl) (e:kpH (kpH H qs qs) gs gs=Hq:=by kernel_rfl):AH r P ops Q Hq m (f+1) li C l H:=AH.str gs (e:=e) λa w hf hh=>by
 rw[Qp]at W L;refine Hem.first (T:=Hp C (kpH H qs qs)) W.2 N W.1 (bon_ne N hb) (.inl ⟨hb,λ_ h=>h⟩) (λc a w=>hQ c a _ _ w) f li.toArray a w (clo_of V) (Region.free_spec N L.1) (by simpa using L.2) (.inl ⟨Qbv hf hj O,λw' h'=>hr a w' hf h'⟩) (λ_=>hh.keep qs) ?_;have:=h _ w (hf.put (Qq hd) v) hh;rw[<-hl,Wy]at this;exact this
def AH.one (i:Nat){o:Oper}(h:AL r P ops (HZ r P ops Q (Hp C Hq) m f li.toArray i) [o] C l H)(V:ops[i]?=some o:=by rfl)(L:Region.ready .any ops li.toArray=[i]:=by kernel_rfl):AH r P ops Q Hq m (f+1) li C l H:=λa w W hh=>
 ⟨λN=>(by rw[L]at N;cases N),λj O=>by rw[L,Qk]at O;subst O;exact Hem.list V (h a w W hh)⟩
def AH.two (i j:Nat){oi oj:Oper}(W:AL r P ops (HZ r P ops Q (Hp C Hq) m f li.toArray i) [oi] C l H)(h2:AL r P ops (HZ r P ops Q (Hp C Hq) m f li.toArray j) [oj] C l H)(hi:ops[i]?=some oi:=by rfl)(hj:ops[j]?=some oj:=by rfl)(L:Region.ready .any ops li.toArray=[i,j]:=by kernel_rfl):
  AH r P ops Q Hq m (f+1) li C l H:=λa w N O=>
 ⟨λV=>(by rw[L]at V;cases V),λk hk=>by
  rw[L]at hk;simp only[Qn,Y4,or_false]at hk;rcases hk with rfl|rfl
  exact Hem.list hi (W a w N O);exact Hem.list hj (h2 a w N O)⟩
def AH.nx {i:Nat}(li':List Bool)(gs:List Nat)(h:AH r P ops Q Hq m f li' C l H)(e:kpH H gs gs=Hq:=by kernel_rfl)(N:(li.toArray.setIfInBounds i true).toList=li':=by kernel_rfl):AL r P ops (HZ r P ops Q (Hp C Hq) m f li.toArray i) [] C l H:=λa w O L=>by
 refine Z.done ?_;show(_->Hp C Hq w)/\_;have:=h a w O L;rw[<-N,Wy]at this;exact⟨λ_=>L.cov gs e,this⟩
def AH.nm {i:Nat}(li':List Bool)(h:AH r P ops Q Hq m f li' C l H)(L:(li.toArray.setIfInBounds i true).toList=li':=by kernel_rfl)(N:gn ops li'.toArray m=true:=by kernel_rfl):AL r P ops (HZ r P ops Q (Hp C Hq) m f li.toArray i) [] C l H:=λa w O V=>by
 refine Z.done ?_;show(_->Hp C Hq w)/\_;have:=h a w O V;rw[<-L,Wy]at this;rw[<-L,Wy]at N;exact⟨λh=>(by rw[N]at h;cases h),this⟩
def AH.done {Y:Exit->Act->World->Prop}{K:List Kx}(h:AE r P Y K .normal C l H)(L:Region.ready .any ops li.toArray=[]:=by kernel_rfl):AH r P ops (kont r P Y K) Hq m f li C l H:=λa w N O=>by
 cases f with
 |zero=>exact⟨L,h a w N O⟩
 |succ f=>exact⟨λ_=>h a w N O,by rw[L];simp⟩
def cov {X:Act->World->Prop}{l':List (Nat×Value)}{H':List (Nat×Res)}(gs:List Nat)(h: ∀a w,Fr a C.n C.ds l'->Hp C H' w->X a w)(L:kp l (l'.map (·.1))=l':=by kernel_rfl)(N:kpH H gs gs=H':=by kernel_rfl): ∀a w,Fr a C.n C.ds l->Hp C H w->X a w:=λa w O V=>h a w (Fr.cov O L) (V.cov gs N)
end
def peek {C:Cx}{H:List (Nat×Res)}{w:World}(hh:Hp C H w)(k kn:Nat){t:Ty}{A:Option Addr}{c:Nat}{xs:List t.den}{i:Int}{v:t.den}(hi:ix xs i=some v)(hrow: ∀w,Hp C H w->∃G:Nat->Prop,Row t w (Fh C H) G A c xs/\∀b,G b->∀k,¬Bk H k b)(V:nok H kn (1+lv t)=true):
  ∃ps:Lf,ps.length=lv t/\t.ok v/\∃b o,A=some ⟨b,o,none⟩/\Hp C (hcat (kx (kn+1) (rs t v ps)) ((kn,.el none b (o+i.toNat*t.size) (cl t v ps))::H)) w:=by
 obtain⟨k,rfl,hv⟩:=Qaq hi;obtain⟨G,hR,hG⟩:=hrow w hh;obtain⟨b,o,es,hA,hb,W,hc,hr⟩:=hR.at hv;obtain⟨ps,hl,rfl,hrs⟩:=rep_cl (B:=Bk H) t (Qaf t hr);have O:hk H kn=none:=Qbh V (Q4 _) (by omega);have h1:Hp C ((kn,.el none b (o+k*t.size) (cl t v ps))::H) w:=hh.add O rfl (λj L=>by cases L) ⟨hc,W,hG b hb⟩;have hnn: ∀n k',nok H k' n=true->(∀j,k'<=j->j<k'+n->j≠kn)->nok ((kn,.el none b (o+k*t.size) (cl t v ps))::H) k' n=true:=by
  intro n;induction n with
  |zero=>intro _ _ _;rfl
  |succ n ih=>
   intro k' h2 h3;simp only[nok,Qp]at h2 ⊢;refine⟨?_,ih (k'+1) h2.2 λj h4 h5=>h3 j (by omega) (by omega)⟩;rw[Qaa,Qb (Ne.symm (h3 k' (Q4 _) (by omega)))];exact h2.1
 have hn2:nok H (kn+1) (rs t v ps).length=true:=by
  rw[Qcu t v ps hl];rw[Yg 1]at V;simp only[nok,Qp]at V;exact V.2
 refine⟨ps,hl,rep_ok t hr,b,o,hA,?_⟩;rw[Q0];refine h1.adds (hnn _ _ hn2 λj h4 _=>by omega) λr2 h4=>?_;obtain⟨h5,h6,h7⟩:=hrs r2 h4;have N: ∀j b',Bk ((kn,.el none b (o+k*t.size) (cl t v ps))::H) j b'↔Bk H j b':=λj b'=>by
  by_cases L:j=kn;subst L;rw[Bk.cons_eq];exact⟨λh=>by simp[Res.bl]at h,λ⟨_,h8,_⟩=>by rw[O]at h8;cases h8⟩;exact Bk.cons_ne L
 exact⟨h6,h7,Res.to h5 (S:=[]) (Ch.refl w) (λb' hF _=>⟨by simp,⟨λj L=>hF.1.1 j ((N j b').1 L),hF.1.2⟩,hF.2⟩) (λb' hB _=>⟨by simp,λj L=>hB j ((N j b').1 L)⟩) (λi b' _ hB=>⟨by simp,(N i b').2 hB⟩) (by simp)⟩
def Hp.blk {C:Cx}{H:List (Nat×Res)}{w:World}{g:Nat}{e:TypeId}{cs:List Value}(L:Hp C H w)(k:Nat)(h:hk H k=some (.blk g e cs):=by rfl):Blk w g e cs:=L.hold k _ h
def FU:Nat:=340282366920938463463374607431768211456
def gd {α:Type}(p:Prop)[Decidable p](x:Option α):Option α:=if p then x else none
def gd_some {α:Type}{p:Prop}[Decidable p]{x:Option α}{y:α}(h:gd p x=some y):p/\x=some y:=by
 unfold gd at h;split at h;exact⟨‹p›,h⟩;cases h
def bd_some {α β:Type}{x:Option α}{f:α->Option β}{y:β}(h:x.bind f=some y): ∃v,x=some v/\f v=some y:=Yw.1 h
def no0 {α:Type}{y:α}{p:Prop}(h:(none:Option α)=some y):p:=by cases h
def ix_nat {α:Type}(xs:List α)(k:Nat):ix xs (k:Int)=xs[k]?:=by unfold ix;rw[Qb (by omega),Q0]
def o_co {α:Type}{xs:List α}{i:Int}{x:α}(h:ix xs i=some x):0<=i/\i<xs.length:=by
 obtain⟨k,rfl,L⟩:=Qaq h;have:=(Qd.1 L).1;omega
instance (k:IntKind) (n:Int):Decidable (k.has n):=by unfold IntKind.has;infer_instance
def hasl (k:IntKind)(n:Int)(h:decide (k.has n)=true):k.has n:=W6 h
def has_len {α:Type}{xs:List α}(h:xs.length<=maxLen):IntKind.i64.has (xs.length:Int):=Z.i64_has (by simp only[maxLen]at h;omega)
def has_nat {n:Nat}(h:n<=maxLen):IntKind.i64.has (n:Int):=Z.i64_has (by simp only[maxLen]at h;omega)
def has_min {k:IntKind}{a b:Int}(L:k.has a)(N:k.has b):k.has (min a b):=by
 rcases Int.le_total a b with h|h
 rw[Int.min_eq_left h];exact L;rw[Int.min_eq_right h];exact N
section
variable {X:Act->World->Prop}{C:Cx}{l:List (Nat×Value)}{H:List (Nat×Res)}
def nil (k:Nat)(t:Ty)(e:TypeId)(h: ∀a w,Fr a C.n C.ds l->Hp C ((k,.own t e none 0 [])::H) w->X a w)(L:hk H k=none:=by kernel_rfl): ∀a w,Fr a C.n C.ds l->Hp C H w->X a w:=λa w N O=>
 h a w N (O.add L rfl (λj V=>by cases V) (Own.nil t e 0 w _))
def snil (k:Nat)(t:Ty)(h: ∀a w,Fr a C.n C.ds l->Hp C ((k,.sh (.slice t) [.slice none 0 0] [])::H) w->X a w)(L:hk H k=none:=by kernel_rfl): ∀a w,Fr a C.n C.ds l->Hp C H w->X a w:=λa w N O=>
 h a w N (O.add L rfl (λj V=>by cases V) (rep_nil t))
def frz (k:Nat)(js:List Nat){t:Ty}{e:TypeId}{A:Option Addr}{c:Nat}{xs:List t.den}(h: ∀a w,Fr a C.n C.ds l->Hp C ((k,.sh (.slice t) [.slice A xs.length c] xs)::ded js H) w->X a w)(L:hk H k=some (.own t e A c xs):=by rfl)(N:hng [k] js H=true:=by kernel_rfl): ∀a w,Fr a C.n C.ds l->Hp C H w->X a w:=λa w O V=>h a w O (Hp.dd (V.frz L) N)
def dup (k W:Nat){r:Res}(h: ∀a w,Fr a C.n C.ds l->Hp C ((W,r)::H) w->X a w)(O:hk H k=some r:=by rfl)(L:r.bl=[]:=by rfl)(hr:r.ref=none:=by rfl)(hn:hk H W=none:=by kernel_rfl): ∀a w,Fr a C.n C.ds l->Hp C H w->X a w:=λa w hf hh=>
 h a w hf (hh.add hn L (λj hj=>by rw[hr]at hj;cases hj) (by
  have N:=hh.hold k r O;cases r with
  |sh t cs x=>exact Qaf t N
  |ln t A c xs=>
   obtain⟨r1,r2,cs,r3,r4,r5⟩:=N;exact⟨r1,r2,cs,r3,r4,λi x V=>Qaf t (r5 i x V)⟩
  |el k b o cs=>exact N
  |dead=>trivial
  |own t e A c xs=>
   obtain⟨cells,o1,o2,o3⟩:=N;exact⟨cells,o1,o2,λi x V=>Qaf t (o3 i x V)⟩
  |blk g e cs=>cases L
  |mp κ enc t agg b m=>cases L
  |mit k g b n seen la=>cases L
  |ob g p=>cases L
  |lmp κ enc t agg b m=>
   obtain⟨⟨es,c1,c2,c3⟩,h2⟩:=N;exact⟨⟨es,c1,c2,λi p hp=>by obtain⟨cs,c4,c5⟩:=c3 i p hp;exact⟨cs,c4,Qaf t c5⟩⟩,h2⟩
  |mr κ enc t e b As m=>cases L
  |gn bs p hp=>exact hp N (S:=[]) (Ch.refl w) (by simp) λb L hl=>⟨by simp,L,hl⟩
  |si g s p=>cases L))
def oks (k:Nat){t:Ty}{A:Option Addr}{c:Nat}{xs:List t.den}(h:(Ty.slice t).ok xs->∀a w,Fr a C.n C.ds l->Hp C H w->X a w)(L:hk H k=some (.sh (.slice t) [.slice A xs.length c] xs):=by rfl): ∀a w,Fr a C.n C.ds l->Hp C H w->X a w:=λa w O N=>
 h (rep_ok _ (N.hold k _ L)) a w O N
def okl (k:Nat){t:Ty}{A:Option Addr}{c:Nat}{xs:List t.den}(h:(Ty.slice t).ok xs->∀a w,Fr a C.n C.ds l->Hp C H w->X a w)(L:hk H k=some (.ln t A c xs):=by rfl): ∀a w,Fr a C.n C.ds l->Hp C H w->X a w:=λa w V O=>by
 obtain⟨G,N,_⟩:=rowL L w O;exact h ⟨Wr N.1 N.2.1,N.ok⟩ a w V O
def oko (k:Nat){t:Ty}{e:TypeId}{A:Option Addr}{c:Nat}{xs:List t.den}(h:(Ty.slice t).ok xs->∀a w,Fr a C.n C.ds l->Hp C H w->X a w)(L:hk H k=some (.own t e A c xs):=by rfl): ∀a w,Fr a C.n C.ds l->Hp C H w->X a w:=λa w V O=>by
 obtain⟨G,N,_⟩:=rowO L w O;exact h ⟨Wr N.1 N.2.1,N.ok⟩ a w V O
def cst (d:Nat){v v':Value}(e:v=v')(h: ∀a w,Fr a C.n C.ds ((d,v')::l)->Hp C H w->X a w)(N:lk l d=some v:=by rfl): ∀a w,Fr a C.n C.ds l->Hp C H w->X a w:=λa w L O=>h a w (L.cons L (by rw[N,e])) O
def Hp.mv {w:World}(O:Hp C H w){k k2:Nat}{r:Res}(h1:hk H k=some r)(hne:k2≠k)(h2: ∀u,hk H k2=some u->u=.dead)(hr:r.ref=none):Hp C ((k2,r)::(k,.dead)::drp k H) w:=by
 have hd:Hp C ((k,.dead)::drp k H) w:=O.upd (S:=[]) (Ch.refl w) (by simp) (by simp[Res.bl]) (λj L=>by cases L) λ_ _ _ _ _ _ _=>trivial;have hbk: ∀j b,Bk ((k2,r)::(k,.dead)::drp k H) j b->(j=k2/\b∈r.bl)\/(j≠k2/\j≠k/\Bk H j b):=λj b ⟨r2,N,h4⟩=>by
  rw[Qaa]at N;split at N;rename_i e;injection N with N;subst N;exact .inl ⟨e.symm,h4⟩
  rename_i hn;rw[Qaa]at N;split at N;injection N with N;subst N;cases h4
  rename_i hn2;rcases Qby k H j r2 N with rfl|⟨V,_⟩
  cases h4;exact .inr ⟨Ne.symm hn,Ne.symm hn2,r2,V,h4⟩
 have hnb: ∀b,(∀j,¬Bk H j b)->∀j,¬Bk ((k2,r)::(k,.dead)::drp k H) j b:=λb hB j L=>by
  rcases hbk j b L with⟨_,N⟩|⟨_,_,N⟩
  exact hB k ⟨r,h1,N⟩;exact hB j N
 refine⟨O.ch,λj r2 L=>?_,λj b L=>?_,λj j' b L hj'=>?_,λj r2 i L hri=>?_⟩;rw[Qaa]at L;split at L;injection L with L;subst L
 exact Res.to (O.hold k r h1) (S:=[]) (Ch.refl w) (λb hF _=>⟨by simp,hnb b hF.1,hF.2⟩) (λb hB _=>⟨by simp,hnb b hB⟩) (λi b hi _=>by rw[hr]at hi;cases hi) (by simp);rename_i hn;rw[Qaa]at L;split at L;injection L with L;subst L;trivial
 rename_i hn2;rcases Qby k H j r2 L with rfl|⟨V,h6⟩
 trivial;refine Res.to (O.hold j r2 V) (S:=[]) (Ch.refl w) (λb hF _=>⟨by simp,hnb b hF.1,hF.2⟩) (λb hB _=>⟨by simp,hnb b hB⟩) (λi b hi hB=>⟨by simp,?_⟩) (by simp);obtain⟨r3,W,h8⟩:=hB;have hik:i≠k:=λe=>h6 (by rw[hi,e]);have hik2:i≠k2:=λe=>by subst e;rw[h2 _ W]at h8;cases h8
 refine⟨r3,?_,h8⟩;rw[Qaa,Qb (Ne.symm hik2),Qaa,Qb (Ne.symm hik)];exact Qdp W (by rw[(O.ref j r2 i V hi).2 r3 W];simp);rcases hbk j b L with⟨_,N⟩|⟨_,_,N⟩
 exact O.bnd k b ⟨r,h1,N⟩;exact O.bnd j b N;rcases hbk j b L with⟨N,h4⟩|⟨_,N,h4⟩<;>rcases hbk j' b hj' with⟨V,h6⟩|⟨_,V,h6⟩
 rw[N,V];exact absurd (O.dis k j' b ⟨r,h1,h4⟩ h6) (Ne.symm V);exact absurd (O.dis k j b ⟨r,h1,h6⟩ h4) (Ne.symm N);exact O.dis j j' b h4 h6;rw[Qaa]at L;split at L;injection L with L;subst L;rw[hr]at hri;cases hri
 rename_i hn;obtain⟨V,h6⟩:=hd.ref j r2 i L hri;refine⟨V,λr3 W=>?_⟩;rw[Qaa]at W;split at W;injection W with W;subst W;exact hr
 exact h6 r3 W
def mv (k O:Nat)(js:List Nat){r:Res}(h: ∀a w,Fr a C.n C.ds l->Hp C ((O,r)::(k,.dead)::ded js H) w->X a w)(L:hk H k=some r:=by rfl)(W:r.ref=none:=by rfl)(N:hk H O=none:=by kernel_rfl)(hj:hng [k] js H=true:=by kernel_rfl): ∀a w,Fr a C.n C.ds l->Hp C H w->X a w:=λa w hf hh=>h a w hf (Hp.dd2 (hh.mv L (λe=>by subst e;rw[L]at N;cases N) (λu V=>by rw[N]at V;cases V) W) hj)
def gone (H:List (Nat×Res))(k:Nat):Bool:=match hk H k with
 |none=>true
 |some .dead=>true
 |_=>false
def mvd (k N:Nat)(js:List Nat){r:Res}(h: ∀a w,Fr a C.n C.ds l->Hp C ((N,r)::(k,.dead)::ded js H) w->X a w)(O:hk H k=some r:=by rfl)(W:r.ref=none:=by rfl)(L:Nat.beq N k=false:=by rfl)(V:gone H N=true:=by kernel_rfl)(hj:hng [k] js H=true:=by kernel_rfl): ∀a w,Fr a C.n C.ds l->Hp C H w->X a w:=λa w hf hh=>h a w hf (Hp.dd2 (hh.mv O (λe=>by rw[e,Y1]at L;cases L) (λu hu=>by
 unfold gone at V;rw[hu]at V;cases u<;>first|rfl|cases V) W) hj)
end
section
variable {r:Option Nat}{P:Program}{ops:Array Oper}{Q:Exit->Act->World->Prop}{C:Cx}{l:List (Nat×Value)}{H Hq:List (Nat×Res)}{m f:Nat}{li:List Bool}
def AH.cnd {ρ:Type}{A B R:Option ρ}{j:Nat}{b:Bool}(O:lk l j=some (.bool b))(L:(if b=true then A else B)=R)(W:A=R->AH r P ops Q Hq m f li C ((j,.bool true)::l) H)(he:B=R->AH r P ops Q Hq m f li C ((j,.bool false)::l) H):AH r P ops Q Hq m f li C l H:=λa w N V=>by
 cases b with
 |true=>rw[Qc rfl]at L;exact W L a w (N.cons N O) V
 |false=>rw[Qb (by simp)]at L;exact he L a w (N.cons N O) V
def AH.cnp {ρ:Type}{A B R:Option ρ}{j:Nat}{p:Prop}[Decidable p](O:lk l j=some (.bool (decide p)))(L:(if p then A else B)=R)(W:p->A=R->AH r P ops Q Hq m f li C ((j,.bool true)::l) H)(he: ¬p->B=R->AH r P ops Q Hq m f li C ((j,.bool false)::l) H):AH r P ops Q Hq m f li C l H:=λa w N V=>by
 by_cases hp:p;rw[Qc hp]at L;exact W hp L a w (N.cons N (by rw[O,Wc hp])) V;rw[Qb hp]at L;exact he hp L a w (N.cons N (by rw[O,Wk hp])) V
def AH.pks (k kn:Nat){t:Ty}{A:Option Addr}{c:Nat}{xs:List t.den}{i:Int}{v:t.den}(O:ix xs i=some v)(h:t.ok v->tele (lv t) λps=>∀b o,A=some ⟨b,o,none⟩->AH r P ops Q Hq m f li C l (hcat (kx (kn+1) (rs t v ps)) ((kn,.el none b (o+i.toNat*t.size) (cl t v ps))::H)))
  (L:hk H k=some (.sh (.slice t) [.slice A xs.length c] xs):=by rfl) (V:nok H kn (1+lv t)=true:=by kernel_rfl):AH r P ops Q Hq m f li C l H:=λa w W hh=>by
 obtain⟨ps,hl,N,b,o,hA,h2⟩:=peek hh k kn O (rowS L) V;exact Qba (h N) ps hl b o hA a w W h2
def AH.pkl (k kn:Nat){t:Ty}{A:Option Addr}{c:Nat}{xs:List t.den}{i:Int}{v:t.den}(O:ix xs i=some v)(h:t.ok v->tele (lv t) λps=>∀b o,A=some ⟨b,o,none⟩->AH r P ops Q Hq m f li C l (hcat (kx (kn+1) (rs t v ps)) ((kn,.el none b (o+i.toNat*t.size) (cl t v ps))::H)))
  (L:hk H k=some (.ln t A c xs):=by rfl) (V:nok H kn (1+lv t)=true:=by kernel_rfl):AH r P ops Q Hq m f li C l H:=λa w W hh=>by
 obtain⟨ps,hl,N,b,o,hA,h2⟩:=peek hh k kn O (rowL L) V;exact Qba (h N) ps hl b o hA a w W h2
def AH.pko (k kn:Nat){t:Ty}{e:TypeId}{A:Option Addr}{c:Nat}{xs:List t.den}{i:Int}{v:t.den}(hi:ix xs i=some v)(h:t.ok v->tele (lv t) λps=>∀g,A=some ⟨g,0,none⟩->AH r P ops Q Hq m f li C l (hcat (kx (kn+1) (rs t v ps)) ((kn,.el (some k) g (i.toNat*t.size) (cl t v ps))::H)))
  (N:hk H k=some (.own t e A c xs):=by rfl) (hn:nok H kn (1+lv t)=true:=by kernel_rfl):AH r P ops Q Hq m f li C l H:=λa w hf hh=>by
 obtain⟨k',rfl,hv⟩:=Qaq hi;obtain⟨G,hR,hG⟩:=rowO N w hh;obtain⟨b,o,es,hA,hb,hbl,hc,O⟩:=hR.at hv;have ho:o=0:=by
  obtain⟨cells,hrow,_⟩:Own t e 0 w (Fh C H) A c xs:=hh.hold k _ N;rcases hrow.2 with⟨hv,_⟩|⟨g,cap,cur,hv,_⟩
  injection hv with hA' _ _;rw[hA]at hA';cases hA'
  injection hv with hA' _ _;rw[hA]at hA';injection hA' with hA';injection hA' with _ h2 _
 subst ho;rw[W9]at hc;obtain⟨ps,hl,rfl,hrs⟩:=rep_cl (B:=Bk H) t (Qaf t O);have hnk:hk H kn=none:=Qbh hn (Q4 _) (by omega);have h1:Hp C ((kn,.el (some k) b (k'*t.size) (cl t v ps))::H) w:=hh.add hnk rfl (λj L r O=>by injection L with L;subst L;rw[N]at O;injection O with O;subst O;rfl) ⟨hc,hbl,hG b hb⟩;have hn2:nok H (kn+1) (rs t v ps).length=true:=by
  rw[Qcu t v ps hl];rw[Yg 1]at hn;simp only[nok,Qp]at hn;exact hn.2
 have hnn: ∀n V,nok H V n=true->(∀j,V<=j->j<V+n->j≠kn)->nok ((kn,.el (some k) b (k'*t.size) (cl t v ps))::H) V n=true:=by
  intro n;induction n with
  |zero=>intro _ _ _;rfl
  |succ n ih=>
   intro V h2 h3;simp only[nok,Qp]at h2 ⊢;refine⟨?_,ih (V+1) h2.2 λj h4 h5=>h3 j (by omega) (by omega)⟩;rw[Qaa,Qb (Ne.symm (h3 V (Q4 _) (by omega)))];exact h2.1
 have h2:Hp C (hcat (kx (kn+1) (rs t v ps)) ((kn,.el (some k) b (k'*t.size) (cl t v ps))::H)) w:=by
  refine h1.adds (hnn _ _ hn2 λj h4 _=>by omega) λr2 h4=>?_;obtain⟨h5,h6,h7⟩:=hrs r2 h4;have W: ∀j b',Bk ((kn,.el (some k) b (k'*t.size) (cl t v ps))::H) j b'↔Bk H j b':=λj b'=>by
   by_cases L:j=kn;subst L;rw[Bk.cons_eq];exact⟨λh=>by simp[Res.bl]at h,λ⟨_,h8,_⟩=>by rw[hnk]at h8;cases h8⟩;exact Bk.cons_ne L
  exact⟨h6,h7,Res.to h5 (S:=[]) (Ch.refl w) (λb' hF _=>⟨by simp,⟨λj L=>hF.1.1 j ((W j b').1 L),hF.1.2⟩,hF.2⟩) (λb' hB _=>⟨by simp,λj L=>hB j ((W j b').1 L)⟩) (λi b' _ hB=>⟨by simp,(W i b').2 hB⟩) (by simp)⟩
 exact Qba (h (rep_ok t O)) ps hl b hA a w hf (by rw[Q0];exact h2)
def r_ixo {a:Act}{w:World}{d:Option Tmp}{T:TypeId}{pos:String}{af:Array Edge}{n:Nat}{ds:List Deferred}{tt e:TypeId}{x y:Operand}{A:Option Addr}{b c:Nat}{t:Ty}{xs:List t.den}{i:Int}{kd:IntKind}{v:t.den}(N:ix xs i=some v)(O:A=some ⟨b,0,none⟩)(L:Fr a n ds l)
  (V:ev l x=some (.slice A xs.length c):=by rfl) (W:ev l y=some (.int kd i):=by rfl) (ht:P.underlying tt=some (.slice e):=by rfl) (hs:szB P e=some t.size:=by kernel_rfl):(execOp a.eval ⟨d,.indexAddr tt x y,T,pos,af,none⟩).run P w=.ok (.value (.pointer (some ⟨b,i.toNat*t.size,none⟩))) w:=by
 obtain⟨k,rfl,hv⟩:=Qaq N;have:=r_indexAddrA (P:=P) (w:=w) (d:=d) (T:=T) (pos:=pos) (af:=af) (gd:=none) ht (Qah hs) (L.eval V) O (L.eval W) rfl (Qd.1 hv).1;rw[Addr.add_lit,W9]at this;exact this
def r_ixt {a:Act}{w:World}{d:Option Tmp}{T:TypeId}{pos:String}{af:Array Edge}{n:Nat}{ds:List Deferred}{tt:TypeId}{x y:Operand}{s:ByteArray}{kd:IntKind}{i:Int}{v:UInt8}(V:ix s.data.toList i=some v)(N:Fr a n ds l)(W:P.underlying tt=some .string:=by rfl)(hx:ev l x=some (.string s):=by rfl)(hy:ev l y=some (.int kd i):=by rfl):
  (execOp a.eval ⟨d,.index tt x y,T,pos,af,none⟩).run P w=.ok (.value (.int .u8 (v.toNat:Int))) w:=by
 obtain⟨k,rfl,O⟩:=Qaq V;have L:=(Qd.1 O).1;have:=r_indexStr (P:=P) (w:=w) (d:=d) (T:=T) (pos:=pos) (af:=af) (gd:=none) W (N.eval hx) (N.eval hy) rfl (show k<s.size from L);rw[this];have hb:bat s k=v:=by
  unfold bat;rw[Wg,<-X9,O];rfl
 rw[hb]
def r_ixa {a:Act}{w:World}{d:Option Tmp}{T:TypeId}{pos:String}{af:Array Edge}{n:Nat}{ds:List Deferred}{tt e:TypeId}{x y:Operand}{A:Option Addr}{b o c:Nat}{t:Ty}{xs:List t.den}{i:Int}{kd:IntKind}{v:t.den}(N:ix xs i=some v)(O:A=some ⟨b,o,none⟩)(L:Fr a n ds l)
  (V:ev l x=some (.slice A xs.length c):=by rfl) (W:ev l y=some (.int kd i):=by rfl) (ht:P.underlying tt=some (.slice e):=by rfl) (hs:szB P e=some t.size:=by kernel_rfl):(execOp a.eval ⟨d,.indexAddr tt x y,T,pos,af,none⟩).run P w=.ok (.value (.pointer (some ⟨b,o+i.toNat*t.size,none⟩))) w:=by
 obtain⟨k,rfl,hv⟩:=Qaq N;have:=r_indexAddrA (P:=P) (w:=w) (d:=d) (T:=T) (pos:=pos) (af:=af) (gd:=none) ht (Qah hs) (L.eval V) O (L.eval W) rfl (Qd.1 hv).1;rw[Addr.add_lit]at this;exact this
end
def lt {α β:Type}(x:α)(f:α->Option β):Option β:=f x
def lt_some {α β:Type}{x:α}{f:α->Option β}{y:β}(h:lt x f=some y): ∃v,x=v/\f v=some y:=⟨x,rfl,h⟩
def seen_lt: ∀{n:Nat} {sn:List Nat},sn.Nodup->(∀i∈sn,i<n)->sn.length<=n
 |0,sn,_,L=>by
  cases sn with
  |nil=>simp
  |cons a l=>exact absurd (L a (Ql ..)) (by omega)
 |n+1,sn,N,L=>by
  have O:(sn.erase n).length<=n:=seen_lt (N.erase n) λi W=>by
   have h4:=List.Nodup.mem_erase_iff N |>.1 W;have:=L i h4.2;omega
  by_cases V:n∈sn;rw[List.length_erase_of_mem V]at O;omega;rw[List.erase_of_not_mem V]at O;omega
def seen_all {α β:Type}{m:List α}{sn:List Nat}{body:α->Option (Option β)}(h: ∀i∈sn,∀p,m[i]?=some p->body p=some none)(N: ∀i,i<m.length->i∈sn): ∀x∈m,body x=some none:=λx O=>by
 obtain⟨i,L,rfl⟩:=X6 O;exact h i (N i L) _ (Qf L)
def seen_cons {α β:Type}{m:List α}{sn:List Nat}{body:α->Option (Option β)}{i:Nat}{p:α}(h: ∀i∈sn,∀p,m[i]?=some p->body p=some none)(hp:m[i]?=some p)(O:body p=some none): ∀j∈i::sn,∀p,m[j]?=some p->body p=some none:=λj N x L=>by
 rcases Qn.1 N with rfl|N
 rw[hp]at L;injection L with L;subst L;exact O
 exact h j N x L
def seen_bd {α:Type}{m:List α}{sn:List Nat}{i:Nat}{p:α}(h: ∀i∈sn,i<m.length)(hp:m[i]?=some p): ∀j∈i::sn,j<m.length:=λj L=>by
 rcases Qn.1 L with rfl|L
 exact(Qd.1 hp).1;exact h j L
def seen_f {n f:Nat}{sn:List Nat}{i:Nat}(L:sn.Nodup)(N: ∀j∈i::sn,j<n)(O:i∉sn)(V:f+sn.length=n+1):f-1<f/\(f-1)+(i::sn).length=n+1:=by
 have:=seen_lt (W5.2 ⟨O,L⟩) N;simp only[Qi]at this ⊢;omega
def om {α β:Type}(x:Option α)(a:Option β)(f:α->Option β):Option β:=match x with
 |none=>a
 |some p=>f p
def om_n {α β:Type}{x:Option α}{a:Option β}{f:α->Option β}(h:x=none):om x a f=a:=by rw[h];rfl
def om_s {α β:Type}{x:Option α}{a:Option β}{f:α->Option β}{p:α}(h:x=some p):om x a f=f p:=by rw[h];rfl
def mrg {α β:Type}[DecidableEq β](body:α->Option (Option β))(rest:Option β):List α->Option β
 | []=>rest
 |x::l=>(body x).bind λq=>match q with
  |none=>mrg body rest l
  |some y=>if l.all (λz=>decide (body z=some none\/body z=some (some y)))then some y else none
def mrg_all {α β:Type}[DecidableEq β]{body:α->Option (Option β)}{rest:Option β}{r:β}: ∀{l:List α},mrg body rest l=some r->(∀x∈l,∃q,body x=some q/\(q=none\/q=some r))/\((∀x∈l,body x=some none)->rest=some r)
 | [],h=>⟨by simp,λ_=>h⟩
 |x::l,h=>by
  unfold mrg at h;obtain⟨q,hq,h⟩:=bd_some h;cases q with
  |none=>
   obtain⟨V,W⟩:=mrg_all (l:=l) h;refine⟨λz L=>?_,λN=>W λz L=>N z (Qh _ L)⟩;rcases Qn.1 L with rfl|L
   exact⟨none,hq,.inl rfl⟩;exact V z L
  |some y=>
   simp only[]at h;split at h;rename_i hall;injection h with h
   subst h;refine⟨λz L=>?_,λN=>?_⟩;rcases Qn.1 L with rfl|L
   exact⟨some y,hq,.inr rfl⟩;rcases W6 (Wv.1 hall z L)with O|O
   exact⟨_,O,.inl rfl⟩;exact⟨_,O,.inr rfl⟩;have:=N x (Ql ..);rw[hq]at this;injection this with this
   cases this;cases h
section
variable {P:Program}{w:World}
def Qgr {g b m:Nat}{seen:List Nat}{es:List (Value×Value)}{ty:TypeId}(hr:Rg w g b m seen)(hm:MapC w b es):
  ((∀i,i<m->i∈seen)/\(Instr.next (.pointer (some ⟨g,0,none⟩)) false ty).run P w=.ok (.tuple #[.bool false]) w)\/
  ∃i k v w',i<m/\i∉seen/\es[i]?=some (k,v)/\(Instr.next (.pointer (some ⟨g,0,none⟩)) false ty).run P w=.ok (.tuple #[.bool true,k,v]) w'/\Ch [g] w w'/\w'.heap.size=w.heap.size/\Rg w' g b m (i::seen)/\Lst w' g b k v:=by
 obtain⟨V,arr,clock,since,sb,hb,hlen,hg,hsc,hold,W,hseen⟩:=hr;obtain⟨arr',clock',hb',hes,_,_⟩:=hm;rw[hb]at hb';injection hb' with hb';injection hb' with hb' _
 have hb':=List.toArray_inj hb';subst hb';have hgl:=(Qv.1 hg).1;have hgetg:(getObj g).run P w=.ok (.mapIter (some b) since sb.toArray since) w:=by simp[getObj,Sem.run,hg]
 have hgetb:(getObj b).run P w=.ok (.map arr.toArray clock) w:=by simp[getObj,Sem.run,hb]
 have htest:=next_test_false sb.toArray arr.toArray since since (by simpa using hold) (Q4 _);obtain⟨L,hL⟩: ∃L,L=arr.toArray.filter λe=> !sb.toArray.contains e.born:=⟨_,rfl⟩;have hLm: ∀e,e∈L.toList↔e∈arr/\e.born∉sb:=λe=>by rw[hL];simp
 have e1:L.filter (λx=>decide (x.born<since))=L:=Array.filter_eq_self.2 (λx hx=>by have:=(hLm x).1 (by simpa using hx);simpa using hold x this.1);have e2:L.filter (λx=>decide (x.born≥since))=#[]:=by
  rw[Array.filter_eq_empty_iff];intro x hx;have:=hold x ((hLm x).1 (by simpa using hx)).1;simp;omega
 by_cases h0:L.size=0
 ·left
  have hLe:L=#[]:=Array.eq_empty_of_size_eq_zero h0;refine⟨λi O=>?_,?_⟩;obtain⟨e,he⟩: ∃e,arr[i]?=some e:=⟨_,Qf (by omega)⟩;refine(hseen i e he).1 (Classical.byContradiction λhn=>?_);have:=(hLm e).2 ⟨Qg he,hn⟩;rw[hLe]at this;simp at this
  ·simp only[Instr.next,Sem.run_bind,hgetg,Result.andThen_ok,hgetb,htest,Qw,Wb,<-hL,e1,e2,Array.append_empty]
   rw[hLe];simp[Question.forced]
 ·right
  have hie:L.isEmpty=false:=by simp[Array.isEmpty,h0]
  have hj: ∃j,j<L.size/\∃N:World,(choose (.mapNext L.size)).run P w=.ok j N/\(N=w\/N=w.drew):=by
   rw[run_choose_drew];by_cases hfo:(Question.mapNext L.size).forced=true;rw[Qc hfo];exact⟨0,by omega,w,rfl,.inl rfl⟩;rw[Qb hfo];exact⟨_,Nat.mod_lt _ (by omega),_,rfl,.inr rfl⟩
  obtain⟨j,hjl,N,hch,hw1⟩:=hj;obtain⟨e,he⟩: ∃e,L[j]?=some e:=⟨_,Xs hjl⟩;have heL:e∈L.toList:=by have:=Qg (l:=L.toList) (i:=j) (by rw[X9];exact he);exact this
  obtain⟨hea,hen⟩:=(hLm e).1 heL;obtain⟨i,O⟩:=Wt.1 hea;have hil:=(Qd.1 O).1;have hheap:N.heap=w.heap:=by rcases hw1 with rfl|rfl<;>rfl
  have hc1:Ch [] w N:=by rcases hw1 with rfl|rfl;exact Ch.refl _;exact Ch.drew _
  have hset:(setObj g (.mapIter (some b) since (sb.toArray.push e.born) clock)).run P N=.ok () (N.putObj g (.mapIter (some b) since (sb.toArray.push e.born) clock)):=by
   simp[setObj,Sem.run,World.putObj,hheap,hg]
  refine⟨i,e.key,e.val,N.putObj g (.mapIter (some b) since (sb.toArray.push e.born) clock),by omega,λhs=>hen ((hseen i e O).2 hs),by rw[<-hes,Qy,O];rfl,?_,hc1.then (Ch.putObj N g _),by simp[hheap],⟨V,arr,clock,since,sb++[e.born],?_,hlen,?_,hsc,hold,W,?_⟩,?_⟩
  ·simp only[Instr.next,Sem.run_bind,hgetg,Result.andThen_ok,hgetb,htest,Qw,Wb,<-hL,e1,e2,hie,Array.append_empty,Array.empty_append,Array.size_map,hch,Array.getElem?_map,he,Wp,hset,Sem.run_pure]
  rw[World.putObj_heap_other (λh=>V h.symm),hheap];exact hb;rw[World.putObj_heap_same (by rw[hheap];exact hgl)];subst hsc;simp;intro i' e' he';rw[Qx,Qk,Qn,hseen i' e' he'];constructor;rintro(h|h);exact .inr h;left;have hi'l:=(Qd.1 he').1;have:=(List.getElem_inj W (i:=i') (j:=i) (h₀:=by simpa using hi'l) (h₁:=by simpa using hil)).1 (by
   simp only[List.getElem_map];rw[(Qd.1 he').2,(Qd.1 O).2];exact h)
  exact this;rintro(h|h);right;subst h;rw[O]at he';injection he' with he';rw[he']
  exact .inl h;have h1:=World.putObj_heap_same (w:=N) (r:=g) (o:=.mapIter (some b) since (sb.toArray.push e.born) clock) (by rw[hheap];exact hgl);have h2:(N.putObj g (.mapIter (some b) since (sb.toArray.push e.born) clock)).heap[b]?=some (.map arr.toArray clock):=by rw[World.putObj_heap_other (λh=>V h.symm),hheap];exact hb
  have hf:arr.find? (·.born==e.born)=some e:=by
   cases hfi:arr.find? (·.born==e.born)with
   |none=>have:=List.find?_eq_none.1 hfi e hea;simp at this
   |some e2=>
    have h3:=List.find?_some hfi;obtain⟨j,hj⟩:=Wt.1 (List.mem_of_find?_eq_some hfi);have hjl:=(Qd.1 hj).1;have:=(List.getElem_inj W (i:=j) (j:=i) (h₀:=by simpa using hjl) (h₁:=by simpa using hil)).1 (by
     simp only[List.getElem_map];rw[(Qd.1 hj).2,(Qd.1 O).2];simpa using h3)
    subst this;rw[O]at hj;exact hj.symm
  exact⟨since,clock,e.born,sb.toArray,arr,e,h1,h2,hf,rfl,rfl⟩
end
section
variable {r:Option Nat}{P:Program}{ops:Array Oper}{Q:Exit->Act->World->Prop}{rest lst:List Oper}{C:Cx}{l:List (Nat×Value)}{H:List (Nat×Res)}{d:Nat}{op:Op}{T:TypeId}{pos:String}{af:Array Edge}
variable {κ:Type}[DecidableEq κ]{enc:κ->Value}{kt et tt:TypeId}{t:Ty}{agg:Bool}{b:Nat}{m:List (κ×t.den)}
def r_lkf {a:Act}{w:World}{d:Option Tmp}{x y:Operand}{z v:t.den}{zs:List Value}{ok:Bool}(k:Nat)(K:Ky P kt enc)(key:κ)(W: ∀w,(zeroValue et).run P w=.ok (vof agg zs) w)(hD:Dat H t zs z)(hv:mget z m key=v)(hl:lv t=0)(N:Fr a C.n C.ds l)(O:Hp C H w)
  (L:asmp (hk H k)=some (.mp κ enc t agg b m):=by rfl) (hx:ev l x=some (.map (some b)):=by rfl) (hy:ev l y=some (enc key):=by rfl) (ht:P.underlying tt=some (.map kt et):=by rfl):
  (execOp a.eval ⟨d,.lookup tt x y ok,T,pos,af,none⟩).run P w=.ok (.value (if ok then .tuple #[vof agg (cl t v []),.bool (mhas m key)]else vof agg (cl t v []))) w:=by
 subst hv;obtain⟨cs,h1,h2⟩:=run_lookup (zs:=zs) K ht W (Dat.rep O t hD) (Qga O L) rfl key ok;obtain⟨ps,V,h4,_⟩:=rep_cl (B:=Bk H) t h2;rw[hl]at V;have:ps=[]:=Qz V;subst this;subst h4;exact r_lookup h1 (N.eval hx) (N.eval hy)
omit [DecidableEq κ]in
def AL.rgm (k kn:Nat){x:Operand}(h: ∀g,AL r P ops Q rest C ((d,.pointer (some ⟨g,0,none⟩))::l) ((kn,.mit k g b m.length [] none)::H))
  (L:hk H k=some (.mp κ enc t agg b m):=by rfl) (ht:P.underlying tt=some (.map kt et):=by rfl) (hx:ev l x=some (.map (some b)):=by rfl) (hd:Nat.ble (d+1) C.n=true:=by rfl) (hn:hk H kn=none:=by kernel_rfl):AL r P ops Q (⟨some d,.range tt x,T,pos,af,none⟩::rest) C l H:=λa w hf V=>
 Z.st_rangeMt hf hd ht hx (V.hold k _ L) λg w' a' hg hs hR O hf'=>h g a' w' hf' (V.new hn O (λb' hb'=>by simp only[Res.bl,Qk]at hb';omega) (λj W r N=>by
   simp only[Res.ref,Qr]at W;subst W;rw[L]at N;injection N with N;subst N;rfl) λF B _ _ hB=>⟨hR,hB k b ⟨_,L,by simp[Res.bl]⟩,λkv h=>by cases h⟩)
omit [DecidableEq κ]in
def AL.nxm (k ki kn:Nat){x:Operand}{g:Nat}{seen:List Nat}{la:Option (Value×Value)}
  (h1:(∀i,i<m.length->i∈seen)->AL r P ops Q rest C ((d,.tuple #[.bool false])::l) H)
  (h2: ∀i p,m[i]?=some p->i∉seen->t.ok p.2->tele (lv t) λps=>AL r P ops Q rest C ((d,.tuple #[.bool true,enc p.1,vof agg (cl t p.2 ps)])::l) (hcat (kx kn (rs t p.2 ps)) ((ki,.mit k g b m.length (i::seen) (some (enc p.1,vof agg (cl t p.2 ps))))::H)))
  (N:hk H k=some (.mp κ enc t agg b m):=by rfl) (L:hk H ki=some (.mit k g b m.length seen la):=by rfl) (hx:ev l x=some (.pointer (some ⟨g,0,none⟩)):=by rfl) (hd:Nat.ble (d+1) C.n=true:=by rfl)
  (hn: ∀s la,nok ((ki,.mit k g b m.length s la)::H) kn (lv t)=true:=by intro _ _;kernel_rfl) (O:hng [ki] [] H=true:=by kernel_rfl):AL r P ops Q (⟨some d,.next x false,T,pos,af,none⟩::rest) C l H:=λa w W hh=>by
 have hkk:k≠ki:=λe=>by subst e;rw[N]at L;injection L with L;cases L
 obtain⟨es,hmc,hl,h3⟩:Mt enc t agg w (Fh C H) b m:=hh.hold k _ N;rcases Qgr (P:=P) (ty:=T) (hh.hold ki _ L).1 hmc with⟨h4,h5⟩|⟨i,kv,v,w',i1,i2,i3,i4,i5,i6,i7,i8⟩
 refine Z.val W hd ?_ λa' hf'=>h1 h4 a' w hf' hh;simp only[execOp,W.eval hx,Sem.run_bind,h5,Result.andThen_ok,Sem.run_pure];obtain⟨p,hp⟩: ∃p,m[i]?=some p:=⟨_,Qf i1⟩;obtain⟨cs,h6,h7⟩:=h3 i p hp;rw[h6]at i3;injection i3 with i3;injection i3 with e1 e2
 subst e1;subst e2;have hup: ∀la,(∀kv,la=some kv->Lst w' g b kv.1 kv.2)->Hp C ((ki,.mit k g b m.length (i::seen) la)::H) w':=λla hla=>Hp.dd (js:=[]) (hh.upd i5 (λb' hb'=>⟨_,L,by simpa[Res.bl] using hb'⟩) (λb' hb'=>.inl ⟨_,L,hb'⟩) (λj O=>by
   simp only[Res.ref,Qr]at O;subst O;exact⟨hkk,λr hr=>by rw[N]at hr;injection hr with hr;subst hr;rfl⟩) λF B _ _ _ hB _=>⟨i7,hB k b rfl ⟨_,N,by simp[Res.bl]⟩,hla⟩) O
 have hr': ∀la,t.rep w' (Fh C ((ki,.mit k g b m.length (i::seen) la)::H)) cs p.2:=λla=>by
  refine rep_to h7 i5 λb' hb' hl'=>⟨λhm=>hb'.1 ki ⟨_,L,by simpa[Res.bl] using hm⟩,⟨λj O=>?_,hb'.2⟩⟩;by_cases V:j=ki;subst V;have h0:=Bk.cons_eq.1 O;exact hb'.1 j ⟨_,L,h0⟩;obtain⟨r2,h8,h9⟩:=(Bk.cons_ne V).1 O;exact hb'.1 j ⟨r2,h8,h9⟩
 have hok:=rep_ok t h7;obtain⟨ps,hl2,rfl,h9⟩:=Qgc (hup (some (enc p.1,vof agg cs)) (λkv h=>by injection h with h;subst h;exact i8)) (hr' _) kn (hn _ _);refine Z.valw W hd ?_ λa' hf'=>Qba (h2 i p hp i2 hok) ps hl2 a' w' hf' h9;simp only[execOp,W.eval hx,Sem.run_bind,i4,Result.andThen_ok,Sem.run_pure]
def AL.ent (ki:Nat){x:Operand}{k g b n:Nat}{seen:List Nat}{kv vv:Value}(h:AL r P ops Q rest C ((d,.tuple #[kv,vv])::l) H)
  (L:hk H ki=some (.mit k g b n seen (some (kv,vv))):=by rfl) (N:ev l x=some (.pointer (some ⟨g,0,none⟩)):=by rfl) (O:Nat.ble (d+1) C.n=true:=by rfl):AL r P ops Q (⟨some d,.entry x,T,pos,af,none⟩::rest) C l H:=
 AL.val O (λa w V W=>by
  have:=Lst.run (P:=P) ((W.hold ki _ L).2.2 _ rfl);simp only[execOp,V.eval N,Sem.run_bind,this,Result.andThen_ok,Sem.run_pure]) h
def okm {X:Act->World->Prop}(k:Nat)(key:κ){z v:t.den}{zs:List Value}(V:Dat H t zs z)(W:mget z m key=v)(h:t.ok v->∀a w,Fr a C.n C.ds l->Hp C H w->X a w)(L:asmp (hk H k)=some (.mp κ enc t agg b m):=by rfl): ∀a w,Fr a C.n C.ds l->Hp C H w->X a w:=λa w hf N=>by
 subst W;refine h ?_ a w hf N;cases O:mhas m key with
 |false=>rw[Qdj O];exact rep_ok t (Dat.rep N t V)
 |true=>
  obtain⟨es,_,_,h3⟩:Mt enc t agg w (Fh C H) b m:=Qga N L;obtain⟨i,hi⟩:=Wt.1 (mget_mem (z:=z) O);obtain⟨cs,_,h5⟩:=h3 i _ hi;exact rep_ok t h5
end
section
variable {r:Option Nat}{P:Program}{ops:Array Oper}{Q:Exit->Act->World->Prop}{rest lst:List Oper}{C:Cx}{l:List (Nat×Value)}{H:List (Nat×Res)}{d:Nat}{op:Op}{T:TypeId}{pos:String}{af:Array Edge}
def r_indexArr {a:Act}{w:World}{dd:Option Tmp}{gd:Option (Nat×Bool)}{tt e:TypeId}{n sz g o:Nat}{x y:Operand}{i:Int}{kd:IntKind}(L:P.underlying tt=some (.array n e))(N: ∀w,(sizeOf e).run P w=.ok sz w)(O:a.eval x=.pointer (some ⟨g,o,none⟩))(V:a.eval y=.int kd i)(W:0<=i)(h1:i<n):
  (execOp a.eval ⟨dd,.indexAddr tt x y,T,pos,af,gd⟩).run P w=.ok (.value (.pointer (some ⟨g,o+i.toNat*sz,none⟩))) w:=by
 have:=Addr.add_lit g o (i.toNat*sz);simp[execOp,Instr.indexAt,O,V,asIntOf,run_underlying L,N,W,h1,Instr.sureAddr,this]
def AL.ixb (k kn:Nat){τ:Type}(f:τ->Value)(vals:List τ){tt e bt:TypeId}{n g o:Nat}{cs:List Value}{x y:Operand}{i:Int}{kd:IntKind}{v:τ}(L:ix vals i=some v)
  (h:AL r P ops Q rest C ((d,.pointer (some ⟨g,o+i.toNat*1,none⟩))::l) ((kn,.el (some k) g (o+i.toNat*1) [f v])::H))
  (V:hk H k=some (.blk g bt cs):=by rfl) (hx:ev l x=some (.pointer (some ⟨g,o,none⟩)):=by rfl) (hy:ev l y=some (.int kd i):=by rfl) (ht:P.underlying tt=some (.array n e):=by rfl) (hS:szB P e=some 1:=by kernel_rfl) (hl:vals.length=n:=by rfl) (W:(cs.drop o).take n=vals.map f:=by rfl)
  (hd:Nat.ble (d+1) C.n=true:=by rfl) (hn:hk H kn=none:=by kernel_rfl):AL r P ops Q (⟨some d,.indexAddr tt x y,T,pos,af,none⟩::rest) C l H:=λa w hf hh=>by
 subst hl;have N:=o_co L;obtain⟨j,rfl,hj⟩:=Qaq L;have hB:Blk w g bt cs:=hh.hold k _ V;refine Z.val hf hd (r_indexArr ht (Qah hS) (hf.eval hx) (hf.eval hy) N.1 N.2) λa' hf'=>h a' w hf' (hh.add hn rfl (λi L r O=>by
   simp only[Res.ref,Qr]at L;subst L;rw[V]at O;injection O with O;subst O;rfl) ⟨λq u hu=>?_,hB.lt,⟨_,V,by simp[Res.bl]⟩⟩)
 cases q with
 |succ q=>simp at hu
 |zero=>
  simp only[Xa,Qr]at hu;subst hu;rw[Addr.add_lit,Ja,hB.cell,Q0,Yd];have hlt:=(Qd.1 hj).1;have h3:((cs.drop o).take vals.length)[j]?=some (f v):=by rw[W,Qy,hj];rfl
  rw[Q2 hlt,Wl]at h3;exact h3
end
section
variable {P:Program}{C:Cx}{l:List (Nat×Value)}{H:List (Nat×Res)}
def Row.none {t:Ty}{w:World}{F G:Nat->Prop}{A:Option Addr}{c:Nat}{xs:List t.den}(h:Row t w F G A c xs)(N:A.isNone=true):xs=[]:=by
 obtain⟨_,_,_,_,L,_⟩:=h;rcases L with L|⟨b,o,rfl,_⟩
 exact Qz L;cases N
def nilL {X:Act->World->Prop}(k:Nat){t:Ty}{A:Option Addr}{c:Nat}{xs:List t.den}(O:A.isNone=true)(h:xs=[]->∀a w,Fr a C.n C.ds l->Hp C H w->X a w)(L:hk H k=some (.ln t A c xs):=by rfl): ∀a w,Fr a C.n C.ds l->Hp C H w->X a w:=λa w V N=>by
 obtain⟨G,W,_⟩:=rowL L w N;exact h (Row.none W O) a w V N
def AX.cnn {r:Option Nat}{Y:Exit->Act->World->Prop}{K:List Kx}{c:Operand}{x y:Code}{b:Bool}(O:ev l c=some (.bool b))(V:b=true->AX r P Y K x C l H)(W:b=false->AX r P Y K y C l H):AX r P Y K (.cond c x y) C l H:=λa w L N=>Z.cond L O (λh=>V h a w L N) (λh=>W h a w L N)
end
section
variable {r:Option Nat}{P:Program}{ops:Array Oper}{Q:Exit->Act->World->Prop}{rest:List Oper}{C:Cx}{l:List (Nat×Value)}{H:List (Nat×Res)}{d:Nat}{T:TypeId}{pos:String}{af:Array Edge}
def AL.cutl (k kn:Nat){t:Ty}{tt e:TypeId}{x lo:Operand}{A:Option Addr}{c:Nat}{xs:List t.den}{k1:IntKind}{p:Int}{u:Nat}(hp:p=(u:Int))(h1:u<=xs.length)
  (h: ∀A' c',AL r P ops Q rest C ((d,.slice A' (xs.drop u).length c')::l) ((kn,.sh (.slice t) [.slice A' (xs.drop u).length c'] (xs.drop u))::H))
  (N:hk H k=some (.sh (.slice t) [.slice A xs.length c] xs):=by rfl) (hx:ev l x=some (.slice A xs.length c):=by rfl) (O:ev l lo=some (.int k1 p):=by rfl) (hS:szB P e=some t.size:=by kernel_rfl)
  (ht:P.underlying tt=some (.slice e):=by rfl) (hd:Nat.ble (d+1) C.n=true:=by rfl) (hn:hk H kn=none:=by kernel_rfl):AL r P ops Q (⟨some d,.slice tt x (some lo) none none,T,pos,af,none⟩::rest) C l H:=λa w V W=>by
 have hr:(Ty.slice t).rep w (Fh C H) [.slice A xs.length c] xs:=W.hold k _ N;have hlen:=rep_slice_len hr;have hlen2:(xs.drop u).length=xs.length-u:=by rw[Qu]
 refine Z.val (v:=.slice (cutA A c u t.size) (xs.length-u) (c-u)) V hd (r_slice_l ht (Qah hS) (V.eval hx) (V.eval O) hp (by omega)) λa' hf'=>?_;have L:(Ty.slice t).rep w (Fh C H) [.slice (cutA A c u t.size) (xs.length-u) (c-u)] (xs.drop u):=by
  refine rep_drop hr h1 (by omega) (by omega) λhlt ad hA=>?_;unfold cutA;rw[Qb (by omega),hA];rfl
 rw[<-hlen2]at L hf';exact h _ _ a' w hf' (W.add hn rfl (λj hj=>by cases hj) (Qaf _ L))
end
def szl (b:ByteArray)(h:decide (b.size<=maxLen)=true):b.size<=maxLen:=W6 h
def wrap_has (k:IntKind)(n:Int):k.has (k.wrap n):=by
 cases k<;>simp[IntKind.has,IntKind.min,IntKind.max,IntKind.wrap,IntKind.bits,IntKind.signed]<;>omega
end Go.A
namespace Go.Z
section
variable {P:Program}{a:Act}{w:World}
def resv3 {fn:Func}{r1 r2 r3:ResultVar}{v1 v2 v3:Value}(h:fn.results=#[r1,r2,r3])(L:RV P a.tmps w r1 v1)(N:RV P a.tmps w r2 v2)(O:RV P a.tmps w r3 v3):(results fn a.tmps).run P w=.ok (.tuple #[v1,v2,v3]) w:=by
 cases r1<;>cases r2<;>cases r3<;>simp only[RV,Wg]at L N O;simp[results,h,asAddr,L,N,O];obtain⟨_,V,W⟩:=O;simp[results,h,asAddr,L,N,V,W];obtain⟨_,p2,q2⟩:=N;simp[results,h,asAddr,L,p2,q2,O];obtain⟨_,p2,q2⟩:=N;obtain⟨_,V,W⟩:=O;simp[results,h,asAddr,L,p2,q2,V,W];obtain⟨_,p1,q1⟩:=L;simp[results,h,asAddr,p1,q1,N,O];obtain⟨_,p1,q1⟩:=L;obtain⟨_,V,W⟩:=O;simp[results,h,asAddr,p1,q1,N,V,W];obtain⟨_,p1,q1⟩:=L;obtain⟨_,p2,q2⟩:=N;simp[results,h,asAddr,p1,q1,p2,q2,O];obtain⟨_,p1,q1⟩:=L;obtain⟨_,p2,q2⟩:=N;obtain⟨_,V,W⟩:=O;simp[results,h,asAddr,p1,q1,p2,q2,V,W]
end
end Go.Z
end
section
namespace Go.A
open Go.RowKit Go.Z
def Seqk (P:Program)(gf:FuncId)(cap:List Value)(N:Nat)(E:Nat->World->World->List Value->Prop)(Dat:Nat->World->Prop):Prop:=
 ∀(lid:Nat) (w:World) (J:Nat->World->Prop) (Jx:World->Prop),(∀k W W',J k W->Ch [] W W'->J k W')->(∀W W',Jx W->Ch [] W W'->Jx W')->(∀k W,J k W->Dat k W)->J 0 w->
  (∀k W0 W args,k<N->J k W0->Ch [] W0 W->E k W0 W args->YieldAt (FW none) 0 P lid args.toArray W λe W'=>(e=.returned (.bool true)/\J (k+1) W')\/(e=.returned (.bool false)/\Jx W'))->
  Calls P gf (.func (.yield lid) #[] #[]::cap).toArray w λe W'=>e=.returned (.tuple #[])/\(J N W'\/Jx W')
def RK (D L:Nat)(o:Obj)(I:Nat->World->Prop)(X:Exit->World->Prop)(k:Nat)(e:Exit)(W':World):Prop:=
 W'.heap[L]?=some o/\Dfr W' D/\match e with
  | .normal=>I (k+1) W'
  | .ret=>X .ret W'
  | .exit id=>X (.exit id) W'
  |_=>False
def RQ (D L:Nat)(o:Obj)(I:Nat->World->Prop)(X:Exit->World->Prop)(k:Nat):Exit->Act->World->Prop:=λe _ W'=>RK D L o I X k e W'
section
variable {P:Program}{Q:Exit->Act->World->Prop}{a:Act}{w:World}{n:Nat}{ds:List Deferred}{l:List (Nat×Value)}
def rangeK {g:Operand}{ps:List Nat}{assign body:Code}{gf:FuncId}{cap:List Value}(hf:Fr a n ds l)(hg:ev l g=some (.func (.func gf) #[] cap.toArray))
  (hcf: ∀args w,(callFunc gf args).run P w=.ok (.enter gf args) w) (N:Nat) (E:Nat->World->World->List Value->Prop) (Dat:Nat->World->Prop) (I:Nat->World->Prop) (X:Exit->World->Prop) (hseq:Seqk P gf cap N E Dat)
  (hlen: ∀k W0 W args,E k W0 W args->args.length=ps.length) (hps: ∀p,p∈ps->p<n)
  (hI0: ∀W1,(∃W',Ch [] w W'/\W'.heap.size=w.heap.size+1/\Dfr W' w.heap.size/\Ch [] W' W1/\W1.heap.size=W'.heap.size+1)->(∃o,W1.heap[w.heap.size+1]?=some o)->I 0 W1)
  (hst: ∀k W W',I k W->Ch [w.heap.size+1] W W'->I k W') (hxt: ∀e W W',X e W->Ch [w.heap.size+1] W W'->X e W') (hdat: ∀k W,I k W->Dat k W)
  (hround: ∀k W0 W args a o,k<N->I k W0->Ch [] W0 W->w.heap.size+1<W0.heap.size->E k W0 W args->args.length=ps.length->W.heap[w.heap.size+1]?=some o->Dfr W w.heap.size->Fr a n [] (bindl ps args l)->
   WP (some (w.heap.size+1)) P assign (λe a1 W1=>e=.normal/\W1.heap[w.heap.size+1]?=some o/\Dfr W1 w.heap.size/\∀W2 o2,Ch [w.heap.size+1] W1 W2->W2.heap[w.heap.size+1]?=some o2->Dfr W2 w.heap.size->
    WP (some (w.heap.size+1)) P body (RQ w.heap.size (w.heap.size+1) o2 I X k) a1 W2) a W)
  (hdone: ∀W a',I N W->Dfr W w.heap.size->Fr a' n (mkD w.heap.size::ds) l->Q .normal a' W)
  (hret: ∀W a',X .ret W->Dfr W w.heap.size->Fr a' n (mkD w.heap.size::ds) l->Q .ret a' W)
  (hexit: ∀id W a',X (.exit id) W->Dfr W w.heap.size->Fr a' n (mkD w.heap.size::ds) l->Q (.exit id) a' W):WP none P (Code.rangeFunc g ps.toArray assign body) Q a w:=by
 refine wpIn_rangeFunc λfn hfn=>?_;obtain⟨rec,hrec⟩: ∃rec:LoopState->Option Code->Loop,rec=λst pe=>{state:=st,pending:=pe,fn,tmps:=a.tmps,params:=ps.toArray,assign,body,defers:=w.heap.size}:=⟨_,rfl⟩;obtain⟨W1,hW1⟩: ∃W1,(w.alloc (.deferred (some []))).alloc (.loop (rec .ready none))=W1:=⟨_,rfl⟩;have hL1:W1.heap[w.heap.size+1]?=some (.loop (rec .ready none)):=by
  rw[<-hW1];have:=World.alloc_heap_new (w.alloc (.deferred (some []))) (.loop (rec .ready none));rwa[World.size_alloc]at this
 have hK1:Dfr W1 w.heap.size:=by
  rw[<-hW1];exact(Below.heap_alloc _ _ _ (by simp)).trans (World.alloc_heap_new w _)
 have up: ∀{W W':World},Ch [] W W'->Ch [w.heap.size+1] W W':=λh=>h.mono (by simp);have hI1:I 0 W1:=hI0 W1 ⟨_,Ch.alloc w _,World.size_alloc ..,World.alloc_heap_new w _,by rw[<-hW1];exact Ch.alloc _ _,by rw[<-hW1];exact World.size_alloc ..⟩ ⟨_,hL1⟩;have hfr:a.eval g=.func (.func gf) #[] cap.toArray:=hf.eval hg;have hcall:=hseq (w.heap.size+1) W1
  (λk W=>I k W/\W.heap[w.heap.size+1]?=some (.loop (rec .ready none))/\Dfr W w.heap.size)
  (λW=>∃e c,X e W/\((e=.ret/\c=Code.ret)\/∃id,e=.exit id/\c=Code.exit id)/\W.heap[w.heap.size+1]?=some (.loop (rec .done (some c)))/\Dfr W w.heap.size)
  (λk W W' ⟨h1,V,h3⟩ L=>⟨hst k W W' h1 (up L),(L.block _ (Qv.1 V).1 (by simp)).trans V,h3.ch L (by simp)⟩)
  (λW W' ⟨e,c,h1,h0,V,h3⟩ L=>⟨e,c,hxt e W W' h1 (up L),h0,(L.block _ (Qv.1 V).1 (by simp)).trans V,h3.ch L (by simp)⟩)
  (λk W h=>hdat k W h.1) ⟨hI1,hL1,hK1⟩ ?_
 ·refine⟨w.heap.size+1,[mkD w.heap.size],W1,{target:=.fn (.func gf) cap.toArray,args:=#[.func (.yield (w.heap.size+1)) #[] #[]]},W1,gf,
   (.func (.yield (w.heap.size+1)) #[] #[]::cap).toArray,W1,?_,?_,λ_ _=>trivial,?_,(λh=>by cases h),(callsFW hcall).mono ?_⟩
  rw[<-hW1,hrec];exact run_enterLoop_outer _ _ _ _ _;simp only[resolve,hfr];simp[go_sem];simp[invoke,go_sem,hcf]
  ·have fin: ∀(W:World) (st:LoopState) (pe:Option Code),W.heap[w.heap.size+1]?=some (.loop (rec st pe))->st≠ .busy->Dfr W w.heap.size->
     ∃W',(Instr.endLoop (w.heap.size+1)).run P W=.ok pe W'/\Ch [w.heap.size+1] W W'/\Dfr W' w.heap.size:=λW st pe hl hb hk=>by
    have:=run_endLoop (P:=P) hl (by rw[hrec];exact hb);rw[hrec]at this;exact⟨_,this,Ch.putObj _ _ _,hk.ch (Ch.putObj _ _ _) (by simp)⟩
   rintro e W ⟨rfl,⟨h1,V,h3⟩|⟨e,c,h1,h0,V,h3⟩⟩;obtain⟨W',hr,L,hk⟩:=fin W .ready none V (by simp) h3;exact⟨none,W',hr,hdone W' _ (hst N W W' h1 L) hk ⟨hf.size,by show [mkD w.heap.size]++a.defers=_;rw[hf.defs];rfl,hf.get⟩⟩
   ·obtain⟨W',hr,L,hk⟩:=fin W .done (some c) V (by simp) h3
    have hfr':Fr {a with defers:=[mkD w.heap.size]++a.defers} n (mkD w.heap.size::ds) l:=⟨hf.size,by show [mkD w.heap.size]++a.defers=_;rw[hf.defs];rfl,hf.get⟩;refine⟨some c,W',hr,?_⟩;rcases h0 with⟨rfl,rfl⟩|⟨id,rfl,rfl⟩
    exact wpIn_ret (hret W' _ (hxt _ W W' h1 L) hk hfr');exact wpIn_exit (hexit id W' _ (hxt _ W W' h1 L) hk hfr')
 ·rintro k W0 W args hk ⟨h1,V,h3⟩ L hEk
  have hlt:w.heap.size+1<W0.heap.size:=(Qv.1 V).1;have hl:W.heap[w.heap.size+1]?=some (.loop (rec .ready none)):=(L.block _ hlt (by simp)).trans V;have hkk:Dfr W w.heap.size:=h3.ch L (by simp);have hlen':=hlen k W0 W args hEk;have hy:=run_yield (P:=P) (args:=args.toArray) hl (by rw[hrec];simpa using hlen');refine⟨fn,_,assign,body,by rw[hrec]at hy;exact hy,roundIn_of_wpIn hfn ?_⟩;have hfr0:Fr ⟨(ps.zip args).foldl (λt (p,v)=>t.setIfInBounds p v) a.tmps,[]⟩ n [] (bindl ps args l):=bind_fr ps args hps ⟨hf.size,rfl,hf.get⟩;have hzip:((rec .ready none).params.zip args.toArray).foldl (λt (p,v)=>t.setIfInBounds p v) (rec .ready none).tmps=(ps.zip args).foldl (λt (p,v)=>t.setIfInBounds p v) a.tmps:=by
   rw[hrec];simp
  rw[hrec]at hzip;simp only at hzip;rw[hzip];refine wpIn_mono (hround k W0 W args _ _ hk h1 L hlt hEk hlen' hl hkk hfr0) ?_;rintro e a1 W' ⟨rfl,hl',hk',hbody⟩;refine⟨_,run_beginRound hl' (by rw[hrec]),?_⟩;have hltW:w.heap.size+1<W'.heap.size:=(Qv.1 hl').1;have hc2:Ch [w.heap.size+1] W' (W'.putObj (w.heap.size+1) (.loop {rec .ready none with state:=.busy})):=Ch.putObj _ _ _;have hl2:(W'.putObj (w.heap.size+1) (.loop {rec .ready none with state:=.busy})).heap[w.heap.size+1]?=some (.loop {rec .ready none with state:=.busy}):=World.putObj_heap_same hltW;have hk2:=hk'.ch hc2 (by simp);refine wpIn_mono (hbody _ _ hc2 hl2 hk2) ?_;have fin: ∀(jump:Option Code) (W3:World),W3.heap[w.heap.size+1]?=some (.loop {rec .ready none with state:=.busy})->Dfr W3 w.heap.size->
    ∃W4,(Instr.endRound (w.heap.size+1) jump).run P W3=.ok (.bool jump.isNone) W4/\Ch [w.heap.size+1] W3 W4/\W4.heap[w.heap.size+1]?=some (.loop (rec (if jump.isNone then .ready else .done) jump))/\Dfr W4 w.heap.size:=λjump W3 O hk3=>by
   have hend:=run_endRound (P:=P) jump O;rw[hrec]at hend ⊢;exact⟨_,hend,Ch.putObj _ _ _,World.putObj_heap_same (Qv.1 O).1,hk3.ch (Ch.putObj _ _ _) (by simp)⟩
  rintro e a3 W3 ⟨O,hk3,hp⟩;cases e with
  |normal=>
   obtain⟨W4,hr,hc4,hl4,hk4⟩:=fin none W3 O hk3;exact⟨_,W4,hr,.inl ⟨rfl,hst _ _ _ hp hc4,hl4,hk4⟩⟩
  |ret=>
   obtain⟨W4,hr,hc4,hl4,hk4⟩:=fin (some .ret) W3 O hk3;exact⟨_,W4,hr,.inr ⟨rfl,.ret,.ret,hxt _ _ _ hp hc4,.inl ⟨rfl,rfl⟩,hl4,hk4⟩⟩
  |exit id=>
   obtain⟨W4,hr,hc4,hl4,hk4⟩:=fin (some (.exit id)) W3 O hk3;exact⟨_,W4,hr,.inr ⟨rfl,.exit id,.exit id,hxt _ _ _ hp hc4,.inr ⟨id,rfl,rfl⟩,hl4,hk4⟩⟩
  |goto t=>exact hp.elim
  |panic ch=>exact hp.elim
  |outgrown=>exact hp.elim
end
abbrev lpT:Obj->Prop:=λ_=>True
abbrev dfT:Obj->Prop:=λo=>o=.deferred (some [])
def Res.hasb:Res->Bool
 | .own ..=>true
 | .blk ..=>true
 | .mp ..=>true
 | .si ..=>true
 | .ob ..=>true
 | .mr ..=>true
 | .gn ..=>true
 |_=>false
def Res.nob: ∀{r:Res},r.hasb=false->r.ref=none->r.bl=[]
 | .dead,_,_=>rfl
 | .sh ..,_,_=>rfl
 | .ln ..,_,_=>rfl
 | .el ..,_,_=>rfl
 | .own ..,h,_=>by cases h
 | .blk ..,h,_=>by cases h
 | .mp ..,h,_=>by cases h
 | .mit ..,_,h=>by cases h
 | .si ..,h,_=>by cases h
 | .ob ..,h,_=>by cases h
 | .lmp ..,_,_=>rfl
 | .mr ..,h,_=>by cases h
 | .gn ..,h,_=>by cases h
def mvl (H:List (Nat×Res)):List Nat->List (Nat×Nat)
 | []=>[]
 |k::ks=>match hk H k with
  |some r=>bif rok [] r.ref then(bif r.hasb then(k,k)::mvl H ks else mvl H ks)else mvl H ks
  |none=>mvl H ks
def Qih {o:Option Nat}(h:rok [] o=true):o=none:=by
 cases o with
 |none=>rfl
 |some j=>simp[rok]at h
def Qdi (H:List (Nat×Res)): ∀ks:List Nat,Sub H (kpH H [] ks) (mvl H ks) []
 | []=>.nil
 |k::ks=>by
  unfold kpH mvl;cases N:hk H k with
  |none=>exact Qdi H ks
  |some r=>
   simp only[];cases L:rok [] r.ref with
   |false=>exact Qdi H ks
   |true=>
    cases O:r.hasb with
    |false=>exact .s k (Qdi H ks) N (Res.nob O (Qih L)) (Qih L)
    |true=>exact .m k (Qdi H ks) N (Qih L)
def Hp.nds {n n':Nat}{ds ds':List Deferred}{L:World}{S:List Nat}{F:Nat->Prop}{H:List (Nat×Res)}{w:World}(h:Hp ⟨n,ds,L,S,F⟩ H w):Hp ⟨n',ds',L,S,F⟩ H w:=⟨h.ch,h.hold,h.bnd,h.dis,h.ref⟩
def fin_round {C:Cx}{H He:List (Nat×Res)}{W W':World}{n:Nat}{ds:List Deferred}{bs:List Nat}(L:Hp C H W)(O:Hp ⟨n,ds,W,blks H (mvl H bs),Fh C H⟩ He W')(gs:List Nat)(M:Nat)(ps:List (Nat×Nat)){Ho:List (Nat×Res)}
  (N:(outs (kpH He gs gs)&&frs M H (kpH He gs gs))=true) (V:ren (hcat (sft M (kpH He gs gs)) (kill ((mvl H bs).map (·.2)) H)) ps=Ho) (h3:nod (ps.map (·.1))=true) (h4:nod (ps.map (·.2))=true):Hp C Ho W':=by
 rw[Qp]at N;subst V;exact(L.back (O.keep gs).nds N.1 N.2).ren ps h3 h4
abbrev HK (kd kl D L:Nat) (p:Obj->Prop) (nh H:List (Nat×Res)):List (Nat×Res):=(kl,.ob L p)::(kd,.ob D dfT)::hcat nh H
def IK (C:Cx)(kd kl D L:Nat)(J:Nat->List (Nat×Res)->Prop)(H:List (Nat×Res)):Nat->World->Prop:=λk W=>∃nh,J k nh/\Hp C (HK kd kl D L lpT nh H) W
def XK (P:Program)(Y:Exit->Act->World->Prop)(K:List Kx)(C:Cx)(l:List (Nat×Value))(D L:Nat):Exit->World->Prop:=λe W=>∀W',Ch [L] W W'->∀a',Fr a' C.n (mkD D::C.ds) l->kont none P Y K e a' W'
def nrf (k:Nat)(H:List (Nat×Res)):Bool:=H.all λp=>match p.2.ref with
 |none=>true
 |some j=> !(Nat.beq j k)
def hk_mem: ∀{H:List (Nat×Res)} {k:Nat} {r:Res},hk H k=some r->(k,r)∈H
 | [],_,_,h=>by cases h
 |(d,u)::q,k,r,h=>by
  rw[Qaa]at h;split at h;rename_i e;subst e;injection h with h;subst h;exact Ql ..
  exact Qh _ (hk_mem h)
def nrf_spec {k:Nat}{H:List (Nat×Res)}(h:nrf k H=true){j:Nat}{r:Res}(L:hk H j=some r):r.ref≠some k:=λe=>by
 have:=Wv.1 h _ (hk_mem L);simp[e]at this
def Hp.ob {C:Cx}{H:List (Nat×Res)}{w w':World}{k L:Nat}{p q:Obj->Prop}{o:Obj}(h:Hp C ((k,.ob L p)::H) w)(hr:nrf k H=true)(hc:Ch [L] w w')(ho:w'.heap[L]?=some o)(hq:q o):Hp C ((k,.ob L q)::H) w':=by
 have hsame: ∀j b,Bk ((k,.ob L q)::H) j b↔Bk ((k,.ob L p)::H) j b:=λj b=>by
  by_cases N:j=k;subst N;rw[Bk.cons_eq,Bk.cons_eq];exact Iff.rfl;rw[Bk.cons_ne N,Bk.cons_ne N]
 have hL: ∀b,(∀j,¬Bk ((k,.ob L p)::H) j b)->b∉[L]:=λb O W=>by
  rw[Qk]at W;subst W;exact O k (Bk.cons_eq.2 (by simp[Res.bl]))
 have hnb: ∀b,(∀j,¬Bk ((k,.ob L p)::H) j b)->∀j,¬Bk ((k,.ob L q)::H) j b:=λb O j N=>O j ((hsame j b).1 N);have hLk: ∀j b,Bk ((k,.ob L p)::H) j b->j≠k->b∉[L]:=λj b O N W=>by
  rw[Qk]at W;subst W;exact N (h.dis j k b O (Bk.cons_eq.2 (by simp[Res.bl])))
 refine⟨?_,λj r N=>?_,λj b N=>?_,λj j' b N hj'=>h.dis j j' b ((hsame j b).1 N) ((hsame j' b).1 hj'),λj r i N hri=>?_⟩;have V:=h.ch;refine⟨hc.os.trans V.os,hc.tape.trans V.tape,hc.output.trans V.output,Wr V.size hc.size,λb O hn=>?_⟩;rw[hc.block b (Q3 O V.size) (λW=>?_)];exact V.block b O hn;rw[Qk]at W;subst W;rcases(h.bnd k b (Bk.cons_eq.2 (by simp[Res.bl]))).1 with h1|h1
 omega;exact hn h1;rw[Qaa]at N;split at N;injection N with N;subst N;exact⟨o,ho,hq⟩
 rename_i hn;have hj':hk ((k,.ob L p)::H) j=some r:=by rw[Qaa,Qb hn];exact N
 refine Res.to (h.hold j r hj') hc (λb O _=>⟨hL b O.1,hnb b O.1,O.2⟩) (λb O _=>⟨hL b O,hnb b O⟩) (λi b hi hB=>⟨hLk i b hB λe=>nrf_spec hr N (by rw[hi,e]),(hsame i b).2 hB⟩) λb O=>hLk j b ⟨r,hj',O⟩ (Ne.symm hn);obtain⟨h1,h2⟩:=h.bnd j b ((hsame j b).1 N);exact⟨h1,Q3 h2 hc.size⟩;rw[Qaa]at N;split at N;injection N with N;subst N;cases hri
 rename_i hn;obtain⟨h5,h6⟩:=h.ref j r i (by rw[Qaa,Qb hn];exact N) hri;refine⟨h5,λr2 h7=>?_⟩;rw[Qaa]at h7;split at h7;injection h7 with h7;subst h7;rfl
 rename_i hn2;exact h6 r2 (by rw[Qaa,Qb hn2];exact h7)
def Hp.obj {C:Cx}{H:List (Nat×Res)}{w w':World}{k L:Nat}{p q:Obj->Prop}{o:Obj}(h:Hp C H w)(N:hk H k=some (.ob L p))(V:Ch [L] w w')(W:w'.heap[L]?=some o)(hq:q o):Hp C ((k,.ob L q)::drp k H) w':=
 h.upd V (λb O=>by rw[Qk]at O;subst O;exact⟨_,N,by simp[Res.bl]⟩) (λb O=>.inl ⟨_,N,O⟩) (λj hj=>by cases hj) λF B _ _ _ _ _=>⟨o,W,hq⟩
def El (t:Ty)(ag:List Value->List Value)(xs:List t.den)(Φ:Nat->World->Nat->Prop):Nat->World->World->List Value->Prop:=λk W0 W args=>
 ∃x cs,xs[k]?=some x/\args=ag cs/\t.rep W (λb=>Φ k W0 b\/W0.heap.size<=b) cs x
def Sq (P:Program)(gf:FuncId)(cap:List Value)(Hc:List (Nat×Res))(t:Ty)(ag:List Value->List Value)(xs:List t.den):Prop:=
 ∀Φ:Nat->World->Nat->Prop,Seqk P gf cap xs.length (El t ag xs Φ) (λk W=>Hp ⟨0,[],W,[],Φ k W⟩ Hc W)
def Qas: ∀{l:List Nat},nod l=true↔l.Nodup
 | []=>by simp[nod]
 |k::l=>by
  simp only[nod,Qp,Yj,W5,Qas (l:=l)];refine and_congr ⟨λh L=>?_,λh=>?_⟩ Iff.rfl;rw[Yz]at h;exact h k L (Y1 k);rw[Yz];exact λx N e=>h (by rw[Wm e];exact N)
def Qfs (H:List (Nat×Res))(all:List Nat): ∀ks:List Nat,List.Sublist ((kpH H all ks).map (·.1)) ks
 | []=>List.Sublist.refl _
 |k::ks=>by
  unfold kpH;cases hk H k with
  |none=>exact(Qfs H all ks).cons k
  |some r=>
   simp only[];cases rok all r.ref with
   |false=>exact(Qfs H all ks).cons k
   |true=>exact(Qfs H all ks).cons_cons k
def Qea (H:List (Nat×Res)): ∀ks:List Nat,List.Sublist ((mvl H ks).map (·.2)) ks
 | []=>List.Sublist.refl _
 |k::ks=>by
  unfold mvl;cases hk H k with
  |none=>exact(Qea H ks).cons k
  |some r=>
   simp only[];cases rok [] r.ref with
   |false=>exact(Qea H ks).cons k
   |true=>cases r.hasb with
    |false=>exact(Qea H ks).cons k
    |true=>exact(Qea H ks).cons_cons k
def MF (P:Program)(D L:Nat)(o:Obj)(Yb:Obj->Exit->Act->World->Prop)(body:Code):Act->World->Prop:=λa1 W1=>W1.heap[L]?=some o/\Dfr W1 D/\∀W2 o2,Ch [L] W1 W2->W2.heap[L]?=some o2->Dfr W2 D->WP (some L) P body (Yb o2) a1 W2
section
variable {P:Program}{Y:Exit->Act->World->Prop}{K:List Kx}{C:Cx}{l:List (Nat×Value)}{H:List (Nat×Res)}
def AX.rgf {g:Operand}{ps:List Nat}{assign body:Code}{gf:FuncId}{cap:List Value}{Hc:List (Nat×Res)}{t:Ty}{ag:List Value->List Value}{xs:List t.den}
  (kd kl kn:Nat) (N gs bs:List Nat) (J:Nat->List (Nat×Res)->Prop) (nh:List (Nat×Res)) (hcf: ∀args w,(callFunc gf args).run P w=.ok (.enter gf args) w) (hseq:Sq P gf cap Hc t ag xs) (hag: ∀cs,(ag cs).length=ps.length) (hJ0:J 0 nh)
  (hsub: ∀k nh D L,J k nh->(∃ls,Sub (HK kd kl D L lpT nh (kpH H N N)) Hc [] ls)/\nrf kl ((kd,.ob D dfT)::hcat nh (kpH H N N))=true/\∀o,nok (kpH (HK kd kl D L (λx=>x=o) nh (kpH H N N)) [] bs) kn (lv t)=true)
  (hround: ∀k nh x D L W o,J k nh->xs[k]?=some x->t.ok x->Hp C (HK kd kl D L (λx=>x=o) nh (kpH H N N)) W->tele (lv t) λpl=>
   AX (some L) P (λ_ _ _=>False) [.m (MF P D L o (λo2=>RQ D L o2 (IK C kd kl D L J (kpH H N N)) (XK P Y K C l D L) k) body)] assign
    ⟨C.n,[],W,blks (HK kd kl D L (λx=>x=o) nh (kpH H N N)) (mvl (HK kd kl D L (λx=>x=o) nh (kpH H N N)) bs),Fh C (HK kd kl D L (λx=>x=o) nh (kpH H N N))⟩ (bindl ps (ag (cl t x pl)) l)
    (hcat (kx kn (rs t x pl)) (kpH (HK kd kl D L (λx=>x=o) nh (kpH H N N)) [] bs)))
  (hdone: ∀nh D L,J xs.length nh->AE none P Y K .normal ⟨C.n,mkD D::C.ds,C.w0,C.S,C.F⟩ l (HK kd kl D L lpT nh (kpH H N N)))
  (hg:ev l g=some (.func (.func gf) #[] cap.toArray):=by rfl) (hps:ps.all (λp=>Nat.ble (p+1) C.n)=true:=by rfl) (h0:kpH H gs gs=hcat nh (kpH H N N):=by kernel_rfl)
  (hn1:hk (hcat nh (kpH H N N)) kd=none:=by kernel_rfl) (hn2:hk (hcat nh (kpH H N N)) kl=none:=by kernel_rfl) (hne:Nat.beq kd kl=false:=by rfl) (hbs:nod bs=true:=by rfl) (hHc:nod (Hc.map (·.1))=true:=by rfl):
  AX none P Y K (.rangeFunc g ps.toArray assign body) C l H:=λa w hf hh=>by
 have hne:kd≠kl:=λe=>by rw[e,Y1]at hne;cases hne
 obtain⟨Φ,hΦ⟩: ∃Φ:Nat->World->Nat->Prop,Φ=λk W b=>∃h:IK C kd kl w.heap.size (w.heap.size+1) J (kpH H N N) k W,Fh C (HK kd kl w.heap.size (w.heap.size+1) lpT (Classical.choose h) (kpH H N N)) b:=⟨_,rfl⟩;have hΦe: ∀k W (h:IK C kd kl w.heap.size (w.heap.size+1) J (kpH H N N) k W),Φ k W=Fh C (HK kd kl w.heap.size (w.heap.size+1) lpT (Classical.choose h) (kpH H N N)):=λk W h=>by
  subst hΦ;funext b;exact propext ⟨λ⟨_,h2⟩=>h2,λh2=>⟨h,h2⟩⟩
 have hlast: ∀{k:Nat} {nh:List (Nat×Res)} {D:Nat},J k nh->nrf kl ((kd,.ob D dfT)::hcat nh (kpH H N N))=true:=λh=>(hsub _ _ _ 0 h).2.1;refine rangeK hf hg hcf xs.length _ _ (IK C kd kl w.heap.size (w.heap.size+1) J (kpH H N N)) (XK P Y K C l w.heap.size (w.heap.size+1)) (hseq Φ) (λk W0 W args ⟨x,cs,_,h2,_⟩=>by rw[h2];exact hag cs) (λp hp=>Qq (Wv.1 hps p hp)) ?_ ?_ ?_ ?_ ?_ ?_ ?_ ?_;rintro W1 ⟨W',hc1,hz1,hd,hc2,hz2⟩ ⟨o,ho⟩;refine⟨nh,hJ0,?_⟩;have h1:Hp C (hcat nh (kpH H N N)) w:=hh.cov gs h0;have h2:Hp C ((kd,.ob w.heap.size dfT)::hcat nh (kpH H N N)) W':=h1.new hn1 hc1 (λb O=>by simp only[Res.bl,Qk]at O;omega) (λj V=>by cases V) λF B _ _ _=>⟨_,hd,rfl⟩;refine h2.new (by rw[Qaa,Qb hne];exact hn2) hc2 (λb O=>by simp only[Res.bl,Qk]at O;omega) (λj V=>by cases V) λF B _ _ _=>⟨o,ho,trivial⟩;rintro k W W' ⟨nh,hJ,hW⟩ hc;obtain⟨o,ho,_⟩: ∃o,W.heap[w.heap.size+1]?=some o/\lpT o:=hW.hold kl (.ob (w.heap.size+1) lpT) (by rw[Qaa,Qc rfl]);have hlt:=Q3 (Qv.1 ho).1 hc.size;exact⟨nh,hJ,hW.ob (hlast hJ) hc (Xs hlt) trivial⟩;exact λe W W' h hc W2 hc2=>h W2 (Ch.then (U:=[w.heap.size+1]) hc hc2 (by simp) (by simp));intro k W h;rw[hΦe k W h];obtain⟨hJ,hW⟩:=Classical.choose_spec h;obtain⟨ls,hS⟩:=(hsub _ _ w.heap.size (w.heap.size+1) hJ).1;exact hS.hp hW hHc rfl (by simp);intro k W0 W args a1 o hk1 hI hc hlt ⟨x,cs,hx,hargs,hrep⟩ hlen ho hdf hfr;rw[hΦe k W0 hI]at hrep;obtain⟨hJ,hW⟩:=Classical.choose_spec hI;obtain⟨nh,hnh⟩: ∃nh,nh=Classical.choose hI:=⟨_,rfl⟩;rw[<-hnh]at hrep hJ hW;have hW1:Hp C (HK kd kl w.heap.size (w.heap.size+1) (λx=>x=o) nh (kpH H N N)) W:=hW.ob (hlast hJ) (hc.mono (by simp)) ho rfl;have O:=(Qdi (HK kd kl w.heap.size (w.heap.size+1) (λx=>x=o) nh (kpH H N N)) bs).hp hW1 (Qas.2 ((Qfs _ _ bs).nodup (Qas.1 hbs))) (Qas.2 ((Qea _ bs).nodup (Qas.1 hbs))) (by simp);have hrep2:t.rep W (Fh ⟨C.n,[],W,blks (HK kd kl w.heap.size (w.heap.size+1) (λx=>x=o) nh (kpH H N N)) (mvl (HK kd kl w.heap.size (w.heap.size+1) (λx=>x=o) nh (kpH H N N)) bs),Fh C (HK kd kl w.heap.size (w.heap.size+1) (λx=>x=o) nh (kpH H N N))⟩ (kpH (HK kd kl w.heap.size (w.heap.size+1) (λx=>x=o) nh (kpH H N N)) [] bs)) cs x:=by
  have hnb: ∀b,(∀j,¬Bk (HK kd kl w.heap.size (w.heap.size+1) (λx=>x=o) nh (kpH H N N)) j b)->∀j,¬Bk (kpH (HK kd kl w.heap.size (w.heap.size+1) (λx=>x=o) nh (kpH H N N)) [] bs) j b:=λb hB j ⟨r,h1,h2⟩=>hB j ⟨r,(Qcq h1).1,h2⟩;have hpq: ∀j b,Bk (HK kd kl w.heap.size (w.heap.size+1) (λx=>x=o) nh (kpH H N N)) j b->Bk (HK kd kl w.heap.size (w.heap.size+1) lpT nh (kpH H N N)) j b:=λj b V=>by
   by_cases e:j=kl;subst e;rw[Bk.cons_eq]at V ⊢;exact V;rw[Bk.cons_ne e]at V ⊢;exact V
  refine rep_to hrep (S:=[]) (Ch.refl W) λb O hl=>⟨by simp,?_⟩;have:Fh C (HK kd kl w.heap.size (w.heap.size+1) (λx=>x=o) nh (kpH H N N)) b:=by
   rcases O with O|O
   exact⟨λj V=>O.1 j (hpq j b V),O.2⟩;exact⟨λj V=>by have:=(hW.bnd j b (hpq j b V)).2;omega,.inr (.inl (Wr hW.ch.size O))⟩
  exact⟨hnb b this.1,.inl this⟩
 obtain⟨pl,hpl,hcs,hb2⟩:=Qgc O.nds hrep2 kn ((hsub _ _ w.heap.size (w.heap.size+1) hJ).2.2 o);subst hcs;rw[hargs]at hfr;refine wpIn_mono (Qba (hround k nh x w.heap.size (w.heap.size+1) W o hJ hx (rep_ok t hrep) hW1) pl hpl a1 W hfr hb2) λe a2 W2 he=>?_;cases e with
 |normal=>exact⟨rfl,he⟩
 |_=>exact False.elim he
 rintro W a' ⟨nh,hJ,hW⟩ hd hf';exact hdone nh _ _ hJ a' W hf' hW.nds;exact λW a' hX hd hf'=>hX W (Ch.refl' _ _) a' hf';exact λid W a' hX hd hf'=>hX W (Ch.refl' _ _) a' hf'
def AE.flip {D L:Nat}{o:Obj}{Yb:Obj->Exit->Act->World->Prop}{body:Code}(kd kl:Nat)(h: ∀N,AX (some L) P (Yb N) [] body ⟨C.n,[],C.w0,C.S,C.F⟩ l ((kl,.ob L (λx=>x=N))::H))(O:C.ds=[]:=by rfl)
  (h1:hk H kl=some (.ob L (λx=>x=o)):=by rfl) (h2:hk H kd=some (.ob D dfT):=by rfl) (hj:hng [kl] [] H=true:=by kernel_rfl):AE (some L) P Y (.m (MF P D L o Yb body)::K) .normal C l H:=λa w hf V=>by
 obtain⟨o',ho',e⟩: ∃o',w.heap[L]?=some o'/\o'=o:=V.hold kl _ h1;obtain⟨d,hd,e2⟩: ∃d,w.heap[D]?=some d/\d=.deferred (some []):=V.hold kd _ h2;subst e;subst e2;rw[O]at hf;exact⟨ho',hd,λW2 N hc W _=>h N a W2 hf (Hp.dd (js:=[]) (V.obj (q:=λx=>x=N) h1 hc W rfl) hj).nds⟩
def Qgq {n:Nat}{ds:List Deferred}{W W':World}{kd kl D L M:Nat}{p:Obj->Prop}{N:Obj}{nh Hk He Ho:List (Nat×Res)}{bs gs:List Nat}{ps:List (Nat×Nat)}(O:Hp C (HK kd kl D L p nh Hk) W)(V:Hp ⟨n,ds,W,blks (HK kd kl D L p nh Hk) (mvl (HK kd kl D L p nh Hk) bs),Fh C (HK kd kl D L p nh Hk)⟩ He W')
  (hkd:hk He kd=some (.ob D dfT)) (hkl:hk He kl=some (.ob L (λx=>x=N))) (h1:(outs (kpH He gs gs)&&frs M (HK kd kl D L p nh Hk) (kpH He gs gs))=true)
  (h2:ren (hcat (sft M (kpH He gs gs)) (kill ((mvl (HK kd kl D L p nh Hk) bs).map (·.2)) (HK kd kl D L p nh Hk))) ps=(kl,.ob L (λx=>x=N))::Ho) (h3:nod (ps.map (·.1))=true) (h4:nod (ps.map (·.2))=true) (h5:nrf kl Ho=true):
  W'.heap[L]?=some N/\Dfr W' D/\∀W2,Ch [L] W' W2->Hp C ((kl,.ob L lpT)::Ho) W2:=by
 obtain⟨o',ho',e⟩: ∃o',W'.heap[L]?=some o'/\o'=N:=V.hold kl _ hkl;obtain⟨d,hd,e2⟩: ∃d,W'.heap[D]?=some d/\d=.deferred (some []):=V.hold kd _ hkd;subst e;subst e2;refine⟨ho',hd,λW2 hc=>?_⟩;have:=fin_round O V gs M ps h1 h2 h3 h4;exact this.ob h5 hc (Xs (Q3 (Qv.1 ho').1 hc.size)) trivial
def AE.bn {X:Exit->World->Prop}{k n:Nat}{W:World}{kd kl D L:Nat}{p:Obj->Prop}{N:Obj}{nh Hk He:List (Nat×Res)}{J:Nat->List (Nat×Res)->Prop}{bs:List Nat}{S:List Nat}{F:Nat->Prop}(O:Hp C (HK kd kl D L p nh Hk) W)(gs:List Nat)(M:Nat)(ps:List (Nat×Nat))(nh':List (Nat×Res))(hJ:J (k+1) nh')
  (hS:S=blks (HK kd kl D L p nh Hk) (mvl (HK kd kl D L p nh Hk) bs)) (hF:F=Fh C (HK kd kl D L p nh Hk))
  (V:hk He kd=some (.ob D dfT):=by rfl) (hkl:hk He kl=some (.ob L (λx=>x=N)):=by rfl) (h1:(outs (kpH He gs gs)&&frs M (HK kd kl D L p nh Hk) (kpH He gs gs))=true:=by kernel_rfl)
  (h2:ren (hcat (sft M (kpH He gs gs)) (kill ((mvl (HK kd kl D L p nh Hk) bs).map (·.2)) (HK kd kl D L p nh Hk))) ps=(kl,.ob L (λx=>x=N))::(kd,.ob D dfT)::hcat nh' Hk:=by kernel_rfl) (h3:nod (ps.map (·.1))=true:=by rfl) (h4:nod (ps.map (·.2))=true:=by rfl) (h5:nrf kl ((kd,.ob D dfT)::hcat nh' Hk)=true:=by kernel_rfl):
  AE (some L) P (RQ D L N (IK C kd kl D L J Hk) X k) [] .normal ⟨n,[],W,S,F⟩ l He:=λa w hf hh=>by
 subst hS;subst hF;obtain⟨h6,h7,h8⟩:=Qgq O hh V hkl h1 h2 h3 h4 h5;exact⟨h6,h7,nh',hJ,h8 w (Ch.refl' _ _)⟩
def AX.bret {Kb:List Kx}{I:Nat->World->Prop}{lo:List (Nat×Value)}{k n:Nat}{W:World}{kd kl D L:Nat}{p:Obj->Prop}{N:Obj}{nh Hk He:List (Nat×Res)}{bs:List Nat}{S:List Nat}{F:Nat->Prop}(O:Hp C (HK kd kl D L p nh Hk) W)(gs:List Nat)(M:Nat)(ps:List (Nat×Nat))(Ho:List (Nat×Res))
  (hout:AE none P Y K .ret ⟨C.n,mkD D::C.ds,C.w0,C.S,C.F⟩ lo ((kl,.ob L lpT)::Ho)) (hS:S=blks (HK kd kl D L p nh Hk) (mvl (HK kd kl D L p nh Hk) bs)) (hF:F=Fh C (HK kd kl D L p nh Hk))
  (V:hk He kd=some (.ob D dfT):=by rfl) (hkl:hk He kl=some (.ob L (λx=>x=N)):=by rfl) (h1:(outs (kpH He gs gs)&&frs M (HK kd kl D L p nh Hk) (kpH He gs gs))=true:=by kernel_rfl)
  (h2:ren (hcat (sft M (kpH He gs gs)) (kill ((mvl (HK kd kl D L p nh Hk) bs).map (·.2)) (HK kd kl D L p nh Hk))) ps=(kl,.ob L (λx=>x=N))::Ho:=by kernel_rfl) (h3:nod (ps.map (·.1))=true:=by rfl) (h4:nod (ps.map (·.2))=true:=by rfl) (h5:nrf kl Ho=true:=by kernel_rfl):
  AX (some L) P (RQ D L N I (XK P Y K C lo D L) k) Kb .ret ⟨n,[],W,S,F⟩ l He:=λa w hf hh=>by
 subst hS;subst hF;obtain⟨h6,h7,h8⟩:=Qgq O hh V hkl h1 h2 h3 h4 h5;exact wpIn_ret (kont_ret ⟨h6,h7,λW' hc a' hf'=>hout a' W' hf' (h8 W' hc).nds⟩)
end
def bodyQ (P:Program)(fn:Func)(R:Ending->World->Prop):Exit->Act->World->Prop
 | .normal,a,w=>bodyPostM (FW none) 0 P fn R .normal a w
 | .ret,a,w=>bodyPostM (FW none) 0 P fn R .ret a w
 |_,_,_=>False
def unob:List (Nat×Res)->List (Nat×Res)
 | []=>[]
 |(k,r)::H=>(k,match r with
  | .ob _ _=>.dead
  |r=>match r.ref with
   |none=>r
   |some _=>.dead)::unob H
def Qff: ∀{H:List (Nat×Res)} {k:Nat} {r:Res},hk (unob H) k=some r->r=.dead\/(hk H k=some r/\r.ref=none/\∀g p,r≠ .ob g p)
 | [],_,_,h=>by cases h
 |(d,u)::H,k,r,h=>by
  unfold unob at h;rw[Qaa]at h ⊢;split at h;rename_i e;rw[Qc e];injection h with h
  cases u with
  |ob g p=>exact .inl h.symm
  |el k b o cs=>cases k with
   |none=>subst h;exact .inr ⟨rfl,rfl,λg p e=>by cases e⟩
   |some j=>exact .inl h.symm
  |mit k g b n s la=>exact .inl h.symm
  |_=>subst h;exact .inr ⟨rfl,rfl,λg p e=>by cases e⟩
  rename_i e;rw[Qb e];exact Qff h
def okD (H:List (Nat×Res)):List Nat->List Nat->Prop
 | [],[]=>True
 |D::Ds,k::ks=>hk H k=some (.ob D dfT)/\okD H Ds ks
 |_,_=>False
def Qfm {H:List (Nat×Res)}: ∀{Ds ks:List Nat},okD H Ds ks->∀D,D∈Ds->∃k,k∈ks/\hk H k=some (.ob D dfT)
 | [],_,_,D,h=>by cases h
 |D::Ds,[],h,_,_=>by cases h
 |D::Ds,k::ks,h,E,L=>by
  rcases Qn.1 L with rfl|L
  exact⟨k,Ql ..,h.1⟩;obtain⟨j,N,O⟩:=Qfm h.2 E L;exact⟨j,Qh _ N,O⟩
def Qhf {C:Cx}{H:List (Nat×Res)}{w:World}(N:Hp C H w): ∀{Ds ks:List Nat},okD H Ds ks->ks.Nodup->Ds.Nodup
 | [],_,_,_=>Ym
 |D::Ds,[],h,_=>by cases h
 |D::Ds,k::ks,h,L=>by
  rw[W5]at L ⊢;refine⟨λO=>?_,Qhf N h.2 L.2⟩;obtain⟨j,V,W⟩:=Qfm h.2 D O;have:=N.dis k j D ⟨_,h.1,by simp[Res.bl]⟩ ⟨_,W,by simp[Res.bl]⟩;exact L.1 (this▸V)
def Hp.unob {C:Cx}{H:List (Nat×Res)}{w w':World}{Ds:List Nat}(h:Hp C H w)(hD: ∀D,D∈Ds->∃k,hk H k=some (.ob D dfT))(hc:Ch Ds w w'):Hp C (A.unob H) w':=by
 have L: ∀j b,Bk (A.unob H) j b->Bk H j b/\b∉Ds:=λj b ⟨r,h1,h2⟩=>by
  rcases Qff h1 with rfl|⟨h3,_,h4⟩
  cases h2;refine⟨⟨r,h3,h2⟩,λhm=>?_⟩;obtain⟨k,W⟩:=hD b hm;have:=h.dis j k b ⟨r,h3,h2⟩ ⟨_,W,by simp[Res.bl]⟩;subst this;rw[h3]at W;injection W with W;exact h4 _ _ W
 have hfree: ∀b,(∀k,¬Bk H k b)->b∉Ds/\∀k,¬Bk (A.unob H) k b:=λb N=>⟨λhm=>by obtain⟨k,W⟩:=hD b hm;exact N k ⟨_,W,by simp[Res.bl]⟩,λj V=>N j (L j b V).1⟩;refine⟨?_,λj r V=>?_,λj b V=>?_,λj j' b V hj'=>h.dis j j' b (L j b V).1 (L j' b hj').1,λj r i V hri=>?_⟩;have O:=h.ch;refine⟨hc.os.trans O.os,hc.tape.trans O.tape,hc.output.trans O.output,Wr O.size hc.size,λb N hn=>?_⟩;rw[hc.block b (Q3 N O.size) (λhm=>?_)];exact O.block b N hn;obtain⟨k,W⟩:=hD b hm;rcases(h.bnd k b ⟨_,W,by simp[Res.bl]⟩).1 with h1|h1
 omega;exact hn h1;rcases Qff V with rfl|⟨h3,h4,W⟩
 trivial;exact Res.to (h.hold j r h3) hc (λb N _=>⟨(hfree b N.1).1,(hfree b N.1).2,N.2⟩) (λb N _=>hfree b N) (λi b hi _=>by rw[h4]at hi;cases hi) λb N=>(L j b ⟨r,V,N⟩).2;exact⟨(h.bnd j b (L j b V).1).1,Q3 (h.bnd j b (L j b V).1).2 hc.size⟩;rcases Qff V with rfl|⟨_,h4,_⟩
 cases hri;rw[h4]at hri;cases hri
section
variable {r:Option Nat}{P:Program}{K:List Kx}{l:List (Nat×Value)}{H:List (Nat×Res)}
def Ct.enterM {f:FuncId}{fn:Func}{c:Code}{vs:List Value}{n:Nat}{S:List Nat}{R:Value->List (Nat×Res)->Prop}(L:P.funcs[f]?=some fn)(N:fn.body=some c)(O:fn.ntmps=n)(V:Nat.ble vs.length n=true)
  (h: ∀w F,AX none P (bodyQ P fn λe w'=>∃v H',e=.returned v/\R v H'/\Hp ⟨0,[],w,S,F⟩ H' w') [] c ⟨n,[],w,S,F⟩ (argl vs 0) H):Ct P f vs H S R:=λw F W=>
 Z.enterM L N O (Qq V) λa hf'=>wpIn_mono (h w F a w hf' W.nds) λe a w h=>(by cases e<;>first|exact h|exact False.elim h)
def AE.rtM {fn:Func}{N:World}{S:List Nat}{F:Nat->Prop}{n:Nat}{R:Value->List (Nat×Res)->Prop}{Ds:List Nat}{ds:List Deferred}(kds:List Nat)(ps:List (Nat×Nat))(v:Value)(O:okD H Ds kds)(hres: ∀a w,Fr a n ds l->Hp ⟨n,ds,N,S,F⟩ (A.unob H) w->(results fn a.tmps).run P w=.ok v w)(hR:R v (A.ren (A.unob H) ps))(V:marks Ds=ds:=by rfl)(hk:nod kds=true:=by rfl)(h1:nod (ps.map (·.1))=true:=by rfl)(h2:nod (ps.map (·.2))=true:=by rfl):
  AE r P (bodyQ P fn λe w'=>∃v H',e=.returned v/\R v H'/\Hp ⟨0,[],N,S,F⟩ H' w') K .ret ⟨n,ds,N,S,F⟩ l H:=λa w hf W=>by
 subst V;refine kont_ret (retM hf (λD hm=>?_) (Qhf W O (Qas.1 hk)) λw' hc _=>?_);obtain⟨k,_,L⟩:=Qfm O D hm;obtain⟨d,hd,e2⟩: ∃d,w.heap[D]?=some d/\d=.deferred (some []):=W.hold k _ L;subst e2;exact hd;have L:=W.unob (λD hm=>by obtain⟨k,_,L⟩:=Qfm O D hm;exact⟨k,L⟩) hc;exact⟨v,hres a w' hf L,v,_,rfl,hR,(L.ren ps h1 h2).nds⟩
def AX.rtM {fn:Func}{L:World}{S:List Nat}{F:Nat->Prop}{n:Nat}{R:Value->List (Nat×Res)->Prop}{Ds:List Nat}{ds:List Deferred}(kds:List Nat)(ps:List (Nat×Nat))(v:Value)(O:okD H Ds kds)(hres: ∀a w,Fr a n ds l->Hp ⟨n,ds,L,S,F⟩ (A.unob H) w->(results fn a.tmps).run P w=.ok v w)(V:R v (A.ren (A.unob H) ps))(N:marks Ds=ds:=by rfl)(hk:nod kds=true:=by rfl)(W:nod (ps.map (·.1))=true:=by rfl)(h2:nod (ps.map (·.2))=true:=by rfl):
  AX r P (bodyQ P fn λe w'=>∃v H',e=.returned v/\R v H'/\Hp ⟨0,[],L,S,F⟩ H' w') K .ret ⟨n,ds,L,S,F⟩ l H:=λa w hf hh=>wpIn_ret (AE.rtM kds ps v O hres V N hk W h2 a w hf hh)
end
structure Yl (P:Program) (lid:Nat) (J:Nat->World->Prop) (Jx:World->Prop) (Φ:Nat->World->Nat->Prop) (Hc:List (Nat×Res)) (t:Ty) (ag:List Value->List Value) (xs:List t.den):Prop where
 js: ∀k W W',J k W->Ch [] W W'->J k W'
 jx: ∀W W',Jx W->Ch [] W W'->Jx W'
 dat: ∀k W,J k W->Hp ⟨0,[],W,[],Φ k W⟩ Hc W
 y: ∀k W0 W args,k<xs.length->J k W0->Ch [] W0 W->El t ag xs Φ k W0 W args->YieldAt (FW none) 0 P lid args.toArray W λe W'=>(e=.returned (.bool true)/\J (k+1) W')\/(e=.returned (.bool false)/\Jx W')
def Rem {α:Type}(xs:List α)(k:Nat)(rs:List α):Prop:=xs.drop k=rs/\k<=xs.length
def Rem.zero {α:Type}(xs:List α):Rem xs 0 xs:=⟨rfl,X7 _⟩
def Rem.nil {α:Type}{xs:List α}{k:Nat}(h:Rem xs k []):k=xs.length:=by
 have:=List.drop_eq_nil_iff.1 h.1;have:=h.2;omega
def Rem.at {α:Type}{xs rs:List α}{k:Nat}{x:α}(h:Rem xs k (x::rs)):xs[k]?=some x:=by
 have L:=h.1;have:(xs.drop k)[0]?=some x:=by rw[L];rfl
 rw[Wl]at this;simpa using this
def Rem.next {α:Type}{xs rs:List α}{k:Nat}{x:α}(h:Rem xs k (x::rs)):Rem xs (k+1) rs:=by
 refine⟨?_,?_⟩;rw[<-Xi,h.1];rfl;exact(Qd.1 h.at).1
def cns {α:Type}(x:α)(r:Option (List α)):Option (List α):=r.map (x:: ·)
def cns_some {α:Type}{x:α}{r:Option (List α)}{rs:List α}(h:cns x r=some rs): ∃rs',rs=x::rs'/\r=some rs':=by
 cases r with
 |none=>cases h
 |some l=>exact⟨l,(Xm h).symm,rfl⟩
abbrev CY (n:Nat) (Φ:Nat->World->Nat->Prop) (i:Nat×World):Cx:=⟨n,[],i.2,[],Φ i.1 i.2⟩
section
variable {P:Program}{lid:Nat}{J:Nat->World->Prop}{Jx:World->Prop}{Φ:Nat->World->Nat->Prop}{Hc:List (Nat×Res)}{t:Ty}{ag:List Value->List Value}{xs:List t.den}{n:Nat}
def Sq.enter {gf:FuncId}{fn:Func}{c:Code}{cap:List Value}(O:P.funcs[gf]?=some fn)(V:fn.body=some c)(W:fn.ntmps=n)(hm:Nat.ble (cap.length+1) n=true)
  (h: ∀lid w J Jx Φ,Yl P lid J Jx Φ Hc t ag xs->J 0 w->AX none P (bodyPost P fn λe W'=>e=.returned (.tuple #[])/\(J xs.length W'\/Jx W')) [] c (CY n Φ (0,w)) (argl (.func (.yield lid) #[] #[]::cap) 0) Hc):Sq P gf cap Hc t ag xs:=λΦ lid w J Jx h1 h2 L N h5=>
 Z.enter O V W (Qq hm) λa hf'=>h lid w J Jx Φ ⟨h1,h2,L,h5⟩ N a w hf' (L 0 w N).nds
def AL.yield {ops:Array Oper}{Q:Exit->Act->World->Prop}{rest:List Oper}{l:List (Nat×Value)}{H:List (Nat×Res)}{d:Nat}{T:TypeId}{pos:String}{af:Array Edge}{c:Operand}{ass:List Operand}{ts:Array TypeId}{vs:List Value}{k:Nat}{N:World}{x:t.den}{rs:List t.den}
  (W:Yl P lid J Jx Φ Hc t ag xs) (hJ:J k N) (O:Rem xs k (x::rs)) (cs:List Value) (hD:Dat H t cs x)
  (ht: ∀w',J (k+1) w'->Rem xs (k+1) rs->AL none P ops Q rest (CY n Φ (k+1,w')) ((d,.bool true)::l) Hc)
  (he: ∀w',Jx w'->AL none P ops Q rest ⟨n,[],w',[],no⟩ ((d,.bool false)::l) [])
  (hc:ev l c=some (.func (.yield lid) #[] #[]):=by rfl) (hx:evs l ass=some vs:=by rfl) (hv:ag cs=vs:=by rfl) (hd:Nat.ble (d+1) n=true:=by rfl):
  AL none P ops Q (⟨some d,.call {callee:=.value c,args:=ass.toArray,argTypes:=ts},T,pos,af,none⟩::rest) (CY n Φ (k,N)) l H:=λa w hf hh=>by
 subst hv;have V:k<xs.length:=(Qd.1 O.at).1;refine callY hf hd hc hx (W.y k N w _ V hJ hh.ch ⟨x,cs,O.at,rfl,rep_as (Dat.rep hh t hD) λb hb hl=>?_⟩) ?_;rcases hb.2 with L|L|L
 exact .inl L;exact .inr L;cases L
 ·rintro e w' (⟨rfl,L⟩|⟨rfl,L⟩)
  ·exact⟨_,rfl,λa' hf'=>ht w' L O.next a' w' hf' (W.dat _ _ L).nds⟩
  exact⟨_,rfl,λa' hf'=>he w' L a' w' hf' ⟨Ch.refl' _ _,λk r h=>(by cases h),λk b ⟨_,h,_⟩=>(by cases h),λk k' b ⟨_,h,_⟩=>(by cases h),λk r j h=>(by cases h)⟩⟩
def AE.rtY {fn:Func}{l:List (Nat×Value)}{H:List (Nat×Res)}{k:Nat}{L:World}(N:Yl P lid J Jx Φ Hc t ag xs)(O:J k L)(V:Rem xs k [])(h:fn.results=#[]:=by rfl):AE none P (bodyPost P fn λe W'=>e=.returned (.tuple #[])/\(J xs.length W'\/Jx W')) [] .normal (CY n Φ (k,L)) l H:=λa w W hh=>
 Z.endv W (Z.res0 h w) ⟨rfl,.inl (V.nil▸N.js _ _ _ O hh.ch)⟩
def AX.rtX {fn:Func}{K:List Kx}{l:List (Nat×Value)}{H:List (Nat×Res)}{L:World}{F:Nat->Prop}(N:Yl P lid J Jx Φ Hc t ag xs)(O:Jx L)(h:fn.results=#[]:=by rfl):AX none P (bodyPost P fn λe W'=>e=.returned (.tuple #[])/\(J xs.length W'\/Jx W')) K .ret ⟨n,[],L,[],F⟩ l H:=AX.ret0 λa w V W=>
 Z.retv V (Z.res0 h w) ⟨rfl,.inr (N.jx _ _ O W.ch)⟩
end
section
variable {r:Option Nat}{P:Program}{Y:Exit->Act->World->Prop}{K:List Kx}{C:Cx}{l:List (Nat×Value)}{H:List (Nat×Res)}{ι:Type}{Cf:ι->Cx}
abbrev StC (Cf:ι->Cx) (l:List (Nat×Value)) (H:List (Nat×Res)) (ks hs:List Nat) (J:ι->List (Nat×Value)->List (Nat×Res)->Prop):Act->World->Prop:=λa w=>∃i nl nh,J i nl nh/\Fr a (Cf i).n (Cf i).ds (cat nl (kp l ks))/\Hp (Cf i) (hcat nh (kpH H hs hs)) w
def AE.jC {l':List (Nat×Value)}{H':List (Nat×Res)}{ks L:List Nat}{J:ι->List (Nat×Value)->List (Nat×Res)->Prop}(i:ι)(gs:List Nat)(nl:List (Nat×Value))(nh:List (Nat×Res))(N:J i nl nh)(O:kp l ((cat nl (kp l' ks)).map (·.1))=cat nl (kp l' ks):=by kernel_rfl)(V:kpH H gs gs=hcat nh (kpH H' L L):=by kernel_rfl):
  AE r P Y (.m (StC Cf l' H' ks L J)::K) .normal (Cf i) l H:=λa w W hh=>⟨i,nl,nh,N,Fr.cov W O,hh.cov gs V⟩
def AX.loopC (Cf:ι->Cx)(N:ι)(ks L gs:List Nat)(J:Nat->ι->List (Nat×Value)->List (Nat×Res)->Prop)(m:Nat)(nl:List (Nat×Value))(nh:List (Nat×Res)){x:Code}(O:J m N nl nh)
  (h: ∀f i nl nh,J f i nl nh->AX r P Y (.m (StC Cf l H ks L λi nl nh=>∃f',f'<f/\J f' i nl nh)::K) x (Cf i) (cat nl (kp l ks)) (hcat nh (kpH H L L)))
  (h1:kp l ((cat nl (kp l ks)).map (·.1))=cat nl (kp l ks):=by kernel_rfl) (h2:kpH H gs gs=hcat nh (kpH H L L):=by kernel_rfl):AX r P Y K (.loop x) (Cf N) l H:=λa w V W=>by
 refine Z.loop (λf a w=>StC Cf l H ks L (J f) a w) m ⟨N,nl,nh,O,Fr.cov V h1,W.cov gs h2⟩ λf a w ⟨i,nl,nh,O,V,W⟩=>?_;refine wpIn_mono (h f i nl nh O a w V W) λe a w hq=>?_;cases e with
 |normal=>obtain⟨i,nl,nh,⟨f',hlt,hJ'⟩,hf',hh'⟩:=hq;exact⟨f',hlt,i,nl,nh,hJ',hf',hh'⟩
 |_=>exact hq
end
def drop_at {α:Type}{xs:List α}{k:Nat}{x:α}(h:xs[k]?=some x):xs.drop k=x::xs.drop (k+1):=by
 obtain⟨L,rfl⟩:=Qd.1 h;exact Xr L
end Go.A
end
