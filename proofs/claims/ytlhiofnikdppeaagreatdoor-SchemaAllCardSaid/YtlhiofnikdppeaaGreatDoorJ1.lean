import Derived.Test.YtlhiofnikdppeaaGreatDoorJ0
import Derived.Scope
import Derived.Shelf.Unicode.ValidAny
set_option linter.defProp false
set_option linter.unusedVariables false
set_option linter.unusedSimpArgs false
set_option linter.unusedSectionVars false
set_option maxRecDepth 20000
section
namespace Go.A
open Go.RowKit Go.Z
def Bk.cons_ne {H:List (Nat×Res)}{k j b:Nat}{r:Res}(h:j≠k):Bk ((k,r)::H) j b↔Bk H j b:=by
 unfold Bk;rw[Qaa,Qb (Ne.symm h)]
def Bk.cons_eq {H:List (Nat×Res)}{k b:Nat}{r:Res}:Bk ((k,r)::H) k b↔b∈r.bl:=by
 unfold Bk;rw[Qaa,Qc rfl];exact⟨λ⟨L,E,I⟩=>by injection E with E;subst E;exact I,λh=>⟨r,rfl,h⟩⟩
def Hp.ext {C:Cx}{H H':List (Nat×Res)}{w:World}(h:Hp C H w)(e: ∀j,hk H' j=hk H j\/(hk H' j=some .dead/\hk H j=none)):Hp C H' w:=by
 have e0: ∀{j r},hk H' j=some r->r=.dead\/hk H j=some r:=λ{j r} L=>by
  rcases e j with I|⟨I,_⟩
  exact .inr (I▸L);rw[I]at L;injection L with L;exact .inl L.symm
 have e1:Bk H'=Bk H:=by
  funext k b;refine propext ⟨λ⟨r,I,N⟩=>?_,λ⟨r,I,N⟩=>?_⟩;rcases e0 I with rfl|E
  cases N;exact⟨r,E,N⟩;rcases e k with E|⟨_,E⟩
  exact⟨r,E.trans I,N⟩;rw[E]at I;cases I
 have e2:Fh C H'=Fh C H:=by funext b;unfold Fh;rw[e1]
 refine⟨h.ch,λk r hk=>?_,?_,?_,λk r j hk O=>?_⟩;rcases e0 hk with rfl|E
 trivial;rw[e1,e2];exact h.hold k r E;rw[e1];exact h.bnd;rw[e1];exact h.dis;rcases e0 hk with rfl|E
 cases O;refine⟨(h.ref k r j E O).1,λr' V=>?_⟩;rcases e0 V with rfl|W
 rfl;exact(h.ref k r j E O).2 r' W
def ded:List Nat->List (Nat×Res)->List (Nat×Res)
 | [],H=>H
 |j::js,H=>(j,.dead)::ded js H
def Qia {H:List (Nat×Res)}{j:Nat}: ∀{js:List Nat},hk (ded js H) j=bif js.any (Nat.beq j)then some .dead else hk H j
 | []=>rfl
 |i::js=>by
  show hk ((i,.dead)::ded js H) j=_;rw[Qaa,Qia,Yd];by_cases h:i=j;subst h;simp;have:Nat.beq j i=false:=by cases E:Nat.beq j i with
   |false=>rfl
   |true=>exact absurd (Wx E).symm h
  rw[Qb h,this];rfl
def rin (ks:List Nat):Option Nat->Bool
 |none=>false
 |some i=>ks.any (Nat.beq i)
def hng (ks js:List Nat)(H:List (Nat×Res)):Bool:=
 js.all (λj=>match hk H j with|some v=>rin ks v.ref|none=>true)&&H.all λp=>bif rin ks p.2.ref then js.any (Nat.beq p.1)||(match hk H p.1 with|some v=> !(rin ks v.ref)|none=>true)else true
def hk_memb: ∀{H:List (Nat×Res)} {j:Nat} {v:Res},hk H j=some v->(j,v)∈H
 |(d,u)::H,j,v,h=>by
  rw[Qaa]at h;split at h;rename_i e;subst e;injection h with h;subst h;exact Qi ..
  exact Qf _ (hk_memb h)
def hng_at {ks js:List Nat}{H:List (Nat×Res)}(h:hng ks js H=true)(j:Nat):(bif js.any (Nat.beq j)then some Res.dead else hk H j)=((hk H j).map λv=>bif rin ks v.ref then .dead else v)\/((bif js.any (Nat.beq j)then some Res.dead else hk H j)=some .dead/\((hk H j).map λv=>bif rin ks v.ref then .dead else v)=none):=by
 simp only[hng,Qo,Wd]at h;cases L:js.any (Nat.beq j)with
 |true=>
  obtain⟨i,O,V⟩:=Jb.1 L;have:=Wx V;subst this;have E:=h.1 j O;cases I:hk H j with
  |none=>exact .inr ⟨rfl,rfl⟩
  |some v=>rw[I]at E;replace E:rin ks v.ref=true:=E;exact .inl (by simp[E])
 |false=>
  cases I:hk H j with
  |none=>exact .inl rfl
  |some v=>
   refine .inl ?_;have E:=h.2 _ (hk_memb I);simp only[L,I,Xo]at E;cases N:rin ks v.ref with
   |false=>simp[N]
   |true=>rw[N]at E;cases E
def Qbp (k:Nat): ∀(H:List (Nat×Res)) (j:Nat),hk (drp k H) j=(hk H j).map λv=>bif rin [k] v.ref then .dead else v
 | [],_=>rfl
 |(d,u)::H,j=>by
  unfold drp;rw[Qaa,Qaa];by_cases E:d=j;rw[Qc E,Qc E];cases I:u.ref with
  |none=>simp[I,rin]
  |some i=>cases L:Nat.beq i k<;>simp[I,rin]<;>simp at L<;>simp[L]
  rw[Qb E,Qb E];exact Qbp k H j
def Hp.dd {C:Cx}{H:List (Nat×Res)}{w:World}{k:Nat}{r:Res}{js:List Nat}(h:Hp C ((k,r)::drp k H) w)(E:hng [k] js H=true):Hp C ((k,r)::ded js H) w:=
 h.ext λj=>by
  rw[Qaa,Qaa];by_cases h:k=j;rw[Qc h,Qc h];exact .inl rfl;rw[Qb h,Qb h,Qia,Qbp];exact hng_at E j
def Hp.dd2 {C:Cx}{H:List (Nat×Res)}{w:World}{k I:Nat}{r L:Res}{js:List Nat}(h:Hp C ((I,L)::(k,r)::drp k H) w)(N:hng [k] js H=true):Hp C ((I,L)::(k,r)::ded js H) w:=
 h.ext λj=>by
  rw[Qaa,Qaa,Qaa,Qaa];by_cases E:I=j;rw[Qc E,Qc E];exact .inl rfl;by_cases h:k=j;rw[Qb E,Qb E,Qc h,Qc h];exact .inl rfl;rw[Qb E,Qb E,Qb h,Qb h,Qia,Qbp];exact hng_at N j
section
variable {C:Cx}{H:List (Nat×Res)}{w w':World}{k:Nat}{r':Res}
def Hp.noref (h:Hp C H w)(L:hk H k=none){j:Nat}{r:Res}(O:hk H j=some r):r.ref≠some k:=λE=>by
 have N:=h.hold j r O;cases r with
 |el i b o cs=>
  simp only[Res.ref]at E;subst E;obtain⟨_,_,V,I,_⟩:=N;rw[L]at I;cases I
 |mit i g b n seen la=>
  simp only[Res.ref,Qz]at E;subst E;obtain⟨_,⟨V,I,_⟩,_⟩:=N;rw[L]at I;cases I
 |_=>cases E
def Hp.new (h:Hp C H w)(h0:hk H k=none)(hc:Ch [] w w')(hb: ∀b,b∈r'.bl->w.heap.size<=b/\b<w'.heap.size)(hrf: ∀j,r'.ref=some j->∀r,hk H j=some r->r.ref=none)
  (hr: ∀(F:Nat->Prop) (B:Nat->Nat->Prop),(∀b,Fh C H b->b<w.heap.size->F b)->(∀b,(∀k,¬Bk H k b)->b<w.heap.size->∀k,¬B k b)->(∀j b,Bk H j b->B j b)->r'.holds w' F B):Hp C ((k,r')::H) w':=by
 have hkn: ∀j b,Bk H j b->j≠k:=λj b ⟨r,I,_⟩ e=>by subst e;rw[h0]at I;cases I
 have hup: ∀j b,Bk H j b->Bk ((k,r')::H) j b:=λj b E=>(Bk.cons_ne (hkn j b E)).2 E;have hcase: ∀j b,Bk ((k,r')::H) j b->(j=k/\w.heap.size<=b/\b<w'.heap.size)\/(j≠k/\Bk H j b):=λj b E=>by
  by_cases hjk:j=k;subst hjk;exact .inl ⟨rfl,hb b (Bk.cons_eq.1 E)⟩;exact .inr ⟨hjk,(Bk.cons_ne hjk).1 E⟩
 have W: ∀b,(∀k,¬Bk H k b)->b<w.heap.size->∀j,¬Bk ((k,r')::H) j b:=λb hb' hl j E=>by
  rcases hcase j b E with⟨_,I,_⟩|⟨_,I⟩
  omega;exact hb' j I
 refine⟨?_,λj r E=>?_,λj b E=>?_,λj j' b E hj'=>?_,λj r i E L=>?_⟩;have O:=h.ch;exact⟨hc.os.trans O.os,hc.tape.trans O.tape,hc.output.trans O.output,Wq O.size hc.size,λb hb' hn=>by rw[hc.block b (Q4 hb' O.size) (by simp)];exact O.block b hb' hn⟩;rw[Qaa]at E;split at E;injection E with E;subst E
 exact hr _ _ (λb hF hl=>⟨W b hF.1 hl,hF.2⟩) W hup;exact Res.to (h.hold j r E) hc (λb hF hl=>⟨by simp,W b hF.1 hl,hF.2⟩) (λb hB hl=>⟨by simp,W b hB hl⟩) (λi b _ hB=>⟨by simp,hup i b hB⟩) (by simp);rcases hcase j b E with⟨_,I,N⟩|⟨_,I⟩
 exact⟨.inl (Wq h.ch.size I),N⟩;exact⟨(h.bnd j b I).1,Q4 (h.bnd j b I).2 hc.size⟩;rcases hcase j b E with⟨I,N,_⟩|⟨_,I⟩<;>rcases hcase j' b hj' with⟨h3,h4,_⟩|⟨_,h3⟩
 rw[I,h3];have:=(h.bnd j' b h3).2;omega;have:=(h.bnd j b I).2;omega;exact h.dis j j' b I h3;rw[Qaa]at E;have hvis: ∀i V,hk ((k,r')::H) i=some V->i≠k->hk H i=some V:=λi V N hne=>by rwa[Qaa,Qb (Ne.symm hne)]at N
 split at E;injection E with E;subst E
 have hik:i≠k:=λe=>by
  subst e;have I:=hr (λb=>Fh C H b/\b<w.heap.size) (Bk H) (λb I N=>⟨I,N⟩) (λb hB _=>hB) (λj b E=>E);cases r' with
  |el i' b o cs=>
   simp only[Res.ref]at L;subst L;obtain⟨_,_,V,N,_⟩:=I;rw[h0]at N;cases N
  |mit i' g b n seen la=>
   simp only[Res.ref,Qz]at L;subst L;obtain⟨_,⟨V,N,_⟩,_⟩:=I;rw[h0]at N;cases N
  |_=>cases L
 rename_i hkj;exact⟨λe=>hik (e.trans hkj.symm),λV N=>hrf i L V (hvis i V N hik)⟩;obtain⟨h5,h6⟩:=h.ref j r i E L;have hik:i≠k:=λe=>h.noref h0 E (by rw[L,e]);exact⟨h5,λV N=>h6 V (hvis i V N hik)⟩
def Hp.add (h:Hp C H w)(N:hk H k=none)(O:r'.bl=[])(E: ∀j,r'.ref=some j->∀r,hk H j=some r->r.ref=none)
  (V:r'.holds w (λb=>Fh C H b/\b<w.heap.size) (Bk H)):Hp C ((k,r')::H) w:=
 h.new N (Ch.refl w) (by rw[O];simp) E λF B W h2 h3=>Res.to V (S:=[]) (Ch.refl w) (λb L _=>⟨by simp,W b L.1 L.2⟩) (λb I hl=>⟨by simp,h2 b I hl⟩) (λi b _ I=>⟨by simp,h3 i b I⟩) (by simp)
end
def kx:Nat->List Res->List (Nat×Res)
 |_,[]=>[]
 |k,r::rs=>(k,r)::kx (k+1) rs
def hcat:List (Nat×Res)->List (Nat×Res)->List (Nat×Res)
 | [],H=>H
 |p::r,H=>p::hcat r H
def nok (H:List (Nat×Res)):Nat->Nat->Bool
 |_,0=>true
 |k,n+1=>(match hk H k with|none=>true|some _=>false)&&nok H (k+1) n
def Qbw {H:List (Nat×Res)}: ∀{n k j:Nat},nok H k n=true->k<=j->j<k+n->hk H j=none
 |0,k,j,_,E,I=>by omega
 |n+1,k,j,h,E,I=>by
  simp only[nok,Qo]at h;rcases Yy k j with L|N
  exact Qbw h.2 (by omega) (by omega);have:k=j:=by omega
  subst this;cases O:hk H k with
  |none=>rfl
  |some r=>rw[O]at h;exact absurd h.1 (by simp)
def hk_kx: ∀(rs:List Res) (k j:Nat) (H:List (Nat×Res)),j<k->hk (hcat (kx k rs) H) j=hk H j
 | [],_,_,_,_=>rfl
 |r::rs,k,j,H,h=>by
  show hk ((k,r)::hcat (kx (k+1) rs) H) j=_;rw[Qaa,Qb (by omega)];exact hk_kx rs (k+1) j H (by omega)
def Hp.adds {C:Cx}{w:World}: ∀{rs:List Res} {k:Nat} {H:List (Nat×Res)},Hp C H w->nok H k rs.length=true->(∀r,r∈rs->r.bl=[]/\r.ref=none/\r.holds w (λb=>Fh C H b/\b<w.heap.size) (Bk H))->Hp C (hcat (kx k rs) H) w
 | [],_,_,h,_,_=>h
 |r::rs,k,H,h,I,L=>by
  have h1:Hp C (hcat (kx (k+1) rs) H) w:=Hp.adds h (by simp only[Qe,nok,Qo]at I;exact I.2) λN E=>L N (Qf _ E);obtain⟨E,h3,h4⟩:=L r (Qi ..);have hb: ∀(rs:List Res) (k:Nat),(∀r,r∈rs->r.bl=[])->nok H k rs.length=true->∀j b,Bk (hcat (kx k rs) H) j b↔Bk H j b:=by
   intro rs;induction rs with
   |nil=>intro k _ _ j b;exact Iff.rfl
   |cons r rs ih=>
    intro k L I j b;show Bk ((k,r)::hcat (kx (k+1) rs) H) j b↔_;have hn2:nok H (k+1) rs.length=true:=by simp only[Qe,nok,Qo]at I;exact I.2
    have hh:hk H k=none:=Qbw I (Qt k) (by simp);by_cases V:j=k;subst V;rw[Bk.cons_eq,L r (Qi ..)];exact⟨λh=>by simp at h,λ⟨N,E,_⟩=>by rw[hh]at E;cases E⟩;rw[Bk.cons_ne V];exact ih (k+1) (λN E=>L N (Qf _ E)) hn2 j b
  have hb':=hb rs (k+1) (λN E=>(L N (Qf _ E)).1) (by simp only[Qe,nok,Qo]at I;exact I.2);have W: ∀b,Fh C H b->Fh C (hcat (kx (k+1) rs) H) b:=λb W=>⟨λj O=>W.1 j ((hb' j b).1 O),W.2⟩;refine h1.add ?_ E (λj O=>by rw[h3]at O;cases O) ?_;rw[hk_kx rs (k+1) k H (by omega)];exact Qbw I (Qt k) (by simp);exact Res.to h4 (S:=[]) (Ch.refl w) (λb h _=>⟨by simp,W b h.1,h.2⟩) (λb h _=>⟨by simp,λj O=>h j ((hb' j b).1 O)⟩) (λi b _ h=>⟨by simp,(hb' i b).2 h⟩) (by simp)
def rok (ks:List Nat):Option Nat->Bool
 |none=>true
 |some j=>ks.any (Nat.beq j)
def kpH (H:List (Nat×Res))(all:List Nat):List Nat->List (Nat×Res)
 | []=>[]
 |k::ks=>match hk H k with
  |some r=>bif rok all r.ref then(k,r)::kpH H all ks else kpH H all ks
  |none=>kpH H all ks
def Qcs {H:List (Nat×Res)}{all:List Nat}: ∀{ks:List Nat} {k:Nat} {r:Res},hk (kpH H all ks) k=some r->hk H k=some r/\rok all r.ref=true/\k∈ks
 | [],k,r,h=>by cases h
 |j::ks,k,r,h=>by
  unfold kpH at h;cases N:hk H j with
  |none=>rw[N]at h;obtain⟨E,I,L⟩:=Qcs h;exact⟨E,I,Qf _ L⟩
  |some u=>
   rw[N]at h;simp only[]at h;cases O:rok all u.ref with
   |false=>rw[O]at h;obtain⟨E,I,L⟩:=Qcs (show hk (kpH H all ks) k=some r from h);exact⟨E,I,Qf _ L⟩
   |true=>
    rw[O]at h;replace h:hk ((j,u)::kpH H all ks) k=some r:=h;rw[Qaa]at h;split at h;rename_i V;subst V;have h:=Xg h;subst h;exact⟨N,O,Qi ..⟩;obtain⟨E,I,L⟩:=Qcs h;exact⟨E,I,Qf _ L⟩
def Qct {H:List (Nat×Res)}{all:List Nat}: ∀{ks:List Nat} {k:Nat} {r:Res},hk H k=some r->rok all r.ref=true->k∈ks->hk (kpH H all ks) k=some r
 | [],_,_,_,_,h=>by cases h
 |j::ks,k,r,h,I,L=>by
  unfold kpH;by_cases E:j=k;subst E;rw[h];simp only[I];show hk ((j,r)::_) j=_;rw[Qaa,Qc rfl];have hm':k∈ks:=(Qk.1 L).resolve_left (Ne.symm E);cases N:hk H j with
  |none=>exact Qct h I hm'
  |some u=>
   simp only[];cases rok all u.ref with
   |false=>exact Qct h I hm'
   |true=>
    show hk ((j,u)::_) k=_;rw[Qaa,Qb E];exact Qct h I hm'
def Hp.keep {C:Cx}{H:List (Nat×Res)}{w:World}(h:Hp C H w)(ks:List Nat):Hp C (kpH H ks ks) w:=by
 have L: ∀j b,Bk (kpH H ks ks) j b->Bk H j b:=λj b ⟨r,I,E⟩=>⟨r,(Qcs I).1,E⟩;refine⟨h.ch,λk r N=>?_,λk b W=>h.bnd k b (L k b W),λk k' b I E=>h.dis k k' b (L _ _ I) (L _ _ E),λk r j N hr=>?_⟩;obtain⟨I,E,h3⟩:=Qcs N;refine Res.to (h.hold k r I) (S:=[]) (Ch.refl w) (λb hF _=>⟨by simp,λj hj=>hF.1 j (L j b hj),hF.2⟩) (λb hB _=>⟨by simp,λj hj=>hB j (L j b hj)⟩) (λi b hi hB=>⟨by simp,?_⟩) (by simp);obtain⟨O,V,h5⟩:=hB;have h6:=(h.ref k r i I hi).2 O V;refine⟨O,Qct V (by rw[h6];rfl) ?_,h5⟩;rw[hi]at E;simp only[rok,Jb]at E;obtain⟨x,hx,L⟩:=E;rw[Wx L];exact hx;obtain⟨I,_,_⟩:=Qcs N;obtain⟨E,h3⟩:=h.ref k r j I hr;exact⟨E,λO V=>h3 O (Qcs V).1⟩
def Hp.cov {C:Cx}{H H':List (Nat×Res)}{w:World}(h:Hp C H w)(ks:List Nat)(e:kpH H ks ks=H'):Hp C H' w:=e▸h.keep ks
def ren (H:List (Nat×Res)):List (Nat×Nat)->List (Nat×Res)
 | []=>[]
 |(i,k)::ks=>match hk H k with
  |some r=>match r.ref with
   |none=>(i,r)::ren H ks
   |some _=>ren H ks
  |none=>ren H ks
def hk_ren {H:List (Nat×Res)}: ∀{ps:List (Nat×Nat)} {i:Nat} {r:Res},hk (ren H ps) i=some r->∃k,(i,k)∈ps/\hk H k=some r/\r.ref=none
 | [],i,r,h=>by cases h
 |(j,k)::ps,i,r,h=>by
  unfold ren at h;have step:hk (ren H ps) i=some r->∃k',(i,k')∈(j,k)::ps/\hk H k'=some r/\r.ref=none:=λh=>by
   obtain⟨k',N,O⟩:=hk_ren h;exact⟨k',Qf _ N,O⟩
  cases E:hk H k with
  |none=>rw[E]at h;exact step h
  |some u=>
   rw[E]at h;simp only[]at h;cases I:u.ref with
   |some _=>rw[I]at h;exact step h
   |none=>
    rw[I]at h;replace h:hk ((j,u)::ren H ps) i=some r:=h;rw[Qaa]at h;split at h;rename_i L;subst L;injection h with h;subst h;exact⟨k,Qi ..,E,I⟩
    exact step h
def nod:List Nat->Bool
 | []=>true
 |k::ks=> !(ks.any (Nat.beq k))&&nod ks
def Qjp {α:Type}{f g:α->Nat}: ∀{l:List α},nod (l.map f)=true->∀x y,x∈l->y∈l->f x=f y->g x=g y
 | [],_,x,_,V,_,_=>by cases V
 |a::l,h,x,y,V,W,e=>by
  simp only[Q1,nod,Qo,Yp,List.any_map]at h;have E: ∀z∈l,f a≠f z:=λz hz e=>by
   have:=h.1;rw[Jn]at this;exact this z hz (by simp[Function.comp,e])
  rcases Qk.1 V with I|L<;>rcases Qk.1 W with N|O
  rw[I,N];subst I;exact absurd e (E y O);subst N;exact absurd e.symm (E x L);exact Qjp h.2 x y L O e
def Hp.ren {C:Cx}{H:List (Nat×Res)}{w:World}(h:Hp C H w)(ps:List (Nat×Nat))(h1:nod (ps.map (·.1))=true)(h2:nod (ps.map (·.2))=true):Hp C (ren H ps) w:=by
 have V: ∀i b,Bk (A.ren H ps) i b->∃k,(i,k)∈ps/\Bk H k b:=λi b ⟨r,N,E⟩=>by
  obtain⟨k,I,h6,_⟩:=hk_ren N;exact⟨k,I,r,h6,E⟩
 have O: ∀b,(∀k,¬Bk H k b)->∀k,¬Bk (A.ren H ps) k b:=λb W j hj=>by obtain⟨k,_,E⟩:=V j b hj;exact W k E
 refine⟨h.ch,λk r L=>?_,λk b hb1=>by obtain⟨j,_,N⟩:=V k b hb1;exact h.bnd j b N,λk k' b N E=>?_,λk r j L hr=>?_⟩;obtain⟨j,N,E,I⟩:=hk_ren L;exact Res.to (h.hold j r E) (S:=[]) (Ch.refl w) (λb hF _=>⟨by simp,O b hF.1,hF.2⟩) (λb W _=>⟨by simp,O b W⟩) (λi b hi W=>by rw[I]at hi;cases hi) (by simp);obtain⟨j,I,h6⟩:=V k b N;obtain⟨j',h7,h8⟩:=V k' b E;exact Qjp (f:=λp:Nat×Nat=>p.2) (g:=λp:Nat×Nat=>p.1) h2 (k,j) (k',j') I h7 (h.dis j j' b h6 h8);obtain⟨_,_,_,I⟩:=hk_ren L;rw[I]at hr;cases hr
inductive Kx where
 |c (y:Code)
 |b (id:Nat)
 |m (M:Act->World->Prop)
 |s
def kont (r:Option Nat)(P:Program)(Y:Exit->Act->World->Prop):List Kx->Exit->Act->World->Prop
 | [],e,a,w=>Y e a w
 | .c y::K,.normal,a,w=>WP r P y (kont r P Y K) a w
 | .m M::_,.normal,a,w=>M a w
 | .b _::K,.normal,a,w=>kont r P Y K .normal a w
 | .s::_,.goto _,_,_=>False
 | .b id::K,.exit i,a,w=>if i=id then kont r P Y K .normal a w else kont r P Y K (.exit i) a w
 |_::K,e,a,w=>kont r P Y K e a w
section
variable {r:Option Nat}{P:Program}{Y:Exit->Act->World->Prop}{K:List Kx}{C:Cx}{l:List (Nat×Value)}{H:List (Nat×Res)}
abbrev AX (r:Option Nat) (P:Program) (Y:Exit->Act->World->Prop) (K:List Kx) (c:Code) (C:Cx) (l:List (Nat×Value)) (H:List (Nat×Res)):Prop:=∀a w,Fr a C.n C.ds l->Hp C H w->WP r P c (kont r P Y K) a w
abbrev AE (r:Option Nat) (P:Program) (Y:Exit->Act->World->Prop) (K:List Kx) (e:Exit) (C:Cx) (l:List (Nat×Value)) (H:List (Nat×Res)):Prop:=∀a w,Fr a C.n C.ds l->Hp C H w->kont r P Y K e a w
abbrev AL (r:Option Nat) (P:Program) (ops:Array Oper) (Q:Exit->Act->World->Prop) (rest:List Oper) (C:Cx) (l:List (Nat×Value)) (H:List (Nat×Res)):Prop:=∀a w,Fr a C.n C.ds l->Hp C H w->WL r P ops Q rest a w
def AX.seq {x y:Code}(h:AX r P Y (.c y::K) x C l H):AX r P Y K (.seq x y) C l H:=λa w E I=>by
 refine wpIn_seq (wpIn_mono (h a w E I) λe a w hq=>?_);cases e<;>exact hq
def AX.reg {id:Nat}{lo:List Oper}(h:AL r P lo.toArray (kont r P Y K) lo C l H):AX r P Y K (.region id lo.toArray false) C l H:=λa w E I=>Z.reg (h a w E I)
def AL.done {ops:Array Oper}(h:AE r P Y K .normal C l H):AL r P ops (kont r P Y K) [] C l H:=λa w E I=>Z.done (h a w E I)
def AE.c {y:Code}(h:AX r P Y K y C l H):AE r P Y (.c y::K) .normal C l H:=h
def AE.b {id:Nat}(h:AE r P Y K .normal C l H):AE r P Y (.b id::K) .normal C l H:=h
def AX.skip (h:AE r P Y K .normal C l H):AX r P Y K .skip C l H:=λa w E I=>wpIn_skip (h a w E I)
def AX.block {id:Nat}{c:Code}(h:AX r P Y (.b id::K) c C l H):AX r P Y K (.block id c) C l H:=λa w E I=>by
 refine wpIn_block (wpIn_mono (h a w E I) λe a w hq=>?_);cases e<;>first|exact hq|skip
def popx (id:Nat):List Kx->Option (List Kx)
 | []=>none
 | .b i::K=>bif Nat.beq i id then some K else popx id K
 |_::K=>popx id K
def popx_spec {id:Nat}{a:Act}{w:World}: ∀{K K':List Kx},popx id K=some K'->kont r P Y K' .normal a w->kont r P Y K (.exit id) a w
 | [],_,h,_=>by cases h
 | .b i::K,K',h,hq=>by
  unfold popx at h;show(if id=i then kont r P Y K .normal a w else kont r P Y K (.exit id) a w);cases E:Nat.beq i id with
  |true=>
   rw[E]at h;have h:some K=some K':=h;injection h with h;subst h
   rw[Qc (Wx E).symm];exact hq
  |false=>
   rw[E]at h;rw[Qb (λe=>by subst e;simp at E)];exact popx_spec h hq
 | .c y::K,K',h,hq=>popx_spec (K:=K) h hq
 | .m M::K,K',h,hq=>popx_spec (K:=K) h hq
 | .s::K,K',h,hq=>popx_spec (K:=K) h hq
def AX.exit {id:Nat}{K':List Kx}(e:popx id K=some K')(h:AE r P Y K' .normal C l H):AX r P Y K (.exit id) C l H:=λa w E I=>wpIn_exit (popx_spec e (h a w E I))
def kont_ret {a:Act}{w:World}: ∀{K:List Kx},Y .ret a w->kont r P Y K .ret a w
 | [],h=>h
 | .b _::K,h=>kont_ret (K:=K) h
 | .c _::K,h=>kont_ret (K:=K) h
 | .m _::K,h=>kont_ret (K:=K) h
 | .s::K,h=>kont_ret (K:=K) h
def AX.ret0 (h: ∀a w,Fr a C.n C.ds l->Hp C H w->Y .ret a w):AX r P Y K .ret C l H:=λa w E I=>wpIn_ret (kont_ret (h a w E I))
def AE.s (h:AE r P Y K .normal C l H):AE r P Y (.s::K) .normal C l H:=h
def AX.scope {c:Code}(h:AX none P Y (.s::K) c C l H):AX none P Y K (.scope c) C l H:=λa w E I=>by
 refine wpIn_wide.2 (wp_scope_straight ?_);have:=wpIn_wide.1 (h a w E I);refine Code.wp_mono (λe a w hq=>?_) this;cases e<;>exact hq
def AX.label {i:Nat}(h:AE r P Y K .normal C l H):AX r P Y K (.label i) C l H:=λa w E I=>wpIn_label (h a w E I)
def AX.cnd {ρ:Type}{A B R:Option ρ}{c:Operand}{x y:Code}{p:Prop}[Decidable p](L:ev l c=some (.bool (decide p)))(E:(if p then A else B)=R)(O:p->A=R->AX r P Y K x C l H)(V: ¬p->B=R->AX r P Y K y C l H):AX r P Y K (.cond c x y) C l H:=λa w I N=>by
 by_cases hp:p;rw[Qc hp]at E;exact Z.condp I L (λ_=>O hp E a w I N) (λh=>absurd hp h);rw[Qb hp]at E;exact Z.condp I L (λh=>absurd h hp) (λ_=>V hp E a w I N)
def AX.cnb {ρ:Type}{A B R:Option ρ}{c:Operand}{x y:Code}{b:Bool}(L:ev l c=some (.bool b))(E:(if b=true then A else B)=R)(O:b=true->A=R->AX r P Y K x C l H)(V:b=false->B=R->AX r P Y K y C l H):AX r P Y K (.cond c x y) C l H:=λa w I N=>by
 cases b with
 |true=>rw[Qc rfl]at E;exact Z.condt I L (O rfl E a w I N)
 |false=>rw[Qb (by simp)]at E;exact Z.condf I L (V rfl E a w I N)
def AX.cnt {c:Operand}{x y:Code}(I:ev l c=some (.bool true))(L:AX r P Y K x C l H):AX r P Y K (.cond c x y) C l H:=λa w E N=>Z.condt E I (L a w E N)
def AX.cnf {c:Operand}{x y:Code}(I:ev l c=some (.bool false))(L:AX r P Y K y C l H):AX r P Y K (.cond c x y) C l H:=λa w E N=>Z.condf E I (L a w E N)
def Fr.cov {a:Act}{n:Nat}{ds:List Deferred}{l':List (Nat×Value)}(h:Fr a n ds l)(e:kp l (l'.map (·.1))=l'):Fr a n ds l':=e▸h.keep _
abbrev St (C:Cx) (l:List (Nat×Value)) (H:List (Nat×Res)) (ks hs:List Nat) (J:List (Nat×Value)->List (Nat×Res)->Prop):Act->World->Prop:=λa w=>∃nl nh,J nl nh/\Fr a C.n C.ds (cat nl (kp l ks))/\Hp C (hcat nh (kpH H hs hs)) w
def AX.join (ks hs:List Nat)(J:List (Nat×Value)->List (Nat×Res)->Prop){x y:Code}(h:AX r P Y (.m (St C l H ks hs J)::K) x C l H)(E: ∀nl nh,J nl nh->AX r P Y K y C (cat nl (kp l ks)) (hcat nh (kpH H hs hs))):AX r P Y K (.seq x y) C l H:=λa w I L=>by
 refine wpIn_seq (wpIn_mono (h a w I L) λe a w hq=>?_);cases e with
 |normal=>obtain⟨nl,nh,N,hf',hh'⟩:=hq;exact E nl nh N a w hf' hh'
 |_=>exact hq
def AE.j {l':List (Nat×Value)}{H':List (Nat×Res)}{ks hs:List Nat}{J:List (Nat×Value)->List (Nat×Res)->Prop}(gs:List Nat)(nl:List (Nat×Value))(nh:List (Nat×Res))(E:J nl nh)(I:kp l ((cat nl (kp l' ks)).map (·.1))=cat nl (kp l' ks):=by kernel_rfl)(L:kpH H gs gs=hcat nh (kpH H' hs hs):=by kernel_rfl):
  AE r P Y (.m (St C l' H' ks hs J)::K) .normal C l H:=λa w N O=>⟨nl,nh,E,Fr.cov N I,O.cov gs L⟩
def AX.loop (ks hs gs:List Nat)(J:Nat->List (Nat×Value)->List (Nat×Res)->Prop)(m:Nat)(nl:List (Nat×Value))(nh:List (Nat×Res)){x:Code}(E:J m nl nh)
  (h: ∀f nl nh,J f nl nh->AX r P Y (.m (St C l H ks hs λnl nh=>∃f',f'<f/\J f' nl nh)::K) x C (cat nl (kp l ks)) (hcat nh (kpH H hs hs)))
  (O:kp l ((cat nl (kp l ks)).map (·.1))=cat nl (kp l ks):=by kernel_rfl) (V:kpH H gs gs=hcat nh (kpH H hs hs):=by kernel_rfl):AX r P Y K (.loop x) C l H:=λa w I L=>by
 refine Z.loop (λf a w=>St C l H ks hs (J f) a w) m ⟨nl,nh,E,Fr.cov I O,L.cov gs V⟩ λf a w ⟨nl,nh,E,I,L⟩=>?_;refine wpIn_mono (h f nl nh E a w I L) λe a w hq=>?_;cases e with
 |normal=>obtain⟨nl,nh,⟨f',N,hJ'⟩,hf',hh'⟩:=hq;exact⟨f',N,nl,nh,hJ',hf',hh'⟩
 |_=>exact hq
end
def ix {α:Type}(xs:List α)(i:Int):Option α:=if i<0 then none else xs[i.toNat]?
def Qas {α:Type}{xs:List α}{i:Int}{x:α}(h:ix xs i=some x): ∃k:Nat,i=(k:Int)/\xs[k]?=some x:=by
 unfold ix at h;split at h;cases h;exact⟨i.toNat,by omega,h⟩
def knb (H:List (Nat×Res)):List Nat->List (Nat×TypeId×List Value)
 | []=>[]
 |k::ks=>match hk H k with
  |some (.blk g e cs)=>(g,e,cs)::knb H ks
  |_=>knb H ks
def kne (H:List (Nat×Res)):List Nat->List (Addr×List Value)
 | []=>[]
 |k::ks=>match hk H k with
  |some (.el _ b o cs)=>(⟨b,o,none⟩,cs)::kne H ks
  |_=>kne H ks
def o_cU {C:Cx}{H:List (Nat×Res)}{w:World}(h:Hp C H w)(bs es:List Nat):Kn.ok ⟨knb H bs,kne H es⟩ w:=by
 refine⟨?_,?_⟩;induction bs with
 |nil=>intro b E;cases E
 |cons k ks I=>
  intro b E;unfold knb at E;split at E;rename_i g e cs L;rcases Qk.1 E with rfl|E
  exact h.hold k _ L;exact I b E;exact I b E
 induction es with
 |nil=>intro b E;cases E
 |cons k ks I=>
  intro b E;unfold kne at E;split at E;rename_i j g o cs L;rcases Qk.1 E with rfl|E
  exact(h.hold k _ L).1;exact I b E;exact I b E
section
variable {r:Option Nat}{P:Program}{ops:Array Oper}{Q:Exit->Act->World->Prop}{rest lst:List Oper}{C:Cx}{l:List (Nat×Value)}{H:List (Nat×Res)}{d:Nat}{op:Op}{T:TypeId}{pos:String}{af:Array Edge}
def AL.q (bs es:List Nat)(hs:List Hint)(ks:List Nat)(cs:List Prop)(nl:List (Nat×Value))(I:conj cs)(h:AL r P ops Q (lst.drop hs.length) C (cat nl l) H)
  (hq:((qs P ⟨knb H bs,kne H es⟩ C.n ops hs lst (q0 l)).bind (qfin l ks))=some (cs,nl):=by kernel_rfl)
  (L:(qs P ⟨knb H bs,kne H es⟩ C.n ops hs lst (q0 l)).map (λs=>s.q.map Prod.fst)=(qs P ⟨knb H bs,kne H es⟩ C.n ops hs lst (q0 l)).map (λs=>s.q.map Prod.snd):=by kernel_rfl):AL r P ops Q lst C l H:=λa w N E=>
 Z.qr hs ks cs nl (o_cU E bs es) N (λa' hf'=>h a' w hf' E) I hq L
def AL.val {v:Value}(L:Nat.ble (d+1) C.n=true)(N: ∀a w,Fr a C.n C.ds l->Hp C H w->(execOp a.eval ⟨some d,op,T,pos,af,none⟩).run P w=.ok (.value v) w)(h:AL r P ops Q rest C ((d,v)::l) H):AL r P ops Q (⟨some d,op,T,pos,af,none⟩::rest) C l H:=
 λa w E I=>Z.val E L (N a w E I) λa' hf'=>h a' w hf' I
def AL.on {dst:Option Tmp}{j dj:Nat}{b:Bool}(I:(ops[j]?).bind (·.dst)=some dj)(L:lk l dj=some (.bool b))(h:AL r P ops Q (⟨dst,op,T,pos,af,none⟩::rest) C l H):AL r P ops Q (⟨dst,op,T,pos,af,some (j,b)⟩::rest) C l H:=
 λa w E N=>Z.on E I L (h a w E N)
def AL.cnd {ρ:Type}{A B R:Option ρ}{j:Nat}{b:Bool}(L:lk l j=some (.bool b))(E:(if b=true then A else B)=R)(O:A=R->AL r P ops Q rest C ((j,.bool true)::l) H)(V:B=R->AL r P ops Q rest C ((j,.bool false)::l) H):AL r P ops Q rest C l H:=λa w I N=>by
 cases b with
 |true=>rw[Qc rfl]at E;exact O E a w (I.cons I L) N
 |false=>rw[Qb (by simp)]at E;exact V E a w (I.cons I L) N
def AL.cnp {ρ:Type}{A B R:Option ρ}{j:Nat}{p:Prop}[Decidable p](L:lk l j=some (.bool (decide p)))(E:(if p then A else B)=R)(O:p->A=R->AL r P ops Q rest C ((j,.bool true)::l) H)(V: ¬p->B=R->AL r P ops Q rest C ((j,.bool false)::l) H):AL r P ops Q rest C l H:=λa w I N=>by
 by_cases hp:p;rw[Qc hp]at E;exact O hp E a w (I.cons I (by rw[L,Qr hp])) N;rw[Qb hp]at E;exact V hp E a w (I.cons I (by rw[L,Q7 hp])) N
def Qdr {K K':Lf->Prop}: ∀{n:Nat},(∀ps,K ps->K' ps)->tele n K->tele n K'
 |0,h,hk=>h [] hk
 |n+1,h,hk=>λA c=>Qdr (λps=>h ((A,c)::ps)) (hk A c)
def AL.ixc {t:Ty}{A:Option Addr}{c kn:Nat}{xs:List t.den}{ko:Option Nat}{x y:Operand}{i:Int}{kd:IntKind}{v:t.den}{e tt:TypeId}
  (hrow: ∀w,Hp C H w->∃G:Nat->Prop,Row t w (Fh C H) G A c xs/\∀b,G b->match ko with|none=>∀k,¬Bk H k b|some k=>Bk H k b)
  (V: ∀j,ko=some j->∀r,hk H j=some r->r.ref=none) (hx:ev l x=some (.slice A xs.length c)) (hy:ev l y=some (.int kd i)) (hi:ix xs i=some v) (ht:P.underlying tt=some (.slice e)) (hs:szB P e=some t.size)
  (h:t.ok v->tele (lv t) λps=>∀b o,(∃w,Hp C H w/\A=some ⟨b,o,none⟩)->AL r P ops Q rest C ((d,.pointer (some ⟨b,o+i.toNat*t.size,none⟩))::l) (hcat (kx (kn+1) (rs t v ps)) ((kn,.el ko b (o+i.toNat*t.size) (cl t v ps))::H)))
  (hd:Nat.ble (d+1) C.n=true) (hn: ∀ps:Lf,ps.length=lv t->nok H kn (1+(rs t v ps).length)=true):AL r P ops Q (⟨some d,.indexAddr tt x y,T,pos,af,none⟩::rest) C l H:=λa w W hh=>by
 obtain⟨k,rfl,hv⟩:=Qas hi;obtain⟨G,hR,hG⟩:=hrow w hh;obtain⟨b,o,es,hA,hb,hbl,hc,O⟩:=hR.at hv;obtain⟨ps,hl,rfl,hrs⟩:=rep_cl (B:=Bk H) t (Qaf t O);have hlt:=(Qd.1 hv).1;have hn':=hn ps hl;have L:hk H kn=none:=Qbw hn' (Qt _) (by omega);have h1:Hp C ((kn,.el ko b (o+k*t.size) (cl t v ps))::H) w:=hh.add L rfl (λj E r O=>V j E r O) ⟨hc,hbl,by
  have:=hG b hb;cases ko<;>exact this⟩
 have hnn: ∀n k',nok H k' n=true->(∀j,k'<=j->j<k'+n->j≠kn)->nok ((kn,.el ko b (o+k*t.size) (cl t v ps))::H) k' n=true:=by
  intro n;induction n with
  |zero=>intro _ _ _;rfl
  |succ n ih=>
   intro k' N h3;simp only[nok,Qo]at N ⊢;refine⟨?_,ih (k'+1) N.2 λj h4 h5=>h3 j (by omega) (by omega)⟩;rw[Qaa,Qb (Ne.symm (h3 k' (Qt _) (by omega)))];exact N.1
 have hn2:nok H (kn+1) (rs t v ps).length=true:=by
  rw[Jl 1]at hn';simp only[nok,Qo]at hn';exact hn'.2
 have N:Hp C (hcat (kx (kn+1) (rs t v ps)) ((kn,.el ko b (o+k*t.size) (cl t v ps))::H)) w:=by
  refine h1.adds (hnn _ _ hn2 λj h4 _=>by omega) λr2 h4=>?_;obtain⟨h5,h6,h7⟩:=hrs r2 h4;have I: ∀j b',Bk ((kn,.el ko b (o+k*t.size) (cl t v ps))::H) j b'↔Bk H j b':=λj b'=>by
   by_cases E:j=kn;subst E;rw[Bk.cons_eq];exact⟨λh=>by simp[Res.bl]at h,λ⟨_,h8,_⟩=>by rw[L]at h8;cases h8⟩;exact Bk.cons_ne E
  exact⟨h6,h7,Res.to h5 (S:=[]) (Ch.refl w) (λb' hF _=>⟨by simp,⟨λj E=>hF.1.1 j ((I j b').1 E),hF.1.2⟩,hF.2⟩) (λb' hB _=>⟨by simp,λj E=>hB j ((I j b').1 E)⟩) (λi b' _ hB=>⟨by simp,(I i b').2 hB⟩) (by simp)⟩
 subst hA;refine Z.val (v:=.pointer (some ⟨b,o+k*t.size,none⟩)) W hd ?_ λa' hf'=>Qbb (h (rep_ok t O)) ps hl b o ⟨w,hh,rfl⟩ a' w hf' N;have:=r_indexAddrA (P:=P) (w:=w) (d:=some d) (T:=T) (pos:=pos) (af:=af) (gd:=none) ht (Qak hs) (W.eval hx) rfl (W.eval hy) rfl hlt;rw[Addr.add_lit]at this;exact this
def Qdl: ∀(t:Ty) (v:t.den) (ps:Lf),ps.length=lv t->(rs t v ps).length=lv t
 | .int _,_,_,_=>rfl
 | .byte,_,_,_=>rfl
 | .bool,_,_,_=>rfl
 | .str,_,_,_=>rfl
 | .slice _,_,[p],_=>rfl
 | .slice _,_,[],h=>by cases h
 | .slice _,_,_::_::_,h=>by simp[lv]at h
 | .pair a b,v,ps,h=>by
  simp only[rs,Qm];simp only[lv]at h;rw[Qdl a v.1 _ (by rw[Qy];omega),Qdl b v.2 _ (by rw[Xv];omega)];rfl
def rowS {k:Nat}{t:Ty}{A:Option Addr}{c:Nat}{xs:List t.den}(h:hk H k=some (.sh (.slice t) [.slice A xs.length c] xs))(w:World)(E:Hp C H w): ∃G:Nat->Prop,Row t w (Fh C H) G A c xs/\∀b,G b->∀k,¬Bk H k b:=
 ⟨Fh C H,Row.of (E.hold k _ h),λ_ I=>I.1⟩
def rowL {k:Nat}{t:Ty}{A:Option Addr}{c:Nat}{xs:List t.den}(h:hk H k=some (.ln t A c xs))(w:World)(E:Hp C H w): ∃G:Nat->Prop,Row t w (Fh C H) G A c xs/\∀b,G b->∀k,¬Bk H k b:=
 ⟨_,E.hold k _ h,λ_ I=>I⟩
def rowO {k:Nat}{t:Ty}{e:TypeId}{A:Option Addr}{c:Nat}{xs:List t.den}(h:hk H k=some (.own t e A c xs))(w:World)(E:Hp C H w): ∃G:Nat->Prop,Row t w (Fh C H) G A c xs/\∀b,G b->Bk H k b:=
 ⟨λb=>b∈obl A,Row.own (E.hold k _ h) λ_ h=>h,λ_ I=>⟨_,h,I⟩⟩
def AL.ixs (k kn:Nat){t:Ty}{A:Option Addr}{c:Nat}{xs:List t.den}{x y:Operand}{i:Int}{kd:IntKind}{v:t.den}{e tt:TypeId}(I:ix xs i=some v)
  (h:t.ok v->tele (lv t) λps=>∀b o,AL r P ops Q rest C ((d,.pointer (some ⟨b,o,none⟩))::l) (hcat (kx (kn+1) (rs t v ps)) ((kn,.el none b o (cl t v ps))::H)))
  (E:hk H k=some (.sh (.slice t) [.slice A xs.length c] xs):=by rfl) (L:ev l x=some (.slice A xs.length c):=by rfl) (N:ev l y=some (.int kd i):=by rfl) (O:P.underlying tt=some (.slice e):=by rfl) (hs:szB P e=some t.size:=by kernel_rfl)
  (V:Nat.ble (d+1) C.n=true:=by rfl) (W:nok H kn (1+lv t)=true:=by kernel_rfl):AL r P ops Q (⟨some d,.indexAddr tt x y,T,pos,af,none⟩::rest) C l H:=
 AL.ixc (ko:=none) (rowS E) (λ_ h=>by cases h) L N I O hs (λho=>Qdr (λps h b o _=>h b _) (h ho)) V λps hl=>by rw[Qdl t v ps hl];exact W
def AL.ixl (k kn:Nat){t:Ty}{A:Option Addr}{c:Nat}{xs:List t.den}{x y:Operand}{i:Int}{kd:IntKind}{v:t.den}{e tt:TypeId}(I:ix xs i=some v)
  (h:t.ok v->tele (lv t) λps=>∀b o,AL r P ops Q rest C ((d,.pointer (some ⟨b,o,none⟩))::l) (hcat (kx (kn+1) (rs t v ps)) ((kn,.el none b o (cl t v ps))::H)))
  (E:hk H k=some (.ln t A c xs):=by rfl) (L:ev l x=some (.slice A xs.length c):=by rfl) (N:ev l y=some (.int kd i):=by rfl) (O:P.underlying tt=some (.slice e):=by rfl) (hs:szB P e=some t.size:=by kernel_rfl)
  (V:Nat.ble (d+1) C.n=true:=by rfl) (W:nok H kn (1+lv t)=true:=by kernel_rfl):AL r P ops Q (⟨some d,.indexAddr tt x y,T,pos,af,none⟩::rest) C l H:=
 AL.ixc (ko:=none) (rowL E) (λ_ h=>by cases h) L N I O hs (λho=>Qdr (λps h b o _=>h b _) (h ho)) V λps hl=>by rw[Qdl t v ps hl];exact W
def AL.ixo (k kn:Nat){t:Ty}{e':TypeId}{A:Option Addr}{c:Nat}{xs:List t.den}{x y:Operand}{i:Int}{kd:IntKind}{v:t.den}{e tt:TypeId}(O:ix xs i=some v)
  (h:t.ok v->tele (lv t) λps=>∀g,A=some ⟨g,0,none⟩->AL r P ops Q rest C ((d,.pointer (some ⟨g,i.toNat*t.size,none⟩))::l) (hcat (kx (kn+1) (rs t v ps)) ((kn,.el (some k) g (i.toNat*t.size) (cl t v ps))::H)))
  (E:hk H k=some (.own t e' A c xs):=by rfl) (V:ev l x=some (.slice A xs.length c):=by rfl) (W:ev l y=some (.int kd i):=by rfl) (ht:P.underlying tt=some (.slice e):=by rfl) (hs:szB P e=some t.size:=by kernel_rfl)
  (hd:Nat.ble (d+1) C.n=true:=by rfl) (hn:nok H kn (1+lv t)=true:=by kernel_rfl):AL r P ops Q (⟨some d,.indexAddr tt x y,T,pos,af,none⟩::rest) C l H:=
 AL.ixc (ko:=some k) (rowO E) (λj h r I=>by injection h with h;subst h;rw[E]at I;injection I with I;subst I;rfl) V W O ht hs (λho=>Qdr (λps h b o ⟨w,hh,L⟩=>by
  obtain⟨cells,hrow,_⟩:Own t e' 0 w (Fh C H) A c xs:=hh.hold k _ E;rcases hrow.2 with⟨N,_⟩|⟨g,cap,cur,N,_⟩
  injection N with hA' _ _;rw[L]at hA';cases hA'
  injection N with hA' _ _;rw[L]at hA';injection hA' with hA';injection hA' with h1 h2 _;subst h2;have:=h b L;simpa using this) (h ho)) hd λps hl=>by rw[Qdl t v ps hl];exact hn
def AL.box (k:Nat){e:TypeId}{x:Operand}{v:Value}{cs:List Value}(h: ∀g,AL r P ops Q rest C ((d,.pointer (some ⟨g,0,none⟩))::l) ((k,.blk g e cs)::H))
  (I:ev l x=some v:=by rfl) (L:v.cells=cs.toArray:=by rfl) (N:Nat.ble (d+1) C.n=true:=by rfl) (O:hk H k=none:=by kernel_rfl):AL r P ops Q (⟨some d,.box e x,T,pos,af,none⟩::rest) C l H:=λa w V W=>
 Z.st_box V N I L λg w' a' hg hs hb E hf'=>h g a' w' hf' (W.new O E (λb hb'=>by simp only[Res.bl,Qn]at hb';omega) (λj hj=>by cases hj) λ_ _ _ _ _=>hb)
def AL.alloc (k:Nat){e:TypeId}{z:Value}{cs:List Value}(I: ∀w,(zeroValue e).run P w=.ok z w)(h: ∀g,AL r P ops Q rest C ((d,.pointer (some ⟨g,0,none⟩))::l) ((k,.blk g e cs)::H))
  (L:z.cells=cs.toArray:=by rfl) (N:Nat.ble (d+1) C.n=true:=by rfl) (O:hk H k=none:=by kernel_rfl):AL r P ops Q (⟨some d,.alloc e,T,pos,af,none⟩::rest) C l H:=λa w V W=>
 Z.st_alloc V N I L λg w' a' hg hs hb E hf'=>h g a' w' hf' (W.new O E (λb hb'=>by simp only[Res.bl,Qn]at hb';omega) (λj hj=>by cases hj) λ_ _ _ _ _=>hb)
def AL.store (k:Nat)(js:List Nat){t bt:TypeId}{x y:Operand}{g o m:Nat}{cs new cs':List Value}{v:Value}(h:AL r P ops Q rest C l ((k,.blk g bt cs')::ded js H))
  (I:hk H k=some (.blk g bt cs):=by rfl) (V:ev l x=some (.pointer (some ⟨g,o,none⟩)):=by rfl) (W:ev l y=some v:=by rfl) (hS:szB P t=some m:=by kernel_rfl)
  (hv:v.cells=new.toArray:=by rfl) (hm:new.length=m:=by rfl) (ho:Nat.ble (o+m) cs.length=true:=by rfl) (h1:new.all (λu=>u.oneCell')=true:=by rfl) (hc:cs.take o++new++cs.drop (o+m)=cs':=by rfl) (L:hng [k] js H=true:=by kernel_rfl):
  AL r P ops Q (⟨none,.store t x y,T,pos,af,none⟩::rest) C l H:=λa w hf O=>
 Z.st_store hf (O.hold k _ I) V W (Qak hS) hv hm ho (λu hu=>Wd.1 h1 u hu) hc λw' a' hs hb' N hf'=>
  h a' w' hf' (Hp.dd (O.upd N (λb E=>⟨_,I,E⟩) (λb E=>.inl ⟨_,I,E⟩) (λj L=>by cases L) λ_ _ _ _ _ _ _=>hb') L)
def Dat (H:List (Nat×Res)):(t:Ty)->List Value->t.den->Prop
 | .int k,cs,x=>cs=[.int k x]/\k.has x
 | .byte,cs,x=>cs=[.int .u8 (x.toNat:Int)]
 | .bool,cs,x=>cs=[.bool x]
 | .str,cs,x=>cs=[.string x]/\x.size<=maxLen
 | .slice e,cs,xs=>(∃k,hk H k=some (.sh (.slice e) cs xs))\/(cs=[.slice none 0 0]/\xs=[])
 | .pair a b,cs,x=>Dat H a (cs.take a.size) x.1/\Dat H b (cs.drop a.size) x.2
def Dat.rep {w:World}(E:Hp C H w): ∀(t:Ty) {cs:List Value} {x:t.den},Dat H t cs x->t.rep w (Fh C H) cs x
 | .int _,_,_,h=>h
 | .byte,_,_,h=>h
 | .bool,_,_,h=>h
 | .str,_,_,h=>h
 | .slice e,cs,xs,h=>by
  rcases h with⟨k,h⟩|⟨I,L⟩
  exact E.hold k _ h;subst I;subst L;exact Qgk e
 | .pair a b,cs,x,h=>⟨_,_,(Xs a.size cs).symm,Dat.rep E a h.1,Dat.rep E b h.2⟩
def Dats (H:List (Nat×Res))(t:Ty):List Value->List t.den->Prop
 |cs,[]=>cs=[]
 |cs,x::xs=>Dat H t (cs.take t.size) x/\Dats H t (cs.drop t.size) xs
def Dats.all {w:World}(L:Hp C H w){t:Ty}: ∀{cs:List Value} {xs:List t.den},Dats H t cs xs->cs.length=xs.length*t.size/\(∀u∈cs,u.oneCell'=true)/\∀(i:Nat) (x:t.den),xs[i]?=some x->t.rep w (Fh C H) ((cs.drop (i*t.size)).take t.size) x
 |cs,[],h=>by
  have h:cs=[]:=h;subst h;exact⟨by simp,by simp,λi x E=>by simp at E⟩
 |cs,x::xs,h=>by
  obtain⟨V,W⟩:=h;obtain⟨N,h4,h5⟩:=Dats.all L W;have I:=Dat.rep L t V;have hl:=Qkk t I;rw[Qy]at hl;rw[Xv]at N;have hlen:cs.length=(xs.length+1)*t.size:=by rw[Nat.succ_mul,<-N];omega
  refine⟨hlen,λu O=>?_,λi y E=>?_⟩;rw[<-Xs t.size cs,Q2]at O;exact O.elim (Qgy t I u) (h4 u);cases i with
  |zero=>
   simp only[Xh,Qz]at E;subst E;rw[Nat.zero_mul,W6];exact I
  |succ i=>
   rw[Wi]at E;have:=h5 i y E;rw[Jo]at this;rw[Nat.succ_mul,Jl];exact this
def AL.bsl (k:Nat){ty:Ty}{t e:TypeId}{len sz:Nat}{z:Value}{parts:List (Nat×Operand)}{vs:List (Nat×Value)}{cs:List Value}(xs:List ty.den)(V:Dats H ty cs xs)
  (h: ∀g,AL r P ops Q rest C ((d,.slice (some ⟨g,0,none⟩) len len)::l) ((k,.own ty e (some ⟨g,0,none⟩) len xs)::H))
  (W: ∀w,(zeroValue e).run P w=.ok z w) (hS: ∀w,(sizeOf e).run P w=.ok sz w) (I:xs.length=len:=by rfl) (L:ty.size=sz:=by rfl)
  (hp:evp l parts=some vs:=by rfl) (ht:P.underlying t=some (.slice e):=by rfl) (hs:Nat.ble (len*sz) 16777216=true:=by rfl) (h0:Nat.ble 1 (len*sz)=true:=by rfl)
  (hc:Instr.fill (λi=>some (i*sz,sz)) ((Array.range (len*sz)).map (z.cells[· %z.cells.size]!)) vs=some cs.toArray:=by kernel_rfl)
  (hd:Nat.ble (d+1) C.n=true:=by rfl) (hn:hk H k=none:=by kernel_rfl):AL r P ops Q (⟨some d,.buildSlice t len parts.toArray,T,pos,af,none⟩::rest) C l H:=λa w hf O=>by
 subst I;subst L;refine Z.st_bslice hf hd ht hS W hp hs h0 hc λg w' a' hg hs' N E hf'=>h g a' w' hf' (O.new hn E (λb hb'=>?_) (λj hj=>by cases hj) λF B h1 _ _=>?_);simp only[Res.bl,obl,Qn]at hb';omega;obtain⟨d1,d2,d3⟩:=Dats.all O V;refine Own.made (B:=0) N (Xi _) d1 ?_ d2 λi x hi=>rep_to (d3 i x hi) E λb N I=>⟨by simp,h1 b N I⟩;have:=Q8 hs;have h2:xs.length<=xs.length*ty.size:=Ji _ (Qar ty);simp only[maxLen];omega
def AL.bs0 (k:Nat)(ty:Ty){t e:TypeId}(h: ∀g,AL r P ops Q rest C ((d,.slice (some ⟨g,0,none⟩) 0 0)::l) ((k,.own ty e (some ⟨g,0,none⟩) 0 [])::H))
  (I: ∀w,(sizeOf e).run P w=.ok ty.size w) (L:P.underlying t=some (.slice e):=by rfl) (N:Nat.ble (d+1) C.n=true:=by rfl) (O:hk H k=none:=by kernel_rfl):AL r P ops Q (⟨some d,.buildSlice t 0 #[],T,pos,af,none⟩::rest) C l H:=λa w V W=>
 Z.st_bslice0 V N L I λg w' a' hg hs' hb E hf'=>h g a' w' hf' (W.new O E (λb hb'=>by simp only[Res.bl,obl,Qn]at hb';omega) (λj hj=>by cases hj) λF B h1 _ _=>Own.made (t:=ty) (xs:=[]) (B:=0) hb (Xi _) (by simp) (by simp[maxLen]) (by simp) (λi x hi=>by simp at hi))
def Hp.frz {w:World}(I:Hp C H w){k:Nat}{t:Ty}{e:TypeId}{A:Option Addr}{c:Nat}{xs:List t.den}(h:hk H k=some (.own t e A c xs)):Hp C ((k,.sh (.slice t) [.slice A xs.length c] xs)::drp k H) w:=
 I.upd (S:=[]) (Ch.refl w) (by simp) (by simp[Res.bl]) (λj L=>by cases L) λF B N O _ _ _=>by
  have V:Own t e 0 w (Fh C H) A c xs:=I.hold k _ h;obtain⟨cells,W,o1,o2⟩:=V;have hO':Own t e 0 w F A c xs:=⟨cells,W,o1,λi x hi=>Qdw (o2 i x hi) λb E hl=>N b E hl⟩;exact hO'.rep (λ_ h=>h) λb E=>O b ⟨_,h,E⟩ (by simp[Res.bl])
end
def Row.cells {t:Ty}{w:World}{F G:Nat->Prop}{A:Option Addr}{c:Nat}{xs:List t.den}(h:Row t w F G A c xs): ∃cells:List Value,cells.length=xs.length*t.size/\(∀u∈cells,u.oneCell'=true)/\(xs.length=0\/∃ad,A=some ad/\∀j u,cells[j]?=some u->w.cell? (ad.add j)=some u)/\
  ∀(i:Nat) (x:t.den),xs[i]?=some x->t.rep w F ((cells.drop (i*t.size)).take t.size) x:=by
 obtain⟨W,h3,cells,L,E,h6⟩:=h;refine⟨cells,L,λu I=>?_,?_,h6⟩;obtain⟨j,N,rfl⟩:=Yi I;have hs:=Qar t;have O:j / t.size<xs.length:=Nat.div_lt_of_lt_mul (by rw[Nat.mul_comm,<-L];exact N);have V:=h6 (j / t.size) _ (Qg O);refine Qgy t V _ (Qj (i:=j%t.size) ?_);rw[Wo (Nat.mod_lt _ hs),Xq,Nat.mul_comm,Nat.div_add_mod];exact Qg N;rcases E with E|⟨b,o,rfl,hb,hcell⟩
 exact .inl E;exact .inr ⟨_,rfl,λj u I=>by rw[Addr.add_lit];exact hcell j u I⟩
section
variable {P:Program}{t:Ty}{e:TypeId}{B:Nat}{w:World}{F G:Nat->Prop}{A:Option Addr}{c:Nat}{xs:List t.den}
def run_appendR {tt ty:TypeId}{i:TypeInfo}{z:Value}{bytes:Nat}(ht:P.underlying tt=some (.slice e))(E:P.info? e=some i)(hz:i.zero=some z)(hsize:i.size=t.size)(hby:i.bytes=bytes)
  (hzs:z.cells.size=t.size) (hown:Own t e B w F A c xs) {A2:Option Addr} {c2:Nat} {ys:List t.den} (hr:Row t w F G A2 c2 ys) (h63:(xs.length+ys.length)*bytes<=140737488355328)
  (hbp:0<bytes) (hA: ∀b,F b->b∉obl A) (hB:B<=w.heap.size):
  ∃A' c' w',(Builtin.append_ #[tt,tt] ty #[.slice A xs.length c,.slice A2 ys.length c2]).run P w=.ok (.slice A' (xs.length+ys.length) c') w'/\Own t e B w' F A' c' (xs++ys)/\Ch (obl A) w w'/\
   (∀k,k∈obl A'->k∈obl A\/k=w.heap.size):=by
 obtain⟨cells,hrow,h1,h2⟩:=hown;obtain⟨news,hnl,O,I,hn3⟩:=hr.cells;have hsz:=Qar t;have hbig:xs.length+ys.length<=maxLen:=by
  have:xs.length+ys.length<=(xs.length+ys.length)*bytes:=Ji _ hbp;simp only[maxLen];omega
 by_cases V:ys.length=0;have hy:ys=[]:=We V;subst hy;have hrun:(Builtin.append_ #[tt,tt] ty #[.slice A xs.length c,.slice A2 0 c2]).run P w=.ok (.slice A xs.length c) w:=by
  rcases hrow.2 with⟨L,hn⟩|⟨g,cap,cur,L,_,_,hnc,_⟩
  injection L with hA' hn' hc
  subst hA';subst hc;cases A2<;>simp[Builtin.append_,run_underlying ht,sizeOf,typeInfo,E,Builtin.lenOf,Builtin.firstCells,hn,loadCells,loadCellsFrom];injection L with hA' hn' hc
  subst hA';subst hc;cases A2<;>simp[Builtin.append_,run_underlying ht,sizeOf,typeInfo,E,Builtin.lenOf,Builtin.firstCells,hnc,storeCells,loadCells,loadCellsFrom]
 refine⟨A,c,w,by simpa using hrun,⟨cells,by simpa using hrow,h1,by simpa using h2⟩,Ch.refl' _ _,λk hk=>.inl hk⟩;rcases I with I|⟨ad,rfl,hcell⟩
 exact absurd I V;obtain⟨v',w',hrun,h3,h4,_,W⟩:=run_append_own_at (P:=P) w B tt ty e i z t.size bytes ht E hz hsize hby hzs hsz _ xs.length cells hrow ad ys.length c2 news hnl hcell O hbig h63 hB;have hform: ∃A' c',v'=.slice A' (xs.length+ys.length) c':=by
  rcases h3.2 with⟨L,hn⟩|⟨g,cap,cur,L,_⟩
  exact⟨none,0,by rw[L,show xs.length+ys.length=0 from by omega]⟩;exact⟨_,_,L⟩
 obtain⟨A',c',rfl⟩:=hform;have N:Ch (obl A) w w':=by have:=Ch.of_grown h4;rwa[ownBlock_slice]at this
 refine⟨A',c',w',hrun,⟨cells++news,?_,?_,?_⟩,N,λk hk=>?_⟩;rw[Qm];exact h3;intro u hu;rcases Q2.1 hu with hu|hu
 exact h1 u hu;exact O u hu;exact Qfo hrow.1 (λi x E=>rep_ch N hA t (h2 i x E)) (λi x E=>rep_ch N hA t (hn3 i x E));rcases W with W|W
 left;have:obl A'=obl A:=by rw[<-ownBlock_slice A' (xs.length+ys.length) c',W,ownBlock_slice]
 rwa[<-this];right;have:obl A'=[w.heap.size]:=by rw[<-ownBlock_slice A' (xs.length+ys.length) c',W];rfl
 rw[this]at hk;simpa using hk
def Own.take (h:Own t e B w F A c xs){k:Nat}(hk:k<=xs.length):Own t e B w F A c (xs.take k):=by
 obtain⟨cells,W,h1,h2⟩:=h;have I:(xs.take k).length=k:=by rw[Qy];omega
 have hmul:k*t.size<=xs.length*t.size:=Wj _ hk;refine⟨cells.take (k*t.size),⟨by rw[Qy,W.1,I];omega,?_⟩,λu hu=>h1 u (X3 hu),λi x hi=>?_⟩;rcases W.2 with⟨L,hn⟩|⟨g,cap,cur,L,hb,hg,hnc,N,O,htake⟩
 left;injection L with hA' _ V
 subst hA';subst V;exact⟨by rw[I];congr 1;omega,by omega⟩;right;injection L with hA' _ V
 subst hA';subst V;refine⟨g,c,cur,rfl,hb,hg,by omega,N,O,?_⟩;rw[I,<-htake,Jk,X6 hmul];have E:i<k:=by
  have:=(Qd.1 hi).1;omega
 have hx:xs[i]?=some x:=by rwa[Wo E]at hi
 have:=h2 i x hx;have hm:(i+1)*t.size<=k*t.size:=Wj _ E;rw[Xr,Yx]at hm;rw[List.drop_take,Jk,X6 (by omega)];exact this
end
section
variable {r:Option Nat}{P:Program}{ops:Array Oper}{Q:Exit->Act->World->Prop}{rest lst:List Oper}{C:Cx}{l:List (Nat×Value)}{H:List (Nat×Res)}{d:Nat}{op:Op}{T:TypeId}{pos:String}{af:Array Edge}
def AL.app {k:Nat}(js:List Nat){t:Ty}{tt e:TypeId}{x y:Operand}{i:TypeInfo}{z:Value}{bytes m n1 n2:Nat}{A A2:Option Addr}{c c2:Nat}{xs ys:List t.den}{kp':(Nat->Prop)->Prop}(hrow: ∀w,Hp C H w->∃G:Nat->Prop,Row t w (Fh C H) G A2 c2 ys/\kp' G)
  (hinf:P.info? e=some i/\i.zero=some z/\i.size=m/\i.bytes=bytes/\z.cells.size=m) (hl:(xs.length+ys.length)*bytes<=140737488355328)
  (h: ∀A' c',AL r P ops Q rest C ((d,.slice A' (xs++ys).length c')::l) ((k,.own t e A' c' (xs++ys))::ded js H))
  (I:hk H k=some (.own t e A c xs):=by rfl) (hx:ev l x=some (.slice A n1 c):=by rfl) (hy:ev l y=some (.slice A2 n2 c2):=by rfl) (hn1:n1=xs.length:=by rfl) (hn2:n2=ys.length:=by rfl) (hm:m=t.size:=by rfl) (N:Nat.ble 1 bytes=true:=by rfl)
  (ht:P.underlying tt=some (.slice e):=by rfl) (hd:Nat.ble (d+1) C.n=true:=by rfl) (hj:hng [k] js H=true:=by kernel_rfl):AL r P ops Q (⟨some d,.call {callee:=.builtin .append,args:=#[x,y],argTypes:=#[tt,tt]},T,pos,af,none⟩::rest) C l H:=λa w hf hh=>by
 subst hn1;subst hn2;subst hm;obtain⟨L,hz,hsize,O,V⟩:=hinf;obtain⟨G,hR,_⟩:=hrow w hh;have hO:Own t e 0 w (Fh C H) A c xs:=hh.hold k _ I;obtain⟨A',c',w',hrun,h1,h2,h3⟩:=run_appendR (P:=P) (ty:=T) ht L hz hsize O V hO hR hl (Q8 N) (λb E hbA=>E.1 k ⟨_,I,hbA⟩) (Xi _);refine Z.valw (w':=w') (v:=.slice A' (xs++ys).length c') hf hd ?_ λa' hf'=>h A' c' a' w' hf' (Hp.dd (hh.upd h2 (λb E=>⟨_,I,E⟩) (λb E=>?_) (λj hj=>by cases hj) λF B hF _ _ _ hB=>?_) hj);rw[Qm];simp only[execOp,resolve,invoke,builtin,Sem.run_bind,Sem.run_pure,Result.andThen_ok,Ya,Q1,Xk,hf.eval hx,hf.eval hy,hrun];rcases h3 b E with h4|h4
 exact .inl ⟨_,I,h4⟩;exact .inr ⟨by omega,(h1.lt b E).2⟩;obtain⟨cells,o1,o2,o3⟩:=h1;obtain⟨cells0,p1,p2,p3⟩:=hO;obtain⟨cells2,q1,q2,q3,q4⟩:=hR.cells;have hFo: ∀b,Fh C H b->b∉obl A:=λb E hbA=>E.1 k ⟨_,I,hbA⟩;have h1':Own t e 0 w' (Fh C H) A' c' (xs++ys):=⟨cells,o1,o2,o3⟩;have hOi:Own t e 0 w (λb=>Fh C H b/\b<w.heap.size) A c xs:=⟨cells0,p1,p2,λi x L=>Qaf t (p3 i x L)⟩;have hRi:Row t w (λb=>Fh C H b/\b<w.heap.size) (λ_=>True) A2 c2 ys:=by
  obtain⟨r1,r2,cs,r3,W,r5⟩:=hR;refine⟨r1,r2,cs,r3,?_,λi x L=>Qaf t (r5 i x L)⟩;rcases W with W|⟨b,o,W,_,r6⟩
  exact .inl W;exact .inr ⟨b,o,W,trivial,r6⟩
 obtain⟨A3,c3,w3,hrun3,h13,h23,_⟩:=run_appendR (P:=P) (ty:=T) ht L hz hsize O V hOi hRi hl (Q8 N) (λb E=>hFo b E.1) (Xi _);rw[hrun]at hrun3;injection hrun3 with e1 e2
 injection e1 with e1 _ e3
 subst e1;subst e2;subst e3;exact h13.more λb E=>hF b E.1 E.2
def AL.mks (k:Nat){t:Ty}{tt e:TypeId}{x y:Operand}{i:TypeInfo}{z:Value}{bytes m u:Nat}{k1 k2:IntKind}{p q:Int}(z0:t.den)(hu:bytes*u<=140737488355328)(hinf:P.info? e=some i/\i.zero=some z/\i.size=m/\i.bytes=bytes/\z.cells.size=m)
  (h: ∀g,AL r P ops Q rest C ((d,.slice (some ⟨g,0,none⟩) u u)::l) ((k,.own t e (some ⟨g,0,none⟩) u (List.replicate u z0))::H))
  (hx:ev l x=some (.int k1 p)) (hy:ev l y=some (.int k2 q)) (hp:p=(u:Int)) (hq:q=(u:Int)) (L:Dat [] t [z] z0) (N:Nat.ble 1 bytes=true:=by rfl) (hm:m=1:=by rfl) (O:z.cells=#[z]:=by rfl) (V:t.size=1:=by rfl) (h1:z.oneCell'=true:=by rfl)
  (ht:P.underlying tt=some (.slice e):=by rfl) (hd:Nat.ble (d+1) C.n=true:=by rfl) (hn:hk H k=none:=by kernel_rfl):AL r P ops Q (⟨some d,.makeSlice tt x y,T,pos,af,none⟩::rest) C l H:=λa w hf hh=>by
 subst hm;obtain⟨hi,hz,hsize,W,hzs⟩:=hinf;have hz1:t.rep w no [z] z0:=by
  have:Hp (Cx.mk 0 [] w [] no) [] w:=⟨Ch.refl w,λk r h=>(by cases h),λk b ⟨_,h,_⟩=>(by cases h),λk k' b ⟨_,h,_⟩=>(by cases h),λk r j h=>(by cases h)⟩;have h2:=Dat.rep this t L;refine Qdw (Qaf t h2) λb E hl=>?_;rcases E.1.2 with I|I|I
  exact I;have h4:=E.2;have I:w.heap.size<=b:=I;omega;cases I
 refine Z.st_makeSlice hf hd ht hi hz hsize W O V hx hy hp hq hu ?_ z0 hz1 h1 λg w' a' hg hs hO hch hf'=>h g a' w' hf' (hh.new hn hch (λb E=>?_) (λj hj=>by cases hj) λF B _ _ _=>?_);have:=Q8 N;have h2:u<=bytes*u:=Nat.le_mul_of_pos_left _ this;simp only[maxLen];omega;simp only[Res.bl,obl,Qn]at E;omega;exact(hO.base (Xi _)).more λ_ E=>E.elim
def AL.setel (k ke:Nat)(js:List Nat){t:Ty}{e tt:TypeId}{A:Option Addr}{c g o m:Nat}{xs:List t.den}{px py:Operand}{u:Value}{new es:List Value}{i:Int}{v:t.den}(y:t.den)(N:ix xs i=some v)(hA:A=some ⟨g,0,none⟩)
  (hD:Dat H t (es.take o++new++es.drop (o+m)) y) (h:AL r P ops Q rest C l ((k,.own t e A c (xs.set i.toNat y))::ded js H))
  (E:hk H k=some (.own t e A c xs):=by rfl) (O:hk H ke=some (.el (some k) g (i.toNat*t.size) es):=by rfl) (hx:ev l px=some (.pointer (some ⟨g,i.toNat*t.size+o,none⟩)):=by rfl) (hy:ev l py=some u:=by rfl) (hS:szB P tt=some m:=by kernel_rfl)
  (hv:u.cells=new.toArray:=by rfl) (hm:new.length=m:=by rfl) (ho:Nat.ble (o+m) t.size=true:=by rfl) (h1:new.all (λu=>u.oneCell')=true:=by rfl) (V:es.length=t.size:=by rfl) (W:hng [k] js H=true:=by kernel_rfl):
  AL r P ops Q (⟨none,.store tt px py,T,pos,af,none⟩::rest) C l H:=λa w hf L=>by
 obtain⟨n,rfl,hn⟩:=Qas N;have hlt:=(Qd.1 hn).1;have hO:Own t e 0 w (Fh C H) A c xs:=L.hold k _ E;have hOi:Own t e 0 w (λb=>Fh C H b/\b<w.heap.size) A c xs:=by
  obtain⟨cells0,p1,p2,p3⟩:=hO;exact⟨cells0,p1,p2,λi x N=>Qaf t (p3 i x N)⟩
 have hc:=(L.hold ke _ O).1;refine Z.st_setel (F:=λb=>Fh C H b/\b<w.heap.size) hf hOi (k:=n) (o:=o) (m:=m) hlt (Qak hS) ho hA (by rw[hx,Addr.add_lit,Addr.add_lit];simp) hy hv hm (λu hu=>Wd.1 h1 u hu) (by rw[Addr.add_lit];simpa using hc) V (Qaf t (Dat.rep L t hD)) (λb I hbA=>I.1.1 k ⟨_,E,hbA⟩) λw' a' hch hs hO' hf'=>
  h a' w' hf' (Hp.dd (L.upd hch (λb I=>⟨_,E,I⟩) (λb I=>.inl ⟨_,E,I⟩) (λj W=>by cases W) λF B hF _ _ _ _=>hO'.more λb I=>hF b I.1 I.2) W)
def AL.cuth (k kn:Nat){t:Ty}{tt e:TypeId}{x W:Operand}{A:Option Addr}{c:Nat}{xs:List t.den}{k2:IntKind}{q:Int}{v:Nat}(hq:q=(v:Int))(h2:v<=xs.length)
  (h: ∀c',AL r P ops Q rest C ((d,.slice A (xs.take v).length c')::l) ((kn,.sh (.slice t) [.slice A (xs.take v).length c'] (xs.take v))::H))
  (I:hk H k=some (.sh (.slice t) [.slice A xs.length c] xs):=by rfl) (hx:ev l x=some (.slice A xs.length c):=by rfl) (L:ev l W=some (.int k2 q):=by rfl) (hS:szB P e=some t.size:=by kernel_rfl)
  (ht:P.underlying tt=some (.slice e):=by rfl) (hd:Nat.ble (d+1) C.n=true:=by rfl) (hn:hk H kn=none:=by kernel_rfl):AL r P ops Q (⟨some d,.slice tt x none (some W) none,T,pos,af,none⟩::rest) C l H:=λa w N hh=>by
 have hr:(Ty.slice t).rep w (Fh C H) [.slice A xs.length c] xs:=hh.hold k _ I;have hlen:=rep_slice_len hr;have E:(xs.take v).length=v:=by rw[Qy];omega
 refine Z.val (v:=.slice A v c) N hd (Qem ht (Qak hS) (N.eval hx) (N.eval L) hq (by omega)) λa' hf'=>?_;have O:=rep_take hr h2;rw[<-E]at hf';have V:(Ty.slice t).rep w (Fh C H) [.slice A (xs.take v).length c] (xs.take v):=by rw[E];exact O
 exact h _ a' w hf' (hh.add hn rfl (λj hj=>by cases hj) (Qaf _ V))
def AL.cuto (k:Nat)(js:List Nat){t:Ty}{tt e e':TypeId}{x I:Operand}{A:Option Addr}{c:Nat}{xs:List t.den}{k2:IntKind}{q:Int}{v:Nat}(hq:q=(v:Int))(h2:v<=xs.length)
  (h:AL r P ops Q rest C ((d,.slice A (xs.take v).length c)::l) ((k,.own t e' A c (xs.take v))::ded js H))
  (E:hk H k=some (.own t e' A c xs):=by rfl) (hx:ev l x=some (.slice A xs.length c):=by rfl) (L:ev l I=some (.int k2 q):=by rfl) (hS:szB P e=some t.size:=by kernel_rfl)
  (ht:P.underlying tt=some (.slice e):=by rfl) (hd:Nat.ble (d+1) C.n=true:=by rfl) (N:hng [k] js H=true:=by kernel_rfl):AL r P ops Q (⟨some d,.slice tt x none (some I) none,T,pos,af,none⟩::rest) C l H:=λa w O hh=>by
 have hO:Own t e' 0 w (Fh C H) A c xs:=hh.hold k _ E;have hlen:=hO.len;have V:(xs.take v).length=v:=by rw[Qy];omega
 refine Z.val (v:=.slice A v c) O hd (Qem ht (Qak hS) (O.eval hx) (O.eval L) hq (by omega)) λa' hf'=>?_;rw[<-V]at hf';refine h a' w hf' (Hp.dd (hh.upd (S:=[]) (Ch.refl w) (by simp) (λb W=>.inl ⟨_,E,W⟩) (λj N=>by cases N) λF B hF _ _ _ _=>?_) N);obtain⟨cells,o1,o2,o3⟩:=Own.take hO h2;exact⟨cells,o1,o2,λi x I=>Qdw (o3 i x I) λb W hl=>hF b W hl⟩
def AL.ixt {tt:TypeId}{x y:Operand}{s:ByteArray}{kd:IntKind}{i:Int}{v:UInt8}(N:ix s.data.toList i=some v)(h:AL r P ops Q rest C ((d,.int .u8 (v.toNat:Int))::l) H)
  (O:P.underlying tt=some .string:=by rfl) (V:ev l x=some (.string s):=by rfl) (W:ev l y=some (.int kd i):=by rfl) (hd:Nat.ble (d+1) C.n=true:=by rfl):AL r P ops Q (⟨some d,.index tt x y,T,pos,af,none⟩::rest) C l H:=by
 obtain⟨k,rfl,I⟩:=Qas N;have E:=(Qd.1 I).1;refine AL.val hd (λa w L hh=>?_) h;have:=r_indexStr (P:=P) (w:=w) (d:=some d) (T:=T) (pos:=pos) (af:=af) (gd:=none) O (L.eval V) (L.eval W) rfl (show k<s.size from E);rw[this];have hb:bat s k=v:=by
  unfold bat;rw[Wv,<-Xz,I];rfl
 rw[hb]
def AL.rgs (k:Nat){tt:TypeId}{x:Operand}{s:ByteArray}(h: ∀g,AL r P ops Q rest C ((d,.pointer (some ⟨g,0,none⟩))::l) ((k,.si g s 0)::H))
  (I:P.underlying tt=some .string:=by rfl) (L:ev l x=some (.string s):=by rfl) (N:Nat.ble (d+1) C.n=true:=by rfl) (O:hk H k=none:=by kernel_rfl):AL r P ops Q (⟨some d,.range tt x,T,pos,af,none⟩::rest) C l H:=λa w V W=>
 Z.st_rangeStr V N I L λg w' a' hg hs hb E hf'=>h g a' w' hf' (W.new O E (λb hb'=>by simp only[Res.bl,Qn]at hb';omega) (λj hj=>by cases hj) λ_ _ _ _ _=>hb)
def AL.nxs (k:Nat)(js:List Nat){x:Operand}{s:ByteArray}{g p:Nat}{ρ:Type}{A B R:Option ρ}(I:(if p<s.size then A else B)=R)
  (h2:p<s.size->A=R->AL r P ops Q rest C ((d,.tuple #[.bool true,.int .i64 (p:Int),.int .i32 ((Utf8.decode s p).1:Int)])::l) ((k,.si g s (p+(Utf8.decode s p).2))::ded js H))
  (h1: ¬p<s.size->B=R->AL r P ops Q rest C ((d,.tuple #[.bool false])::l) H)
  (E:hk H k=some (.si g s p):=by rfl) (hx:ev l x=some (.pointer (some ⟨g,0,none⟩)):=by rfl) (hd:Nat.ble (d+1) C.n=true:=by rfl) (L:hng [k] js H=true:=by kernel_rfl):AL r P ops Q (⟨some d,.next x true,T,pos,af,none⟩::rest) C l H:=λa w hf N=>
 Z.st_nextStr hf hd hx (N.hold k _ E) (λhp a' hf'=>h1 hp (by rw[Qb hp]at I;exact I) a' w hf' N) λhp w' a' O hs V hf'=>
  h2 hp (by rw[Qc hp]at I;exact I) a' w' hf' (Hp.dd (N.upd O (λb W=>⟨_,E,W⟩) (λb W=>.inl ⟨_,E,W⟩) (λj L=>by cases L) λ_ _ _ _ _ _ _=>V) L)
section
variable {κ:Type}[DecidableEq κ]{enc:κ->Value}{kt et tt:TypeId}{t:Ty}{agg:Bool}{b:Nat}{m:List (κ×t.den)}
def AL.mkm (k:Nat)(κ:Type)(enc:κ->Value)(t:Ty)(agg:Bool)(h: ∀b,AL r P ops Q rest C ((d,.map (some b))::l) ((k,.mp κ enc t agg b [])::H))(L:Nat.ble (d+1) C.n=true:=by rfl)(N:hk H k=none:=by kernel_rfl):
  AL r P ops Q (⟨some d,.makeMap tt none,T,pos,af,none⟩::rest) C l H:=λa w O V=>
 Z.st_makeMap rfl O L enc t agg no λg w' a' hg hs E I hf'=>h g a' w' hf' (V.new N I (λb hb'=>by simp only[Res.bl,Qn]at hb';omega) (λj W=>by cases W) λF B h1 _ _=>E.to (Ch.refl w') (by simp) λb E _=>E.elim)
def asmp:Option Res->Option Res
 |some (.lmp κ enc t agg b m)=>some (.mp κ enc t agg b m)
 |r=>r
def Qhr {κ:Type}{enc:κ->Value}{t:Ty}{agg:Bool}{b:Nat}{m:List (κ×t.den)}{C:Cx}{H:List (Nat×Res)}{w:World}(L:Hp C H w){k:Nat}(h:asmp (hk H k)=some (.mp κ enc t agg b m)):Mt enc t agg w (Fh C H) b m:=by
 cases E:hk H k with
 |none=>rw[E]at h;cases h
 |some r=>
  rw[E]at h;have I:=L.hold k r E;cases r with
  |lmp κ' enc' t' agg' b' m'=>
   have h:some (Res.mp κ' enc' t' agg' b' m')=_:=h;injection h with h;cases h;exact I.1
  |mp κ' enc' t' agg' b' m'=>
   have h:some (Res.mp κ' enc' t' agg' b' m')=_:=h;injection h with h;cases h;exact I
  |_=>injection h with h;cases h
def Qev {w:World}{x:t.den}{cs:List Value}(O:Hp C H w)(V:t.rep w (Fh C H) cs x)(kn:Nat)(W:nok H kn (lv t)=true): ∃ps:Lf,ps.length=lv t/\cs=cl t x ps/\Hp C (hcat (kx kn (rs t x ps)) H) w:=by
 obtain⟨ps,N,hc,E⟩:=rep_cl (B:=Bk H) t (Qaf t V);exact⟨ps,N,hc,O.adds (by rw[Qdl t x ps N];exact W) λI L=>⟨(E I L).2.1,(E I L).2.2,(E I L).1⟩⟩
def AL.lku (k kn:Nat){x y:Operand}{z v:t.den}{zs:List Value}(K:Ky P kt enc)(key:κ)(N: ∀w,(zeroValue et).run P w=.ok (vof agg zs) w)(O:Dat H t zs z)(V:mget z m key=v)
  (h:t.ok v->tele (lv t) λps=>AL r P ops Q rest C ((d,vof agg (cl t (v) ps))::l) (hcat (kx kn (rs t (v) ps)) H))
  (E:asmp (hk H k)=some (.mp κ enc t agg b m):=by rfl) (W:ev l x=some (.map (some b)):=by rfl) (hy:ev l y=some (enc key):=by rfl) (ht:P.underlying tt=some (.map kt et):=by rfl) (hd:Nat.ble (d+1) C.n=true:=by rfl) (hn:nok H kn (lv t)=true:=by kernel_rfl):
  AL r P ops Q (⟨some d,.lookup tt x y false,T,pos,af,none⟩::rest) C l H:=λa w hf I=>by
 subst V;exact Z.st_lookup hf hd K ht N z (Dat.rep I t O) (Qhr I E) W key hy λcs a' L hf'=>by
  obtain⟨ps,hl,rfl,h2⟩:=Qev I L kn hn;exact Qbb (h (rep_ok t L)) ps hl a' w hf' h2
def AL.lk2 (k kn:Nat){x y:Operand}{z v:t.den}{zs:List Value}(K:Ky P kt enc)(key:κ)(N: ∀w,(zeroValue et).run P w=.ok (vof agg zs) w)(O:Dat H t zs z)(V:mget z m key=v)
  (h:t.ok v->tele (lv t) λps=>AL r P ops Q rest C ((d,.tuple #[vof agg (cl t (v) ps),.bool (mhas m key)])::l) (hcat (kx kn (rs t (v) ps)) H))
  (E:asmp (hk H k)=some (.mp κ enc t agg b m):=by rfl) (W:ev l x=some (.map (some b)):=by rfl) (hy:ev l y=some (enc key):=by rfl) (ht:P.underlying tt=some (.map kt et):=by rfl) (hd:Nat.ble (d+1) C.n=true:=by rfl) (hn:nok H kn (lv t)=true:=by kernel_rfl):
  AL r P ops Q (⟨some d,.lookup tt x y true,T,pos,af,none⟩::rest) C l H:=λa w hf I=>by
 subst V;exact Z.st_lookup2 hf hd K ht N z (Dat.rep I t O) (Qhr I E) W key hy λcs a' L hf'=>by
  obtain⟨ps,hl,rfl,h2⟩:=Qev I L kn hn;exact Qbb (h (rep_ok t L)) ps hl a' w hf' h2
def AL.mup (k:Nat)(js:List Nat){x y v:Operand}{cs:List Value}{u:t.den}(K:Ky P kt enc)(key:κ)(V:Dat H t cs u)(h:AL r P ops Q rest C l ((k,.mp κ enc t agg b (mins m key u))::ded js H))
  (E:hk H k=some (.mp κ enc t agg b m):=by rfl) (W:ev l x=some (.map (some b)):=by rfl) (hy:ev l y=some (enc key):=by rfl) (hv:ev l v=some (vof agg cs):=by rfl) (ht:P.underlying tt=some (.map kt et):=by rfl) (I:hng [k] js H=true:=by kernel_rfl):
  AL r P ops Q (⟨none,.mapUpdate tt x y v,T,pos,af,none⟩::rest) C l H:=λa w hf L=>by
 have hm:Mt enc t agg w (Fh C H) b m:=L.hold k _ E;have hm':Mt enc t agg w (λb=>Fh C H b/\b<w.heap.size) b m:=by
  obtain⟨es,h1,h2,h3⟩:=hm;refine⟨es,h1,h2,λi p hp=>?_⟩;obtain⟨cs,h4,h5⟩:=h3 i p hp;exact⟨cs,h4,Qaf t h5⟩
 refine Z.st_mapUpdate hf K ht hm' W key hy hv (Qaf t (Dat.rep L t V)) (λb' hb' e=>hb'.1.1 k ⟨_,E,by rw[e];simp[Res.bl]⟩) λw' a' N hs O hf'=>
  h a' w' hf' (Hp.dd (L.upd N (λb' hb'=>⟨_,E,hb'⟩) (λb' hb'=>.inl ⟨_,E,hb'⟩) (λj I=>by cases I) λF B hF _ _ _ _=>?_) I)
 exact O.to (Ch.refl w') (by simp) λb' hb' _=>⟨by simp,hF b' hb'.1 hb'.2⟩
end
def Ct (P:Program)(f:FuncId)(vs:List Value)(H:List (Nat×Res))(S:List Nat)(R:Value->List (Nat×Res)->Prop):Prop:=
 ∀(w:World) (F:Nat->Prop),Hp ⟨0,[],w,S,F⟩ H w->Calls P f vs.toArray w λe w'=>∃v H',e=.returned v/\R v H'/\Hp ⟨0,[],w,S,F⟩ H' w'
def Ct.enter {f:FuncId}{fn:Func}{c:Code}{vs:List Value}{n:Nat}{S:List Nat}{R:Value->List (Nat×Res)->Prop}(L:P.funcs[f]?=some fn)(N:fn.body=some c)(O:fn.ntmps=n)(V:Nat.ble vs.length n=true)
  (h: ∀w F,AX none P (bodyPost P fn λe w'=>∃v H',e=.returned v/\R v H'/\Hp ⟨0,[],w,S,F⟩ H' w') [] c ⟨n,[],w,S,F⟩ (argl vs 0) H):Ct P f vs H S R:=λw F E=>
 Z.enter L N O (Q8 V) λa I=>h w F a w I ⟨E.ch,E.hold,E.bnd,E.dis,E.ref⟩
def AX.ret {fn:Func}{K:List Kx}{w0:World}{S:List Nat}{F:Nat->Prop}{n:Nat}{R:Value->List (Nat×Res)->Prop}(ps:List (Nat×Nat))(v:Value)(hres: ∀a w,Fr a n [] l->Hp ⟨n,[],w0,S,F⟩ H w->(results fn a.tmps).run P w=.ok v w)(N:R v (A.ren H ps))(O:nod (ps.map (·.1))=true:=by rfl)(V:nod (ps.map (·.2))=true:=by rfl):
  AX r P (bodyPost P fn λe w'=>∃v H',e=.returned v/\R v H'/\Hp ⟨0,[],w0,S,F⟩ H' w') K .ret ⟨n,[],w0,S,F⟩ l H:=AX.ret0 λa w I L=>by
 have E:=L.ren ps O V;exact Z.retv I (hres a w I L) ⟨v,_,rfl,N,⟨E.ch,E.hold,E.bnd,E.dis,E.ref⟩⟩
def AE.ret {fn:Func}{w0:World}{S:List Nat}{F:Nat->Prop}{n:Nat}{R:Value->List (Nat×Res)->Prop}(ps:List (Nat×Nat))(v:Value)(hres: ∀a w,Fr a n [] l->Hp ⟨n,[],w0,S,F⟩ H w->(results fn a.tmps).run P w=.ok v w)(N:R v (A.ren H ps))(O:nod (ps.map (·.1))=true:=by rfl)(V:nod (ps.map (·.2))=true:=by rfl):
  AE r P (bodyPost P fn λe w'=>∃v H',e=.returned v/\R v H'/\Hp ⟨0,[],w0,S,F⟩ H' w') [] .normal ⟨n,[],w0,S,F⟩ l H:=λa w I L=>by
 have E:=L.ren ps O V;exact Z.endv I (hres a w I L) ⟨v,_,rfl,N,⟨E.ch,E.hold,E.bnd,E.dis,E.ref⟩⟩
end
inductive Sub (H:List (Nat×Res)):List (Nat×Res)->List (Nat×Nat)->List Nat->Prop
 |nil:Sub H [] [] []
 |s (k:Nat) {k0:Nat} {r:Res} {H0:List (Nat×Res)} {ms:List (Nat×Nat)} {ls:List Nat} (h:Sub H H0 ms ls) (h1:hk H k=some r:=by rfl) (hb:r.bl=[]:=by rfl) (hr:r.ref=none:=by rfl):Sub H ((k0,r)::H0) ms ls
 |o (k:Nat) {k0:Nat} {t:Ty} {e:TypeId} {A:Option Addr} {c:Nat} {xs:List t.den} {H0:List (Nat×Res)} {ms:List (Nat×Nat)} {ls:List Nat} (h:Sub H H0 ms ls) (h1:hk H k=some (.own t e A c xs):=by rfl):Sub H ((k0,.ln t A c xs)::H0) ms (k::ls)
 |l (k:Nat) {k0:Nat} {t:Ty} {A:Option Addr} {c:Nat} {xs:List t.den} {H0:List (Nat×Res)} {ms:List (Nat×Nat)} {ls:List Nat} (h:Sub H H0 ms ls) (h1:hk H k=some (.sh (.slice t) [.slice A xs.length c] xs):=by rfl):Sub H ((k0,.ln t A c xs)::H0) ms ls
 |nl {k0:Nat} {t:Ty} {H0:List (Nat×Res)} {ms:List (Nat×Nat)} {ls:List Nat} (h:Sub H H0 ms ls):Sub H ((k0,.ln t none 0 [])::H0) ms ls
 |ns {k0:Nat} {t:Ty} {H0:List (Nat×Res)} {ms:List (Nat×Nat)} {ls:List Nat} (h:Sub H H0 ms ls):Sub H ((k0,.sh (.slice t) [.slice none 0 0] [])::H0) ms ls
 |b (k:Nat) {k0:Nat} {g:Nat} {e:TypeId} {cs:List Value} {H0:List (Nat×Res)} {ms:List (Nat×Nat)} {ls:List Nat} (h:Sub H H0 ms ls) (h1:hk H k=some (.blk g e cs):=by rfl):Sub H ((k0,.el none g 0 cs)::H0) ms (k::ls)
 |lm (k:Nat) {k0:Nat} {κ:Type} {enc:κ->Value} {t:Ty} {agg:Bool} {b:Nat} {m:List (κ×t.den)} {H0:List (Nat×Res)} {ms:List (Nat×Nat)} {ls:List Nat} (h:Sub H H0 ms ls) (h1:hk H k=some (.mp κ enc t agg b m):=by rfl):Sub H ((k0,.lmp κ enc t agg b m)::H0) ms (k::ls)
 |m (k:Nat) {k0:Nat} {r:Res} {H0:List (Nat×Res)} {ms:List (Nat×Nat)} {ls:List Nat} (h:Sub H H0 ms ls) (h1:hk H k=some r:=by rfl) (hr:r.ref=none:=by rfl):Sub H ((k0,r)::H0) ((k0,k)::ms) ls
def blks (H:List (Nat×Res)):List (Nat×Nat)->List Nat
 | []=>[]
 |(_,k)::ms=>match hk H k with
  |some r=>r.bl++blks H ms
  |none=>blks H ms
def Qds {H:List (Nat×Res)}{b:Nat}: ∀{ms:List (Nat×Nat)},b∈blks H ms↔∃p,p∈ms/\Bk H p.2 b
 | []=>by simp[blks]
 |(i,k)::ms=>by
  unfold blks;cases N:hk H k with
  |none=>
   simp only[];rw[Qds];exact⟨λ⟨p,E,I⟩=>⟨p,Qf _ E,I⟩,λ⟨p,E,I⟩=>by
    rcases Qk.1 E with rfl|E
    obtain⟨r,L,_⟩:=I;rw[N]at L;cases L;exact⟨p,E,I⟩⟩
  |some r=>
   simp only[Q2];rw[Qds];constructor;rintro(h|⟨p,E,I⟩);exact⟨(i,k),Qi ..,r,N,h⟩;exact⟨p,Qf _ E,I⟩;rintro⟨p,E,I⟩;rcases Qk.1 E with rfl|E
   obtain⟨V,L,O⟩:=I;rw[N]at L;injection L with L;subst L;exact .inl O
   exact .inr ⟨p,E,I⟩
def Sub.hp {C:Cx}{H:List (Nat×Res)}{w:World}(hh:Hp C H w){H0:List (Nat×Res)}{ms:List (Nat×Nat)}{ls:List Nat}(h:Sub H H0 ms ls)(V:nod (H0.map (·.1))=true)(h2:nod (ms.map (·.2))=true)(h3:ls.all (λk=> !(ms.map (·.2)).any (Nat.beq k))=true):
  Hp ⟨0,[],w,blks H ms,Fh C H⟩ H0 w:=by
 have hvis: ∀{H0:List (Nat×Res)} {k:Nat} {r:Res},hk H0 k=some r->(k,r)∈H0:=by
  intro H0;induction H0 with
  |nil=>intro k r h;cases h
  |cons p q L=>
   obtain⟨d,u⟩:=p;intro k r h;rw[Qaa]at h;split at h;rename_i e;subst e;injection h with h;subst h;exact Qi ..
   exact Qf _ (L h)
 have hmoved: ∀{H0:List (Nat×Res)} {ms:List (Nat×Nat)} {ls:List Nat},Sub H H0 ms ls->∀k r,(k,r)∈H0->r.ref=none/\∀b,b∈r.bl->∃j,(k,j)∈ms/\hk H j=some r:=by
  intro H0 ms ls h;induction h with
  |nil=>intro k r E;cases E
  |s k _ V I hr L=>
   intro k r E;rcases Qk.1 E with e|E
   injection e with e1 e2;subst e1;subst e2;exact⟨hr,λb hb2=>by rw[I]at hb2;cases hb2⟩
   exact L k r E
  |m k _ V hr L=>
   intro k r E;rcases Qk.1 E with e|E
   injection e with e1 e2;subst e1;subst e2;exact⟨hr,λb hb2=>⟨_,Qi ..,V⟩⟩
   obtain⟨N,W⟩:=L k r E;exact⟨N,λb I=>by obtain⟨j,h6,h7⟩:=W b I;exact⟨j,Qf _ h6,h7⟩⟩
  |_=>
   rename_i L;intro k r E;rcases Qk.1 E with e|E
   injection e with e1 e2;subst e1;subst e2;exact⟨rfl,λb hb2=>by cases hb2⟩
   exact L k r E
 have hbk: ∀k b,Bk H0 k b->∃j,(k,j)∈ms/\Bk H j b:=λk b ⟨r,N,W⟩=>by
  obtain⟨j,h6,h7⟩:=(hmoved h k r (hvis N)).2 b W;exact⟨j,h6,r,h7,W⟩
 have hnb: ∀b,(∀k,¬Bk H k b)->∀k,¬Bk H0 k b:=λb hB k hk=>by obtain⟨j,_,N⟩:=hbk k b hk;exact hB j N
 have hF: ∀b,Fh C H b->Fh ⟨0,[],w,blks H ms,Fh C H⟩ H0 b:=λb I=>⟨hnb b I.1,.inl I⟩;have hholds: ∀{H1:List (Nat×Res)} {ms1:List (Nat×Nat)} {ls1:List Nat},Sub H H1 ms1 ls1->(∀k,k∈ls1->∀p,p∈ms->p.2≠k)->∀k r,(k,r)∈H1->r.holds w (Fh ⟨0,[],w,blks H ms,Fh C H⟩ H0) (Bk H0):=by
  intro H1 ms1 ls1 h;have go: ∀k r,hk H k=some r->r.ref=none->r.holds w (Fh ⟨0,[],w,blks H ms,Fh C H⟩ H0) (Bk H0):=λk r N W=>
   Res.to (hh.hold k r N) (S:=[]) (Ch.refl w) (λb I _=>⟨by simp,hF b I⟩) (λb I _=>⟨by simp,hnb b I⟩) (λi b hi _=>by rw[W]at hi;cases hi) (by simp)
  induction h with
  |nil=>intro _ k r E;cases E
  |s k _ V I hr L=>
   intro O k r E;rcases Qk.1 E with e|E
   injection e with e1 e2;subst e1;subst e2;exact go _ _ V hr
   exact L O k r E
  |m k _ V hr L=>
   intro O k r E;rcases Qk.1 E with e|E
   injection e with e1 e2;subst e1;subst e2;exact go _ _ V hr
   exact L O k r E
  |o k _ V L=>
   intro O k' r E;rcases Qk.1 E with e|E
   injection e with e1 e2;subst e1;subst e2
   obtain⟨G,N,W⟩:=rowO V w hh;refine Row.to N (S:=[]) (Ch.refl w) (λb I _=>⟨by simp,hF b I⟩) λb I _=>⟨by simp,λk2 hk2=>?_⟩;obtain⟨j,h6,h7⟩:=hbk k2 b hk2;exact O k (Qi ..) _ h6 (hh.dis j k b h7 (W b I));exact L (λk hk=>O k (Qf _ hk)) k' r E
  |b k _ V L=>
   intro O k' r E;rcases Qk.1 E with e|E
   injection e with e1 e2;subst e1;subst e2
   have hB:Blk w _ _ _:=hh.hold k _ V;refine⟨λj u hu=>?_,hB.lt,λk2 hk2=>?_⟩;rw[Addr.add_lit,Xc,hB.cell];exact hu;obtain⟨j,h6,h7⟩:=hbk k2 _ hk2;exact O k (Qi ..) _ h6 (hh.dis j k _ h7 ⟨_,V,by simp[Res.bl]⟩);exact L (λk hk=>O k (Qf _ hk)) k' r E
  |lm k _ V L=>
   intro O k' r E;rcases Qk.1 E with e|E
   injection e with e1 e2;subst e1;subst e2
   have hB:Mt _ _ _ w (Fh C H) _ _:=hh.hold k _ V;refine⟨Mt.to hB (S:=[]) (Ch.refl w) (by simp) λb I _=>⟨by simp,hF b I⟩,λk2 hk2=>?_⟩;obtain⟨j,h6,h7⟩:=hbk k2 _ hk2;exact O k (Qi ..) _ h6 (hh.dis j k _ h7 ⟨_,V,by simp[Res.bl]⟩);exact L (λk hk=>O k (Qf _ hk)) k' r E
  |l k _ V L=>
   intro O k' r E;rcases Qk.1 E with e|E
   injection e with e1 e2;subst e1;subst e2
   obtain⟨G,N,W⟩:=rowS V w hh;exact Row.to N (S:=[]) (Ch.refl w) (λb I _=>⟨by simp,hF b I⟩) λb I _=>⟨by simp,hnb b (W b I)⟩;exact L O k' r E
  |nl _ L=>
   intro O k' r E;rcases Qk.1 E with e|E
   injection e with e1 e2;subst e1;subst e2
   exact⟨Qt _,by simp[maxLen],[],by simp,.inl rfl,λi x hi=>by simp at hi⟩;exact L O k' r E
  |ns _ L=>
   intro O k' r E;rcases Qk.1 E with e|E
   injection e with e1 e2;subst e1;subst e2;exact Qgk _
   exact L O k' r E
 have hls: ∀k,k∈ls->∀p,p∈ms->p.2≠k:=λk hk p hp e=>by
  have N:=Wd.1 h3 k hk;simp only[Yp,List.any_map,Jn]at N;exact N p hp (by simp[Function.comp,e])
 refine⟨Ch.refl' _ _,λk r hk1=>hholds h hls k r (hvis hk1),λk b I=>?_,λk k' b I hb'=>?_,λk r j hk1 hr=>?_⟩;obtain⟨j,N,W⟩:=hbk k b I;exact⟨.inr (Qds.2 ⟨_,N,W⟩),(hh.bnd j b W).2⟩;obtain⟨j,N,W⟩:=hbk k b I;obtain⟨j',h6,h7⟩:=hbk k' b hb';exact Qjp (f:=λp:Nat×Nat=>p.2) (g:=λp:Nat×Nat=>p.1) h2 (k,j) (k',j') N h6 (hh.dis j j' b W h7);rw[(hmoved h k r (hvis hk1)).1]at hr;cases hr
def kill:List Nat->List (Nat×Res)->List (Nat×Res)
 | [],H=>H
 |k::ks,H=>(k,.dead)::drp k (kill ks H)
def Qea {H:List (Nat×Res)}: ∀{ks:List Nat} {j:Nat} {r:Res},hk (kill ks H) j=some r->r=.dead\/(hk H j=some r/\j∉ks/\∀k,k∈ks->r.ref≠some k)
 | [],j,r,h=>.inr ⟨h,by simp,by simp⟩
 |k::ks,j,r,h=>by
  unfold kill at h;rw[Qaa]at h;split at h;injection h with h;exact .inl h.symm
  rename_i E;rcases Qcg k _ j r h with I|⟨I,V⟩
  exact .inl I;rcases Qea I with L|⟨L,W,h5⟩
  exact .inl L;refine .inr ⟨L,λN=>?_,λi O=>?_⟩;rcases Qk.1 N with e|N
  exact E e.symm;exact W N;rcases Qk.1 O with rfl|O
  exact V;exact h5 i O
def Qey {k:Nat}: ∀{H:List (Nat×Res)} {j:Nat} {r:Res},hk H j=some r->r.ref≠some k->hk (drp k H) j=some r
 | [],_,_,h,_=>by cases h
 |(d,u)::q,j,r,E,I=>by
  unfold drp;rw[Qaa]at E ⊢;by_cases L:d=j;rw[Qc L]at E ⊢;injection E with E
  subst E;cases N:u.ref with
  |none=>rfl
  |some i=>
   simp only[];have:Nat.beq i k=false:=by cases O:Nat.beq i k with
    |false=>rfl
    |true=>exact absurd (by rw[N,Wx O]) I
   rw[this];rfl
  rw[Qb L]at E ⊢;exact Qey E I
def Qfn {H:List (Nat×Res)}: ∀{ks:List Nat} {j:Nat} {r:Res},hk H j=some r->j∉ks->(∀k,k∈ks->r.ref≠some k)->hk (kill ks H) j=some r
 | [],_,_,h,_,_=>h
 |k::ks,j,r,h,E,I=>by
  unfold kill;rw[Qaa,Qb (λe=>E (by rw[e];exact Qi ..))];exact Qey (Qfn h (λL=>E (Qf _ L)) λi N=>I i (Qf _ N)) (I k (Qi ..))
def sft (n:Nat):List (Nat×Res)->List (Nat×Res)
 | []=>[]
 |(k,r)::H=>(k+n,r)::sft n H
def Qjm {n:Nat}{H0:List (Nat×Res)}: ∀{H:List (Nat×Res)} {j:Nat} {r:Res},hk (hcat (sft n H) H0) j=some r->(∃k,j=k+n/\hk H k=some r)\/(hk H0 j=some r/\∀k,j=k+n->hk H k=none)
 | [],j,r,h=>.inr ⟨h,λ_ _=>rfl⟩
 |(d,u)::H,j,r,h=>by
  replace h:hk ((d+n,u)::hcat (sft n H) H0) j=some r:=h;rw[Qaa]at h;split at h;rename_i e;injection h with h;subst h;exact .inl ⟨d,e.symm,by rw[Qaa,Qc rfl]⟩
  rename_i E;rcases Qjm h with⟨k,I,L⟩|⟨I,L⟩
  exact .inl ⟨k,I,by rw[Qaa,Qb (λe=>E (by rw[e,I]))];exact L⟩;exact .inr ⟨I,λk hk=>by rw[Qaa,Qb (λe=>E (by rw[e,hk]))];exact L k hk⟩
def outs:List (Nat×Res)->Bool
 | []=>true
 |(_,r)::H=>(match r with| .ln _ _ _ _=>false| .el _ _ _ _=>false| .mit _ _ _ _ _ _=>false| .lmp _ _ _ _ _ _=>false|_=>true)&&outs H
def Qcr: ∀{H:List (Nat×Res)} {k:Nat} {r:Res},outs H=true->hk H k=some r->(∀t A c xs,r≠ .ln t A c xs)/\(∀k b o cs,r≠ .el k b o cs)/\r.ref=none
 | [],_,_,_,h=>by cases h
 |(d,u)::H,k,r,E,h=>by
  simp only[outs,Qo]at E;rw[Qaa]at h;split at h;injection h with h;subst h
  cases u<;>simp_all [Res.ref];exact Qcr E.2 h
def outs_lmp: ∀{H:List (Nat×Res)} {k:Nat} {κ:Type} {enc:κ->Value} {t:Ty} {agg:Bool} {b:Nat} {m:List (κ×t.den)},outs H=true->hk H k=some (.lmp κ enc t agg b m)->False
 | [],_,_,_,_,_,_,_,_,h=>by cases h
 |(d,u)::H,k,_,_,_,_,_,_,E,h=>by
  simp only[outs,Qo]at E;rw[Qaa]at h;split at h;injection h with h;subst h;exact absurd E.1 (by simp)
  exact outs_lmp E.2 h
def frs (n:Nat)(H:List (Nat×Res)):List (Nat×Res)->Bool
 | []=>true
 |(k,_)::H'=>(match hk H (k+n)with|none=>true|some _=>false)&&frs n H H'
def Hp.back {C:Cx}{H H':List (Nat×Res)}{w w':World}{ms:List (Nat×Nat)}{n:Nat}(h:Hp C H w)(h':Hp ⟨0,[],w,blks H ms,Fh C H⟩ H' w')(ho:outs H'=true)(hf:frs n H H'=true):Hp C (hcat (sft n H') (kill (ms.map (·.2)) H)) w':=by
 have hS: ∀b,b∈blks H ms->∃k,k∈ms.map (·.2)/\Bk H k b:=λb L=>by
  obtain⟨p,I,E⟩:=Qds.1 L;exact⟨p.2,Wr.2 ⟨p,I,rfl⟩,E⟩
 have hbk: ∀j b,Bk (hcat (sft n H') (kill (ms.map (·.2)) H)) j b->(∃k,j=k+n/\Bk H' k b)\/((∀k,j=k+n->hk H' k=none)/\Bk H j b/\j∉ms.map (·.2)):=λj b ⟨r,I,E⟩=>by
  rcases Qjm I with⟨k,O,N⟩|⟨O,N⟩
  exact .inl ⟨k,O,r,N,E⟩;rcases Qea O with rfl|⟨h5,h6,_⟩
  cases E;exact .inr ⟨N,⟨r,h5,E⟩,h6⟩
 have hnew: ∀k b,Bk H' k b->(w.heap.size<=b\/b∈blks H ms)/\b<w'.heap.size:=λk b L=>h'.bnd k b L;have hold: ∀b,(∀k,¬Bk H k b)->b<w.heap.size->b∉blks H ms/\∀j,¬Bk (hcat (sft n H') (kill (ms.map (·.2)) H)) j b:=λb hB V=>by
  refine⟨λL=>by obtain⟨k,_,I⟩:=hS b L;exact hB k I,λj hj=>?_⟩;rcases hbk j b hj with⟨k,_,I⟩|⟨_,I,_⟩
  rcases(hnew k b I).1 with E|E
  omega;obtain⟨k,_,O⟩:=hS b E;exact hB k O;exact hB j I
 have W:=h'.ch;have hsz:w.heap.size<=w'.heap.size:=W.size;have hrefk: ∀j r i,hk H j=some r->r.ref=some i->i∉ms.map (·.2)->∀b,Bk H i b->Bk (hcat (sft n H') (kill (ms.map (·.2)) H)) i b:=λj r i hj hr hi b L=>by
  obtain⟨r2,I,E⟩:=L;have O:=(h.ref j r i hj hr).2 r2 I;refine⟨r2,?_,E⟩;have N:hk (kill (ms.map (·.2)) H) i=some r2:=Qfn I hi λk _=>by rw[O];simp
  have h5: ∀{H':List (Nat×Res)},frs n H H'=true->hk (hcat (sft n H') (kill (ms.map (·.2)) H)) i=some r2:=by
   intro H';induction H' with
   |nil=>intro _;exact N
   |cons p q ih=>
    obtain⟨d,u⟩:=p;intro hf;simp only[frs,Qo]at hf;show hk ((d+n,u)::hcat (sft n q) _) i=some r2;rw[Qaa,Qb (λe=>by subst e;rw[I]at hf;exact absurd hf.1 (by simp))];exact ih hf.2
  exact h5 hf
 refine⟨?_,λj r hj=>?_,λj b hj=>?_,λj j' b hj hj'=>?_,λj r i hj hri=>?_⟩;have hc0:=h.ch;refine⟨W.os.trans hc0.os,W.tape.trans hc0.tape,W.output.trans hc0.output,Wq hc0.size W.size,λb L hn=>?_⟩;have hb2:b∉blks H ms:=λhbS=>by
  obtain⟨k,_,I⟩:=hS b hbS;rcases(h.bnd k b I).1 with E|E
  omega;exact hn E
 rw[W.block b (Q4 L hc0.size) hb2];exact hc0.block b L hn;rcases Qjm hj with⟨k,rfl,I⟩|⟨I,_⟩
 obtain⟨o1,o2,o3⟩:=Qcr ho I;have hh:=h'.hold k r I;have hF: ∀b,Fh ⟨0,[],w,blks H ms,Fh C H⟩ H' b->b<w'.heap.size->Fh C (hcat (sft n H') (kill (ms.map (·.2)) H)) b:=λb L V=>by
  refine⟨λj hj=>?_,?_⟩;rcases hbk j b hj with⟨k,_,E⟩|⟨_,E,O⟩
  exact L.1 k E;rcases L.2 with N|N|N
  exact N.1 j E;have:=(h.bnd j b E).2;have N:w.heap.size<=b:=N;omega;obtain⟨k,h5,h6⟩:=hS b N;exact O (by rw[h.dis j k b E h6];exact h5);rcases L.2 with N|N|N
  exact N.2;exact .inr (.inl (Wq h.ch.size N));obtain⟨k,_,h6⟩:=hS b N;exact .inr (h.bnd k b h6).1
 cases r with
 |ln t A c xs=>exact absurd rfl (o1 t A c xs)
 |el k b o cs=>exact absurd rfl (o2 k b o cs)
 |mit k g b n seen la=>cases o3
 |dead=>trivial
 |sh t cs x=>exact rep_to hh (S:=[]) (Ch.refl w') λb L V=>⟨by simp,hF b L V⟩
 |own t e A c xs=>exact Own.to hh (S:=[]) (Ch.refl w') (by simp) λb L V=>⟨by simp,hF b L V⟩
 |blk g e cs=>exact hh
 |mp κ enc t agg b m=>exact Mt.to hh (S:=[]) (Ch.refl w') (by simp) λb L V=>⟨by simp,hF b L V⟩
 |si g s p=>exact hh
 |ob g p=>exact hh
 |lmp κ enc t agg b m=>exact(outs_lmp ho I).elim
 |mr κ enc t e b As m=>exact Mr.to hh (S:=[]) (Ch.refl w') (by simp) λb L V=>⟨by simp,hF b L V⟩
 |gn bs p hp=>exact hp hh (S:=[]) (Ch.refl w') (by simp) λb L V=>⟨by simp,hF b L V⟩
 rcases Qea I with rfl|⟨E,O,N⟩
 trivial;refine Res.to (h.hold j r E) W (λb L V=>⟨(hold b L.1 V).1,(hold b L.1 V).2,L.2⟩) (λb L V=>hold b L V) (λi b hi hB=>⟨λhbS=>?_,?_⟩) λb L hbS=>?_;obtain⟨k,h5,h6⟩:=hS b hbS;exact N k h5 (by rw[hi,h.dis i k b hB h6]);exact hrefk j r i E hi (λhm=>N i hm hi) b hB;obtain⟨k,h5,h6⟩:=hS b hbS;exact O (by rw[h.dis j k b ⟨r,E,L⟩ h6];exact h5);rcases hbk j b hj with⟨k,_,I⟩|⟨_,I,_⟩
 obtain⟨E,O⟩:=hnew k b I;refine⟨?_,O⟩;rcases E with E|E
 exact .inl (Wq h.ch.size E);obtain⟨k,_,h6⟩:=hS b E;exact(h.bnd k b h6).1;exact⟨(h.bnd j b I).1,Q4 (h.bnd j b I).2 hsz⟩;have cross: ∀k j b,Bk H' k b->Bk H j b->j∉ms.map (·.2)->False:=λk j b I E O=>by
  rcases(hnew k b I).1 with N|N
  have:=(h.bnd j b E).2;omega;obtain⟨i,h5,h6⟩:=hS b N;exact O (by rw[h.dis j i b E h6];exact h5)
 rcases hbk j b hj with⟨k,rfl,I⟩|⟨_,I,O⟩<;>rcases hbk j' b hj' with⟨k',rfl,E⟩|⟨_,E,N⟩
 rw[h'.dis k k' b I E];exact(cross k j' b I E N).elim;exact(cross k' j b E I O).elim;exact h.dis j j' b I E;rcases Qjm hj with⟨k,rfl,I⟩|⟨I,_⟩
 rw[(Qcr ho I).2.2]at hri;cases hri;rcases Qea I with rfl|⟨E,O,N⟩
 cases hri;obtain⟨h5,h6⟩:=h.ref j r i E hri;refine⟨h5,λr2 h7=>?_⟩;rcases Qjm h7 with⟨k,rfl,h8⟩|⟨h8,_⟩
 exact(Qcr ho h8).2.2;rcases Qea h8 with rfl|⟨h9,_⟩
 rfl;exact h6 r2 h9
section
variable {r:Option Nat}{P:Program}{ops:Array Oper}{Q:Exit->Act->World->Prop}{rest lst:List Oper}{C:Cx}{l:List (Nat×Value)}{H:List (Nat×Res)}{d:Nat}{T:TypeId}{pos:String}{af:Array Edge}
def Qfk {H:List (Nat×Res)}: ∀(ks:List Nat) (j:Nat),hk (kill ks H) j=bif ks.any (Nat.beq j)then some .dead else(hk H j).map λv=>bif rin ks v.ref then .dead else v
 | [],j=>by
  show hk H j=(hk H j).map _;cases hk H j with
  |none=>rfl
  |some v=>cases L:v.ref<;>simp[rin,L]
 |k::ks,j=>by
  show hk ((k,.dead)::drp k (kill ks H)) j=_;rw[Qaa,Qbp,Qfk ks j,Yd];by_cases E:k=j;subst E;simp;have I:Nat.beq j k=false:=by cases N:Nat.beq j k with
   |false=>rfl
   |true=>exact absurd (Wx N).symm E
  rw[Qb E,I];revert I;intro _;cases ks.any (Nat.beq j)<;>cases L:hk H j<;>try rfl
  rename_i v;cases O:v.ref with
  |none=>simp[rin,O]
  |some i=>simp only[cond_false,Xo,Wg,rin,O,Yd,List.any_nil,Bool.or_false];cases N:ks.any (Nat.beq i)<;>cases V:Nat.beq i k<;>simp_all [rin,Res.ref]
def kld (js:List Nat)(H:List (Nat×Res))(ks:List Nat):List (Nat×Res):=ded ks (ded js H)
def hk_kld {H:List (Nat×Res)}{ks js:List Nat}(h:hng ks js H=true)(j:Nat):hk (kld js H ks) j=hk (kill ks H) j\/(hk (kld js H ks) j=some .dead/\hk (kill ks H) j=none):=by
 rw[kld,Qia,Qia,Qfk];cases ks.any (Nat.beq j)with
 |true=>exact .inl rfl
 |false=>exact hng_at h j
def hk_hcat: ∀{A H H':List (Nat×Res)},(∀j,hk H' j=hk H j\/(hk H' j=some .dead/\hk H j=none))->∀j,hk (hcat A H') j=hk (hcat A H) j\/(hk (hcat A H') j=some .dead/\hk (hcat A H) j=none)
 | [],_,_,h,j=>h j
 |(d,u)::A,H,H',h,j=>by
  show hk ((d,u)::hcat A H') j=hk ((d,u)::hcat A H) j\/(hk ((d,u)::hcat A H') j=some .dead/\hk ((d,u)::hcat A H) j=none);rw[Qaa,Qaa];by_cases E:d=j;rw[Qc E,Qc E];exact .inl rfl;rw[Qb E,Qb E];exact hk_hcat (A:=A) h j
def AL.call (n:Nat)(js:List Nat){f:FuncId}{c:Operand}{xs:List Operand}{vs vs' first cap:List Value}{ts:Array TypeId}{H0:List (Nat×Res)}{ms:List (Nat×Nat)}{ls:List Nat}{S:List Nat}{R:Value->List (Nat×Res)->Prop}
  (E: ∀args w,(callFunc f args).run P w=.ok (.enter f args) w) (I:Ct P f vs' H0 S R) (hs:Sub H H0 ms ls)
  (h: ∀v H',R v H'->(outs H'&&frs n H H')=true/\AL r P ops Q rest C ((d,v)::l) (hcat (sft n H') (kld js H (ms.map (·.2)))))
  (V:ev l c=some (.func (.func f) first.toArray cap.toArray):=by rfl) (W:evs l xs=some vs:=by rfl) (hv:first++vs++cap=vs':=by rfl) (hS:blks H ms=S:=by rfl) (h1:nod (H0.map (·.1))=true:=by rfl) (h2:nod (ms.map (·.2))=true:=by rfl) (h3:ls.all (λk=> !(ms.map (·.2)).any (Nat.beq k))=true:=by rfl) (hd:Nat.ble (d+1) C.n=true:=by rfl) (hj:hng (ms.map (·.2)) js H=true:=by kernel_rfl):
  AL r P ops Q (⟨some d,.call {callee:=.value c,args:=xs.toArray,argTypes:=ts},T,pos,af,none⟩::rest) C l H:=λa w N O=>by
 subst hS;subst hv;refine Z.call1 N hd (r_callv E N (first:=first) (cap:=cap) (vs:=vs) (xs:=xs) V W) (I w (Fh C H) (hs.hp O h1 h2 h3)) λe w' ⟨v,H',he,hR,hh'⟩=>⟨v,he,λa' hf'=>?_⟩;obtain⟨L,h5⟩:=h v H' hR;rw[Qo]at L;exact h5 a' w' hf' ((O.back hh' L.1 L.2).ext (hk_hcat (hk_kld hj)))
end
def pk_kont {r:Option Nat}{P:Program}{Y:Exit->Act->World->Prop}(hp:Pq Y): ∀{K:List Kx},Pq (kont r P Y K)
 | []=>hp
 | .c _::K=>λc a d v w h=>pk_kont hp (K:=K) c a d v w h
 | .b _::K=>λc a d v w h=>pk_kont hp (K:=K) c a d v w h
 | .m _::K=>λc a d v w h=>pk_kont hp (K:=K) c a d v w h
 | .s::K=>λc a d v w h=>pk_kont hp (K:=K) c a d v w h
section
variable {r:Option Nat}{P:Program}{ops:Array Oper}{Q:Exit->Act->World->Prop}{S S':World->Prop}{m:Nat}
def gn (ops:Array Oper)(li:Array Bool)(m:Nat):Bool:=(ops[m]?).isSome&&li.getD m false
def Hem (r:Option Nat)(P:Program)(ops:Array Oper)(Q:Exit->Act->World->Prop)(S:World->Prop)(m:Nat):Nat->Array Bool->Act->World->Prop
 |0,listed,a,w=>Region.ready .any ops listed=[]/\Q .normal a w
 |f+1,listed,a,w=>(Region.ready .any ops listed=[]->Q .normal a w)/\
  ∀i∈Region.ready .any ops listed,wpOpIn (FW r) 0 P ops Q i (λa' w'=>(gn ops (listed.setIfInBounds i true) m=false->S w')/\Hem r P ops Q S m f (listed.setIfInBounds i true) a' w') a w
def Hem.any: ∀(f:Nat) (listed:Array Bool) (a:Act) (w:World),Hem r P ops Q S m f listed a w->wpAnyIn (FW r) 0 P .any ops Q f listed a w
 |0,_,_,_,h=>h
 |f+1,_,_,_,h=>⟨h.1,λi E=>wpOpIn_mono (λa' w' h'=>Hem.any f _ a' w' h'.2) (h.2 i E)⟩
def bonf (ops:Array Oper)(i:Nat):Nat->Nat->Bool
 |0,_=>false
 |f+1,m=>match ops[m]? with
  |none=>false
  |some o=>(o.after.any λe=>Region.binds .any e&&Nat.beq e.on i)||o.after.any λe=>Region.binds .any e&&bonf ops i f e.on
def bon (ops:Array Oper)(m i:Nat):Bool:=match ops[m]? with
 |none=>true
 |some _=> !(Nat.beq i m)&&bonf ops i 12 m
def Clo (ops:Array Oper)(li:Array Bool):Prop:=∀k o,ops[k]?=some o->li.getD k false=true->∀e∈o.after,Region.binds .any e=true->li.getD e.on false=true
def cloB (ops:Array Oper)(li:Array Bool):Bool:=(List.range ops.size).all λk=>match ops[k]? with
 |none=>true
 |some o=> !(li.getD k false)||o.after.all λe=> !(Region.binds .any e)||li.getD e.on false
def clo_of {ops:Array Oper}{li:Array Bool}(h:cloB ops li=true):Clo ops li:=λk o hk E e I L=>by
 have:=Wd.1 h k (Yt.2 (Qp.1 hk).1);rw[hk]at this;simp only[E,Wz,Xo]at this;have N:=(Array.all_eq_true_iff_forall_mem.1 this) e I;simpa[L] using N
def Qeg {li:Array Bool}{j k:Nat}(h:li.getD k false=true):(li.setIfInBounds j true).getD k false=true:=by
 by_cases e:j=k;subst e;by_cases hs:j<li.size;simp[hs];simp[Yj (Yu hs)]at h;rw[getD_set_ne false e];exact h
def Clo.step {ops:Array Oper}{li:Array Bool}{j:Nat}(h:Clo ops li)(V:j∈Region.ready .any ops li):Clo ops (li.setIfInBounds j true):=λk o hk L e N O=>by
 by_cases I:j=k;subst I;obtain⟨_,oj,E,hall⟩:=mem_ready.1 V;rw[hk]at E;injection E with E;subst E
 exact Qeg (hall e N O);rw[getD_set_ne false I]at L;exact Qeg (h k o hk L e N O)
def Qen {ops:Array Oper}{li:Array Bool}{i:Nat}(O:Clo ops li): ∀(f m:Nat) {o:Oper},ops[m]?=some o->(∀e∈o.after,Region.binds .any e=true->li.getD e.on false=true)->bonf ops i f m=true->li.getD i false=true
 |0,_,_,_,_,h=>by cases h
 |f+1,m,o,W,V,h=>by
  unfold bonf at h;rw[W]at h;simp only[X7,Array.any_eq_true']at h;rcases h with⟨e,L,E⟩|⟨e,L,E⟩
  rw[Qo]at E;rw[<-Wx E.2];exact V e L E.1;rw[Qo]at E;have I:=E.2;cases f with
  |zero=>cases I
  |succ f=>
   cases N:ops[e.on]? with
   |none=>unfold bonf at I;rw[N]at I;cases I
   |some o'=>exact Qen O (f+1) e.on N (O e.on o' N (V e L E.1)) I
def gn_ne {li:Array Bool}{i:Nat}(h:i≠m):gn ops (li.setIfInBounds i true) m=gn ops li m:=by unfold gn;rw[getD_set_ne false h]
def Qhb {li:Array Bool}{j:Nat}(h:gn ops (li.setIfInBounds j true) m=false):gn ops li m=false:=by
 cases E:gn ops li m with
 |false=>rfl
 |true=>
  unfold gn at h E;rw[Qo]at E;rw[E.1,Qeg E.2]at h;cases h
def bon_ne {i:Nat}{oi:Oper}(E:ops[i]?=some oi)(h:bon ops m i=true):i≠m:=λe=>by
 subst e;unfold bon at h;rw[E]at h;simp only[Qo,Ye,Wz,Qx,false_and]at h
def bon_gn {li:Array Bool}{i:Nat}(V:Clo ops li)(L:bon ops m i=true)(hr:i∈Region.ready .any ops li):gn ops li m=false:=by
 cases E:gn ops li m with
 |false=>rfl
 |true=>
  unfold gn at E;rw[Qo]at E;unfold bon at L;cases N:ops[m]? with
  |none=>rw[N]at E;cases E.1
  |some om=>
   rw[N]at L;simp only[Qo]at L;have O:=Qen V 12 m N (V m om N E.2) L.2;have W:=(mem_ready.1 hr).1;by_cases I:i<li.size;simp[I]at W O;rw[W]at O;cases O;simp[Yj (Yu I)]at O
def Hem.first {T:World->Prop}{i:Nat}{oi:Oper}{v:Value}(hn:Qav ops=true)(V:ops[i]?=some oi)(hs:Region.noSelect ops=true)(W:i≠m)(I:(bon ops m i=true/\∀w,S w->T w)\/∀w,T w)(hQ: ∀c a w,Q (.panic c) (a.put oi.dst v) w->Q (.panic c) a w): ∀(f:Nat) (listed:Array Bool) (a:Act) (w:World),Clo ops listed->
  (∀j oj,ops[j]?=some oj->j≠i->listed.getD j true=false->(∀e∈oj.after,Region.binds .any e=true->e.on≠i)->oi.apart ops oj=true)->i∈Region.ready .any ops listed->YieldsIf P ops T oi v a->(gn ops listed m=false->S w)->
  Hem r P ops Q S m f (listed.setIfInBounds i true) (a.put oi.dst v) w->Hem r P ops Q S m (f+1) listed a w
 |0,listed,a,w,L,_,N,hy,hS,H=>⟨λh=>(by rw[h]at N;cases N),λj hj=>by
   have hT:T w:=by
    rcases I with I|I
    exact I.2 w (hS (bon_gn L I.1 N));exact I w
   by_cases E:j=i;subst E;exact Hel.op (Qbu hn V) V hy hT ⟨λh=>hS (Qhb h),H⟩;have:=ready_mono hj E;rw[H.1]at this;cases this⟩
 |f+1,listed,a,w,L,hfree,N,hy,hS,H=>⟨λh=>(by rw[h]at N;cases N),λj hj=>by
   have hT:T w:=by
    rcases I with I|I
    exact I.2 w (hS (bon_gn L I.1 N));exact I w
   by_cases E:j=i;subst E;exact Hel.op (Qbu hn V) V hy hT ⟨λh=>hS (Qhb h),H⟩;have h1:=H.2 j (ready_mono hj E);obtain⟨hun,oj,O,hall⟩:=mem_ready.1 hj;have hno: ∀e∈oj.after,Region.binds .any e=true->e.on≠i:=λe he I heq=>by
    have hl:=hall e he I;have h0:=(mem_ready.1 N).1;rw[heq]at hl;by_cases hsz:i<listed.size;simp[hsz]at h0 hl;rw[h0]at hl;cases hl;simp[Yj (Yu hsz)]at hl
   have h2:=Hel.put (Qbu hn O) O (hfree j oj O E hun hno) (λcs b=>Region.noSelect_spec hs i oi cs b V) (λcs b=>Region.noSelect_spec hs j oj cs b O) hQ hy h1;refine wpOpIn_mono (λa' w' h3=>?_) h2;have hS':gn ops (listed.setIfInBounds j true) m=false->S w':=λh=>h3.2.1 (by rw[Array.setIfInBounds_comm _ _ (Ne.symm E),gn_ne W];exact h);refine⟨hS',Hem.first hn V hs W I hQ f _ a' w' (L.step hj) (λk ok hk hki hkun hkno=>hfree k ok hk hki ?_ hkno) (ready_mono N (Ne.symm E)) h3.1 hS' ?_⟩;by_cases hjk:j=k;subst hjk;exact hun;rwa[getD_set_ne true hjk]at hkun;rw[Array.setIfInBounds_comm _ _ E];exact h3.2.2⟩
def Hem.str (E: ∀w,S' w->S w): ∀(f:Nat) (li:Array Bool) (a:Act) (w:World),Hem r P ops Q S' m f li a w->Hem r P ops Q S m f li a w
 |0,_,_,_,h=>h
 |f+1,li,a,w,h=>⟨h.1,λi I=>wpOpIn_mono (λa' w' h'=>⟨λL=>E w' (h'.1 L),Hem.str E f _ a' w' h'.2⟩) (h.2 i I)⟩
def HZ (r:Option Nat)(P:Program)(ops:Array Oper)(Q:Exit->Act->World->Prop)(S:World->Prop)(m fuel:Nat)(listed:Array Bool)(i:Nat):Exit->Act->World->Prop
 | .normal,a,w=>(gn ops (listed.setIfInBounds i true) m=false->S w)/\Hem r P ops Q S m fuel (listed.setIfInBounds i true) a w
 |e,a,w=>Q e a w
def Hem.list {a:Act}{w:World}{fuel:Nat}{listed:Array Bool}{i:Nat}{o:Oper}(N:ops[i]?=some o)(h:WL r P ops (HZ r P ops Q S m fuel listed i) [o] a w):wpOpIn (FW r) 0 P ops Q i (λa' w'=>(gn ops (listed.setIfInBounds i true) m=false->S w')/\Hem r P ops Q S m fuel (listed.setIfInBounds i true) a' w') a w:=by
 unfold wpOpIn;rw[N];simp only[];unfold WL wpListIn at h;by_cases L:Region.wanted o (yielded ops a.tmps)=true;rw[Qc L]at h ⊢;refine⟨h.1,?_⟩;have h:=h.2;generalize (o.semAt (FW r).round a.eval).run P w=res at h ⊢;cases res with
 |ok x w'=>
  cases x with
  |enter f args=>exact⟨h.1,CallsIn.mono h.2 λe w'' E=>by cases e<;>first|exact E|exact E.elim λ_ I=>I.elim λ_ I=>⟨_,_,I⟩⟩
  |row row args=>exact⟨h.1,RowsIn.mono h.2 λ_ _ E=>E⟩
  |round l f tmps assign body=>exact⟨h.1,RoundIn.mono h.2 λe w'' E=>by cases e<;>first|exact E|exact E.elim λ_ I=>I.elim λ_ I=>⟨_,_,I⟩⟩
  |_=>exact h
 |halt x w'=>cases x<;>exact h
 rw[Qb L]at h ⊢;exact h
section
variable {K:Kn}{w:World}{n:Nat}{ds:List Deferred}
def Qho {li':Array Bool}{f:Nat}(O:(Region.noSelect ops&&Qav ops)=true)(hQ: ∀c a d v w,Q (.panic c) (Act.put a d v) w->Q (.panic c) a w){bb:Nat->Bool}(I: ∀i,bb i=true->∀o,ops[i]?=some o->i≠m/\((bon ops m i=true/\∀w,S w->K.ok w)\/∀w,K.ok w)):
  ∀{is:List (Nat×Hint)} {li:Array Bool} {s s':QS} {a:Act},(gn ops li m=false->S w)->Clo ops li->is.all (λp=>bb p.1)=true->dqs P K n ops is li s=some (li',s')->(∀p,p∈s'.c->p)->(∀p,p∈s'.q->p.1=p.2)->s.ok a n ds->(∀a',s'.ok a' n ds->Hem r P ops Q S m f li' a' w)->Hem r P ops Q S m (f+is.length) li a w
 | [],_,s,s',a,_,_,_,hq,_,_,hs,h=>by simp only[dqs,Qz,Yr]at hq;obtain⟨V,h2⟩:=hq;subst V;subst h2;exact h a hs
 |(i,g)::is,li,s,s',a,hS,L,W,hq,hc,he,hs0,h=>by
  have hn':=O;rw[Qo]at O;rw[Xl,Qo]at W;unfold dqs at hq;split at hq;rename_i o hi;split at hq;rename_i E;rw[Qo]at E;split at hq;rename_i s1 V;have N:=dqs_le hq;obtain⟨d,v,hd,k1,k2,k3⟩:=o_cT hs0 V (λp hp=>hc p (N.c p hp)) (λp hp=>he p (N.q p hp));have hrest:Hem r P ops Q S m (f+is.length) (li.setIfInBounds i true) (a.put (some d) v) w:=Qho hn' hQ I (λhg=>hS (Qhb hg)) (L.step (by simpa using E.2)) W.2 hq hc he k1 h;obtain⟨hne,hb1⟩:=I i W.1 o hi;refine Hem.first (T:=K.ok) O.2 hi O.1 hne hb1 (λc a w=>hQ c a _ v w) _ li a w L (Region.free_spec hi E.1) (by simpa using E.2) ?_ hS (by rw[hd];exact hrest);rcases k3 with⟨hw,hv⟩|⟨hw,rfl⟩
  exact .inl ⟨hw,hv⟩;exact .inr ⟨hw,rfl⟩;cases hq;cases hq;cases hq
end
variable {C:Cx}{l:List (Nat×Value)}{H Hq:List (Nat×Res)}{f:Nat}{li:List Bool}
abbrev AH (r:Option Nat) (P:Program) (ops:Array Oper) (Q:Exit->Act->World->Prop) (Hq:List (Nat×Res)) (m f:Nat) (li:List Bool) (C:Cx) (l:List (Nat×Value)) (H:List (Nat×Res)):Prop:=
 ∀a w,Fr a C.n C.ds l->Hp C H w->Hem r P ops Q (Hp C Hq) m f li.toArray a w
def Hp.drew {w w':World}(h:Hp C H w)(I:Ch [] w w'):Hp C H w':=by
 refine⟨?_,λk r L=>?_,λk b O=>?_,h.dis,h.ref⟩;have E:=h.ch;exact⟨I.os.trans E.os,I.tape.trans E.tape,I.output.trans E.output,Wq E.size I.size,λb hb' V=>by rw[I.block b (Q4 hb' E.size) (by simp)];exact E.block b hb' V⟩;exact Res.to (h.hold k r L) I (λb W _=>⟨by simp,W⟩) (λb N _=>⟨by simp,N⟩) (λi b _ N=>⟨by simp,N⟩) (by simp);exact⟨(h.bnd k b O).1,Q4 (h.bnd k b O).2 I.size⟩
def AX.dr {Y:Exit->Act->World->Prop}{K:List Kx}{id:Nat}{lo:List Oper}(I:P.follows .mixedOrders=true)(m f:Nat)(li:List Bool)(h:AH r P lo.toArray (kont r P Y K) [] m f li C l H)(E:lo.toArray.size=f:=by rfl)(L:(Array.replicate lo.toArray.size false).toList=li:=by kernel_rfl):
  AX r P Y K (.region id lo.toArray true) C l H:=λa w N O=>by
 subst E;subst L;have:=h a _ N (Hp.drew O (Ch.drew w));rw[W5]at this;exact wpIn_region_any I (Hem.any _ _ _ _ this)
def AH.str (gs:List Nat){Hq':List (Nat×Res)}(h:AH r P ops Q Hq' m f li C l H)(e:kpH Hq' gs gs=Hq:=by kernel_rfl):AH r P ops Q Hq m f li C l H:=λa w E I=>
 Hem.str (λw h=>h.cov gs e) _ _ a w (h a w E I)
def AH.q (hQ:Pq Q)(gs qs bs es:List Nat)(li':List Bool)(f:Nat)(is:List (Nat×Hint))(ks:List Nat)(cs:List Prop)(nl:List (Nat×Value)){g:Nat}(hc:conj cs)(h:AH r P ops Q (kpH H qs qs) m f li' C (cat nl l) H)
  (hg:g=f+is.length:=by rfl) (hb:is.all (λp=>bon ops m p.1)=true:=by kernel_rfl) (N:cloB ops li.toArray=true:=by kernel_rfl) (hn:(Region.noSelect ops&&Qav ops)=true:=by kernel_rfl)
  (hq:((dqs P ⟨knb (kpH H qs qs) bs,kne (kpH H qs qs) es⟩ C.n ops is li.toArray (q0 l)).bind λx=>(qfin l ks x.2).map λy=>(x.1.toList,y))=some (li',cs,nl):=by kernel_rfl)
  (L:(dqs P ⟨knb (kpH H qs qs) bs,kne (kpH H qs qs) es⟩ C.n ops is li.toArray (q0 l)).map (λs=>s.2.q.map Prod.fst)=(dqs P ⟨knb (kpH H qs qs) bs,kne (kpH H qs qs) es⟩ C.n ops is li.toArray (q0 l)).map (λs=>s.2.q.map Prod.snd):=by kernel_rfl)
  (e:kpH (kpH H qs qs) gs gs=Hq:=by kernel_rfl):AH r P ops Q Hq m g li C l H:=AH.str gs (e:=e) λa w hf W=>by
 subst hg;cases I:dqs P ⟨knb (kpH H qs qs) bs,kne (kpH H qs qs) es⟩ C.n ops is li.toArray (q0 l)with
 |none=>rw[I]at hq;cases hq
 |some x=>
  obtain⟨li1,s'⟩:=x;rw[I]at hq L;have hq:((qfin l ks s').map λy=>(li1.toList,y))=some (li',cs,nl):=hq;have L:s'.q.map Prod.fst=s'.q.map Prod.snd:=by injection L
  cases E:qfin l ks s' with
  |none=>rw[E]at hq;cases hq
  |some y=>
   obtain⟨cs1,nl1⟩:=y;rw[E]at hq;simp only[Wg,Qz,Yr]at hq;obtain⟨h1,h2,h3⟩:=hq;subst h1;subst h2;subst h3;have O:s'.c=cs1:=by unfold qfin at E;split at E;(injection E with E;injection E);cases E
   exact Qho hn hQ (bb:=λi=>bon ops m i) (λi hi o ho=>⟨bon_ne ho hi,.inl ⟨hi,λw' h'=>o_cU h' bs es⟩⟩) (λ_=>W.keep qs) (clo_of N) hb I (by rw[O];exact Qgm hc) (Qcw L) (o_cx hf) λa' V=>by
    have:=h a' w (Qkw V (Qjn (q0_inv l) I) E).1 W;rwa[W5]at this
def AH.v (W:Pq Q)(gs qs:List Nat)(i:Nat)(li':List Bool){d:Nat}{op:Op}{T:TypeId}{pos:String}{af:Array Edge}{v:Value}(I:ops[i]?=some ⟨some d,op,T,pos,af,none⟩)(hr: ∀a w,Fr a C.n C.ds l->Hp C (kpH H qs qs) w->(execOp a.eval ⟨some d,op,T,pos,af,none⟩).run P w=.ok (.value v) w)
  (h:AH r P ops Q (kpH H qs qs) m f li' C ((d,v)::l) H) (N:bon ops m i=true:=by kernel_rfl) (L:cloB ops li.toArray=true:=by kernel_rfl) (hl:(li.toArray.setIfInBounds i true).toList=li':=by kernel_rfl) (hd:Nat.ble (d+1) C.n=true:=by rfl) (hs:(Region.noSelect ops&&Qav ops)=true:=by kernel_rfl)
  (E:(Region.free .any ops li.toArray i&&(Region.ready .any ops li.toArray).contains i)=true:=by kernel_rfl) (e:kpH (kpH H qs qs) gs gs=Hq:=by kernel_rfl):AH r P ops Q Hq m (f+1) li C l H:=AH.str gs (e:=e) λa w O V=>by
 rw[Qo]at hs E;refine Hem.first (T:=Hp C (kpH H qs qs)) hs.2 I hs.1 (bon_ne I N) (.inl ⟨N,λ_ h=>h⟩) (λc a w=>W c a _ _ w) f li.toArray a w (clo_of L) (Region.free_spec I E.1) (by simpa using E.2) (.inl ⟨Qcb,λw' h'=>hr a w' O h'⟩) (λ_=>V.keep qs) ?_;have:=h _ w (O.put (Q8 hd) v) V;rw[<-hl,W5]at this;exact this
def AH.vg (hQ:Pq Q)(gs qs:List Nat)(i:Nat)(li':List Bool){d j dj:Nat}{b:Bool}{op:Op}{T:TypeId}{pos:String}{af:Array Edge}{v:Value}(I:ops[i]?=some ⟨some d,op,T,pos,af,some (j,b)⟩)(hr: ∀a w,Fr a C.n C.ds l->Hp C (kpH H qs qs) w->(execOp a.eval ⟨some d,op,T,pos,af,none⟩).run P w=.ok (.value v) w)
  (h:AH r P ops Q (kpH H qs qs) m f li' C ((d,v)::l) H) (hj:(ops[j]?).bind (·.dst)=some dj:=by rfl) (L:lk l dj=some (.bool b):=by rfl) (V:bon ops m i=true:=by kernel_rfl) (N:cloB ops li.toArray=true:=by kernel_rfl) (hl:(li.toArray.setIfInBounds i true).toList=li':=by kernel_rfl) (hd:Nat.ble (d+1) C.n=true:=by rfl) (hs:(Region.noSelect ops&&Qav ops)=true:=by kernel_rfl)
  (E:(Region.free .any ops li.toArray i&&(Region.ready .any ops li.toArray).contains i)=true:=by kernel_rfl) (e:kpH (kpH H qs qs) gs gs=Hq:=by kernel_rfl):AH r P ops Q Hq m (f+1) li C l H:=AH.str gs (e:=e) λa w O W=>by
 rw[Qo]at hs E;refine Hem.first (T:=Hp C (kpH H qs qs)) hs.2 I hs.1 (bon_ne I V) (.inl ⟨V,λ_ h=>h⟩) (λc a w=>hQ c a _ _ w) f li.toArray a w (clo_of N) (Region.free_spec I E.1) (by simpa using E.2) (.inl ⟨Qcj O hj L,λw' h'=>hr a w' O h'⟩) (λ_=>W.keep qs) ?_;have:=h _ w (O.put (Q8 hd) v) W;rw[<-hl,W5]at this;exact this
def AH.one (i:Nat){o:Oper}(h:AL r P ops (HZ r P ops Q (Hp C Hq) m f li.toArray i) [o] C l H)(N:ops[i]?=some o:=by rfl)(E:Region.ready .any ops li.toArray=[i]:=by kernel_rfl):AH r P ops Q Hq m (f+1) li C l H:=λa w O V=>
 ⟨λI=>(by rw[E]at I;cases I),λj L=>by rw[E,Qn]at L;subst L;exact Hem.list N (h a w O V)⟩
def AH.two (i j:Nat){oi oj:Oper}(O:AL r P ops (HZ r P ops Q (Hp C Hq) m f li.toArray i) [oi] C l H)(V:AL r P ops (HZ r P ops Q (Hp C Hq) m f li.toArray j) [oj] C l H)(W:ops[i]?=some oi:=by rfl)(hj:ops[j]?=some oj:=by rfl)(E:Region.ready .any ops li.toArray=[i,j]:=by kernel_rfl):
  AH r P ops Q Hq m (f+1) li C l H:=λa w I L=>
 ⟨λN=>(by rw[E]at N;cases N),λk hk=>by
  rw[E]at hk;simp only[Qk,Y9,or_false]at hk;rcases hk with rfl|rfl
  exact Hem.list W (O a w I L);exact Hem.list hj (V a w I L)⟩
def AH.nx {i:Nat}(li':List Bool)(gs:List Nat)(h:AH r P ops Q Hq m f li' C l H)(e:kpH H gs gs=Hq:=by kernel_rfl)(I:(li.toArray.setIfInBounds i true).toList=li':=by kernel_rfl):AL r P ops (HZ r P ops Q (Hp C Hq) m f li.toArray i) [] C l H:=λa w L E=>by
 refine Z.done ?_;show(_->Hp C Hq w)/\_;have:=h a w L E;rw[<-I,W5]at this;exact⟨λ_=>E.cov gs e,this⟩
def AH.nm {i:Nat}(li':List Bool)(h:AH r P ops Q Hq m f li' C l H)(E:(li.toArray.setIfInBounds i true).toList=li':=by kernel_rfl)(I:gn ops li'.toArray m=true:=by kernel_rfl):AL r P ops (HZ r P ops Q (Hp C Hq) m f li.toArray i) [] C l H:=λa w L N=>by
 refine Z.done ?_;show(_->Hp C Hq w)/\_;have:=h a w L N;rw[<-E,W5]at this;rw[<-E,W5]at I;exact⟨λh=>(by rw[I]at h;cases h),this⟩
def AH.qc (hQ:Pq Q)(hS: ∀w,Hp C H w->gn ops li.toArray m=false->Hp C Hq w)(li':List Bool)(f:Nat)(is:List (Nat×Hint))(nl:List (Nat×Value)){g:Nat}(h:AH r P ops Q Hq m f li' C (cat nl l) H)
  (hg:g=f+is.length) (hb:is.all (λp=> !(Nat.beq p.1 m))=true) (O:cloB ops li.toArray=true) (hn:(Region.noSelect ops&&Qav ops)=true)
  (hq:((dqs P ⟨[],[]⟩ C.n ops is li.toArray (q0 l)).bind λx=>(qfin l (nl.map Prod.fst) x.2).map λy=>(x.1.toList,y))=some (li',[],nl))
  (N:(dqs P ⟨[],[]⟩ C.n ops is li.toArray (q0 l)).map (λs=>s.2.q.map Prod.fst)=(dqs P ⟨[],[]⟩ C.n ops is li.toArray (q0 l)).map (λs=>s.2.q.map Prod.snd)):AH r P ops Q Hq m g li C l H:=λa w hf hh=>by
 subst hg;cases I:dqs P ⟨[],[]⟩ C.n ops is li.toArray (q0 l)with
 |none=>rw[I]at hq;cases hq
 |some x=>
  obtain⟨li1,s'⟩:=x;rw[I]at hq N;have hq:((qfin l (nl.map Prod.fst) s').map λy=>(li1.toList,y))=some (li',[],nl):=hq;have N:s'.q.map Prod.fst=s'.q.map Prod.snd:=by injection N
  cases E:qfin l (nl.map Prod.fst) s' with
  |none=>rw[E]at hq;cases hq
  |some y=>
   obtain⟨cs1,nl1⟩:=y;rw[E]at hq;simp only[Wg,Qz,Yr]at hq;obtain⟨h1,h2,h3⟩:=hq;subst h1;have L:=E;rw[h2,h3]at L;have V:s'.c=[]:=by rw[<-h2];unfold qfin at E;split at E;(injection E with E;injection E);cases E
   have W: ∀w',Kn.ok ⟨[],[]⟩ w':=λw'=>by refine⟨?_,?_⟩<;>intro x hx<;>cases hx
   exact Qho hn hQ (K:=⟨[],[]⟩) (bb:=λi=> !(Nat.beq i m)) (λi hi o ho=>⟨λe=>by subst e;simp at hi,.inr W⟩) (hS w hh) (clo_of O) hb I (by rw[V];intro p hp;cases hp) (Qcw N) (o_cx hf) λa' hok=>by
    have:=h a' w (Qkw hok (Qjn (q0_inv l) I) L).1 hh;rwa[W5]at this
def AH.qp (I:Pq Q)(gs:List Nat)(li':List Bool)(f:Nat)(is:List (Nat×Hint))(nl:List (Nat×Value)){g:Nat}(h:AH r P ops Q Hq m f li' C (cat nl l) H)
  (L:g=f+is.length:=by rfl) (N:is.all (λp=> !(Nat.beq p.1 m))=true:=by kernel_rfl) (E:cloB ops li.toArray=true:=by kernel_rfl) (O:(Region.noSelect ops&&Qav ops)=true:=by kernel_rfl)
  (hq:((dqs P ⟨[],[]⟩ C.n ops is li.toArray (q0 l)).bind λx=>(qfin l (nl.map Prod.fst) x.2).map λy=>(x.1.toList,y))=some (li',[],nl):=by kernel_rfl)
  (V:(dqs P ⟨[],[]⟩ C.n ops is li.toArray (q0 l)).map (λs=>s.2.q.map Prod.fst)=(dqs P ⟨[],[]⟩ C.n ops is li.toArray (q0 l)).map (λs=>s.2.q.map Prod.snd):=by kernel_rfl)
  (e:kpH H gs gs=Hq:=by kernel_rfl):AH r P ops Q Hq m g li C l H:=AH.qc I (λw W _=>W.cov gs e) li' f is nl h L N E O hq V
def AH.done {Y:Exit->Act->World->Prop}{K:List Kx}(h:AE r P Y K .normal C l H)(E:Region.ready .any ops li.toArray=[]:=by kernel_rfl):AH r P ops (kont r P Y K) Hq m f li C l H:=λa w I L=>by
 cases f with
 |zero=>exact⟨E,h a w I L⟩
 |succ f=>exact⟨λ_=>h a w I L,by rw[E];simp⟩
def cov {X:Act->World->Prop}{l':List (Nat×Value)}{H':List (Nat×Res)}(gs:List Nat)(h: ∀a w,Fr a C.n C.ds l'->Hp C H' w->X a w)(E:kp l (l'.map (·.1))=l':=by kernel_rfl)(I:kpH H gs gs=H':=by kernel_rfl): ∀a w,Fr a C.n C.ds l->Hp C H w->X a w:=λa w L N=>h a w (Fr.cov L E) (N.cov gs I)
end
def peek {C:Cx}{H:List (Nat×Res)}{w:World}(hh:Hp C H w)(k kn:Nat){t:Ty}{A:Option Addr}{c:Nat}{xs:List t.den}{i:Int}{v:t.den}(hi:ix xs i=some v)(hrow: ∀w,Hp C H w->∃G:Nat->Prop,Row t w (Fh C H) G A c xs/\∀b,G b->∀k,¬Bk H k b)(N:nok H kn (1+lv t)=true):
  ∃ps:Lf,ps.length=lv t/\t.ok v/\∃b o,A=some ⟨b,o,none⟩/\Hp C (hcat (kx (kn+1) (rs t v ps)) ((kn,.el none b (o+i.toNat*t.size) (cl t v ps))::H)) w:=by
 obtain⟨k,rfl,hv⟩:=Qas hi;obtain⟨G,hR,hG⟩:=hrow w hh;obtain⟨b,o,es,hA,hb,O,hc,hr⟩:=hR.at hv;obtain⟨ps,hl,rfl,V⟩:=rep_cl (B:=Bk H) t (Qaf t hr);have L:hk H kn=none:=Qbw N (Qt _) (by omega);have h1:Hp C ((kn,.el none b (o+k*t.size) (cl t v ps))::H) w:=hh.add L rfl (λj E=>by cases E) ⟨hc,O,hG b hb⟩;have W: ∀n k',nok H k' n=true->(∀j,k'<=j->j<k'+n->j≠kn)->nok ((kn,.el none b (o+k*t.size) (cl t v ps))::H) k' n=true:=by
  intro n;induction n with
  |zero=>intro _ _ _;rfl
  |succ n ih=>
   intro k' h2 h3;simp only[nok,Qo]at h2 ⊢;refine⟨?_,ih (k'+1) h2.2 λj h4 h5=>h3 j (by omega) (by omega)⟩;rw[Qaa,Qb (Ne.symm (h3 k' (Qt _) (by omega)))];exact h2.1
 have hn2:nok H (kn+1) (rs t v ps).length=true:=by
  rw[Qdl t v ps hl];rw[Jl 1]at N;simp only[nok,Qo]at N;exact N.2
 refine⟨ps,hl,rep_ok t hr,b,o,hA,?_⟩;rw[Qv];refine h1.adds (W _ _ hn2 λj h4 _=>by omega) λr2 h4=>?_;obtain⟨h5,h6,h7⟩:=V r2 h4;have I: ∀j b',Bk ((kn,.el none b (o+k*t.size) (cl t v ps))::H) j b'↔Bk H j b':=λj b'=>by
  by_cases E:j=kn;subst E;rw[Bk.cons_eq];exact⟨λh=>by simp[Res.bl]at h,λ⟨_,h8,_⟩=>by rw[L]at h8;cases h8⟩;exact Bk.cons_ne E
 exact⟨h6,h7,Res.to h5 (S:=[]) (Ch.refl w) (λb' hF _=>⟨by simp,⟨λj E=>hF.1.1 j ((I j b').1 E),hF.1.2⟩,hF.2⟩) (λb' hB _=>⟨by simp,λj E=>hB j ((I j b').1 E)⟩) (λi b' _ hB=>⟨by simp,(I i b').2 hB⟩) (by simp)⟩
def Hp.blk {C:Cx}{H:List (Nat×Res)}{w:World}{g:Nat}{e:TypeId}{cs:List Value}(E:Hp C H w)(k:Nat)(h:hk H k=some (.blk g e cs):=by rfl):Blk w g e cs:=E.hold k _ h
def FU:Nat:=340282366920938463463374607431768211456
def gd {α:Type}(p:Prop)[Decidable p](x:Option α):Option α:=if p then x else none
def gd_some {α:Type}{p:Prop}[Decidable p]{x:Option α}{y:α}(h:gd p x=some y):p/\x=some y:=by
 unfold gd at h;split at h;exact⟨‹p›,h⟩;cases h
def bd_some {α β:Type}{x:Option α}{f:α->Option β}{y:β}(h:x.bind f=some y): ∃v,x=some v/\f v=some y:=Jj.1 h
def no0 {α:Type}{y:α}{p:Prop}(h:(none:Option α)=some y):p:=by cases h
def ix_nat {α:Type}(xs:List α)(k:Nat):ix xs (k:Int)=xs[k]?:=by unfold ix;rw[Qb (by omega),Qv]
def o_c1 {α:Type}{xs:List α}{i:Int}{x:α}(h:ix xs i=some x):0<=i/\i<xs.length:=by
 obtain⟨k,rfl,E⟩:=Qas h;have:=(Qd.1 E).1;omega
instance (k:IntKind) (n:Int):Decidable (k.has n):=by unfold IntKind.has;infer_instance
def hasl (k:IntKind)(n:Int)(h:decide (k.has n)=true):k.has n:=Wb h
def has_len {α:Type}{xs:List α}(h:xs.length<=maxLen):IntKind.i64.has (xs.length:Int):=Z.i64_has (by simp only[maxLen]at h;omega)
def has_nat {n:Nat}(h:n<=maxLen):IntKind.i64.has (n:Int):=Z.i64_has (by simp only[maxLen]at h;omega)
def has_min {k:IntKind}{a b:Int}(E:k.has a)(I:k.has b):k.has (min a b):=by
 rcases Int.le_total a b with h|h
 rw[Jv h];exact E;rw[Js h];exact I
section
variable {X:Act->World->Prop}{C:Cx}{l:List (Nat×Value)}{H:List (Nat×Res)}
def nil (k:Nat)(t:Ty)(e:TypeId)(h: ∀a w,Fr a C.n C.ds l->Hp C ((k,.own t e none 0 [])::H) w->X a w)(E:hk H k=none:=by kernel_rfl): ∀a w,Fr a C.n C.ds l->Hp C H w->X a w:=λa w I L=>
 h a w I (L.add E rfl (λj N=>by cases N) (Own.nil t e 0 w _))
def snil (k:Nat)(t:Ty)(h: ∀a w,Fr a C.n C.ds l->Hp C ((k,.sh (.slice t) [.slice none 0 0] [])::H) w->X a w)(E:hk H k=none:=by kernel_rfl): ∀a w,Fr a C.n C.ds l->Hp C H w->X a w:=λa w I L=>
 h a w I (L.add E rfl (λj N=>by cases N) (Qgk t))
def frz (k:Nat)(js:List Nat){t:Ty}{e:TypeId}{A:Option Addr}{c:Nat}{xs:List t.den}(h: ∀a w,Fr a C.n C.ds l->Hp C ((k,.sh (.slice t) [.slice A xs.length c] xs)::ded js H) w->X a w)(E:hk H k=some (.own t e A c xs):=by rfl)(I:hng [k] js H=true:=by kernel_rfl): ∀a w,Fr a C.n C.ds l->Hp C H w->X a w:=λa w L N=>h a w L (Hp.dd (N.frz E) I)
def oko (k:Nat){t:Ty}{e:TypeId}{A:Option Addr}{c:Nat}{xs:List t.den}(h:(Ty.slice t).ok xs->∀a w,Fr a C.n C.ds l->Hp C H w->X a w)(E:hk H k=some (.own t e A c xs):=by rfl): ∀a w,Fr a C.n C.ds l->Hp C H w->X a w:=λa w N L=>by
 obtain⟨G,I,_⟩:=rowO E w L;exact h ⟨Wq I.1 I.2.1,I.ok⟩ a w N L
def cst (d:Nat){v v':Value}(e:v=v')(h: ∀a w,Fr a C.n C.ds ((d,v')::l)->Hp C H w->X a w)(I:lk l d=some v:=by rfl): ∀a w,Fr a C.n C.ds l->Hp C H w->X a w:=λa w E L=>h a w (E.cons E (by rw[I,e])) L
def Hp.mv {w:World}(L:Hp C H w){k k2:Nat}{r:Res}(h1:hk H k=some r)(hne:k2≠k)(h2: ∀u,hk H k2=some u->u=.dead)(hr:r.ref=none):Hp C ((k2,r)::(k,.dead)::drp k H) w:=by
 have hd:Hp C ((k,.dead)::drp k H) w:=L.upd (S:=[]) (Ch.refl w) (by simp) (by simp[Res.bl]) (λj E=>by cases E) λ_ _ _ _ _ _ _=>trivial;have V: ∀j b,Bk ((k2,r)::(k,.dead)::drp k H) j b->(j=k2/\b∈r.bl)\/(j≠k2/\j≠k/\Bk H j b):=λj b ⟨r2,I,W⟩=>by
  rw[Qaa]at I;split at I;rename_i e;injection I with I;subst I;exact .inl ⟨e.symm,W⟩
  rename_i hn;rw[Qaa]at I;split at I;injection I with I;subst I;cases W
  rename_i hn2;rcases Qcg k H j r2 I with rfl|⟨N,_⟩
  cases W;exact .inr ⟨Ne.symm hn,Ne.symm hn2,r2,N,W⟩
 have hnb: ∀b,(∀j,¬Bk H j b)->∀j,¬Bk ((k2,r)::(k,.dead)::drp k H) j b:=λb hB j E=>by
  rcases V j b E with⟨_,I⟩|⟨_,_,I⟩
  exact hB k ⟨r,h1,I⟩;exact hB j I
 refine⟨L.ch,λj r2 E=>?_,λj b E=>?_,λj j' b E hj'=>?_,λj r2 i E hri=>?_⟩;rw[Qaa]at E;split at E;injection E with E;subst E
 exact Res.to (L.hold k r h1) (S:=[]) (Ch.refl w) (λb hF _=>⟨by simp,hnb b hF.1,hF.2⟩) (λb hB _=>⟨by simp,hnb b hB⟩) (λi b hi _=>by rw[hr]at hi;cases hi) (by simp);rename_i hn;rw[Qaa]at E;split at E;injection E with E;subst E;trivial
 rename_i hn2;rcases Qcg k H j r2 E with rfl|⟨N,h6⟩
 trivial;refine Res.to (L.hold j r2 N) (S:=[]) (Ch.refl w) (λb hF _=>⟨by simp,hnb b hF.1,hF.2⟩) (λb hB _=>⟨by simp,hnb b hB⟩) (λi b hi hB=>⟨by simp,?_⟩) (by simp);obtain⟨r3,O,h8⟩:=hB;have hik:i≠k:=λe=>h6 (by rw[hi,e]);have hik2:i≠k2:=λe=>by subst e;rw[h2 _ O]at h8;cases h8
 refine⟨r3,?_,h8⟩;rw[Qaa,Qb (Ne.symm hik2),Qaa,Qb (Ne.symm hik)];exact Qey O (by rw[(L.ref j r2 i N hi).2 r3 O];simp);rcases V j b E with⟨_,I⟩|⟨_,_,I⟩
 exact L.bnd k b ⟨r,h1,I⟩;exact L.bnd j b I;rcases V j b E with⟨I,W⟩|⟨_,I,W⟩<;>rcases V j' b hj' with⟨N,h6⟩|⟨_,N,h6⟩
 rw[I,N];exact absurd (L.dis k j' b ⟨r,h1,W⟩ h6) (Ne.symm N);exact absurd (L.dis k j b ⟨r,h1,h6⟩ W) (Ne.symm I);exact L.dis j j' b W h6;rw[Qaa]at E;split at E;injection E with E;subst E;rw[hr]at hri;cases hri
 rename_i hn;obtain⟨N,h6⟩:=hd.ref j r2 i E hri;refine⟨N,λr3 O=>?_⟩;rw[Qaa]at O;split at O;injection O with O;subst O;exact hr
 exact h6 r3 O
def mv (k L:Nat)(js:List Nat){r:Res}(h: ∀a w,Fr a C.n C.ds l->Hp C ((L,r)::(k,.dead)::ded js H) w->X a w)(E:hk H k=some r:=by rfl)(O:r.ref=none:=by rfl)(I:hk H L=none:=by kernel_rfl)(V:hng [k] js H=true:=by kernel_rfl): ∀a w,Fr a C.n C.ds l->Hp C H w->X a w:=λa w W hh=>h a w W (Hp.dd2 (hh.mv E (λe=>by subst e;rw[E]at I;cases I) (λu N=>by rw[I]at N;cases N) O) V)
def gone (H:List (Nat×Res))(k:Nat):Bool:=match hk H k with
 |none=>true
 |some .dead=>true
 |_=>false
def mvd (k I:Nat)(js:List Nat){r:Res}(h: ∀a w,Fr a C.n C.ds l->Hp C ((I,r)::(k,.dead)::ded js H) w->X a w)(L:hk H k=some r:=by rfl)(O:r.ref=none:=by rfl)(E:Nat.beq I k=false:=by rfl)(N:gone H I=true:=by kernel_rfl)(V:hng [k] js H=true:=by kernel_rfl): ∀a w,Fr a C.n C.ds l->Hp C H w->X a w:=λa w W hh=>h a w W (Hp.dd2 (hh.mv L (λe=>by rw[e,Ye]at E;cases E) (λu hu=>by
 unfold gone at N;rw[hu]at N;cases u<;>first|rfl|cases N) O) V)
end
section
variable {r:Option Nat}{P:Program}{ops:Array Oper}{Q:Exit->Act->World->Prop}{C:Cx}{l:List (Nat×Value)}{H Hq:List (Nat×Res)}{m f:Nat}{li:List Bool}
def AH.cnd {ρ:Type}{A B R:Option ρ}{j:Nat}{b:Bool}(L:lk l j=some (.bool b))(E:(if b=true then A else B)=R)(O:A=R->AH r P ops Q Hq m f li C ((j,.bool true)::l) H)(V:B=R->AH r P ops Q Hq m f li C ((j,.bool false)::l) H):AH r P ops Q Hq m f li C l H:=λa w I N=>by
 cases b with
 |true=>rw[Qc rfl]at E;exact O E a w (I.cons I L) N
 |false=>rw[Qb (by simp)]at E;exact V E a w (I.cons I L) N
def AH.cnp {ρ:Type}{A B R:Option ρ}{j:Nat}{p:Prop}[Decidable p](L:lk l j=some (.bool (decide p)))(E:(if p then A else B)=R)(O:p->A=R->AH r P ops Q Hq m f li C ((j,.bool true)::l) H)(V: ¬p->B=R->AH r P ops Q Hq m f li C ((j,.bool false)::l) H):AH r P ops Q Hq m f li C l H:=λa w I N=>by
 by_cases hp:p;rw[Qc hp]at E;exact O hp E a w (I.cons I (by rw[L,Qr hp])) N;rw[Qb hp]at E;exact V hp E a w (I.cons I (by rw[L,Q7 hp])) N
def AH.pks (k kn:Nat){t:Ty}{A:Option Addr}{c:Nat}{xs:List t.den}{i:Int}{v:t.den}(L:ix xs i=some v)(h:t.ok v->tele (lv t) λps=>∀b o,A=some ⟨b,o,none⟩->AH r P ops Q Hq m f li C l (hcat (kx (kn+1) (rs t v ps)) ((kn,.el none b (o+i.toNat*t.size) (cl t v ps))::H)))
  (E:hk H k=some (.sh (.slice t) [.slice A xs.length c] xs):=by rfl) (N:nok H kn (1+lv t)=true:=by kernel_rfl):AH r P ops Q Hq m f li C l H:=λa w O V=>by
 obtain⟨ps,W,I,b,o,hA,h2⟩:=peek V k kn L (rowS E) N;exact Qbb (h I) ps W b o hA a w O h2
def AH.pkl (k kn:Nat){t:Ty}{A:Option Addr}{c:Nat}{xs:List t.den}{i:Int}{v:t.den}(L:ix xs i=some v)(h:t.ok v->tele (lv t) λps=>∀b o,A=some ⟨b,o,none⟩->AH r P ops Q Hq m f li C l (hcat (kx (kn+1) (rs t v ps)) ((kn,.el none b (o+i.toNat*t.size) (cl t v ps))::H)))
  (E:hk H k=some (.ln t A c xs):=by rfl) (N:nok H kn (1+lv t)=true:=by kernel_rfl):AH r P ops Q Hq m f li C l H:=λa w O V=>by
 obtain⟨ps,W,I,b,o,hA,h2⟩:=peek V k kn L (rowL E) N;exact Qbb (h I) ps W b o hA a w O h2
def AH.pko (k kn:Nat){t:Ty}{e:TypeId}{A:Option Addr}{c:Nat}{xs:List t.den}{i:Int}{v:t.den}(hi:ix xs i=some v)(h:t.ok v->tele (lv t) λps=>∀g,A=some ⟨g,0,none⟩->AH r P ops Q Hq m f li C l (hcat (kx (kn+1) (rs t v ps)) ((kn,.el (some k) g (i.toNat*t.size) (cl t v ps))::H)))
  (I:hk H k=some (.own t e A c xs):=by rfl) (hn:nok H kn (1+lv t)=true:=by kernel_rfl):AH r P ops Q Hq m f li C l H:=λa w hf hh=>by
 obtain⟨k',rfl,W⟩:=Qas hi;obtain⟨G,hR,hG⟩:=rowO I w hh;obtain⟨b,o,es,hA,hb,hbl,hc,L⟩:=hR.at W;have ho:o=0:=by
  obtain⟨cells,hrow,_⟩:Own t e 0 w (Fh C H) A c xs:=hh.hold k _ I;rcases hrow.2 with⟨W,_⟩|⟨g,cap,cur,W,_⟩
  injection W with hA' _ _;rw[hA]at hA';cases hA'
  injection W with hA' _ _;rw[hA]at hA';injection hA' with hA';injection hA' with _ V _
 subst ho;rw[Xc]at hc;obtain⟨ps,hl,rfl,hrs⟩:=rep_cl (B:=Bk H) t (Qaf t L);have hnk:hk H kn=none:=Qbw hn (Qt _) (by omega);have h1:Hp C ((kn,.el (some k) b (k'*t.size) (cl t v ps))::H) w:=hh.add hnk rfl (λj E r L=>by injection E with E;subst E;rw[I]at L;injection L with L;subst L;rfl) ⟨hc,hbl,hG b hb⟩;have hn2:nok H (kn+1) (rs t v ps).length=true:=by
  rw[Qdl t v ps hl];rw[Jl 1]at hn;simp only[nok,Qo]at hn;exact hn.2
 have hnn: ∀n N,nok H N n=true->(∀j,N<=j->j<N+n->j≠kn)->nok ((kn,.el (some k) b (k'*t.size) (cl t v ps))::H) N n=true:=by
  intro n;induction n with
  |zero=>intro _ _ _;rfl
  |succ n ih=>
   intro N V h3;simp only[nok,Qo]at V ⊢;refine⟨?_,ih (N+1) V.2 λj h4 h5=>h3 j (by omega) (by omega)⟩;rw[Qaa,Qb (Ne.symm (h3 N (Qt _) (by omega)))];exact V.1
 have V:Hp C (hcat (kx (kn+1) (rs t v ps)) ((kn,.el (some k) b (k'*t.size) (cl t v ps))::H)) w:=by
  refine h1.adds (hnn _ _ hn2 λj h4 _=>by omega) λr2 h4=>?_;obtain⟨h5,h6,h7⟩:=hrs r2 h4;have O: ∀j b',Bk ((kn,.el (some k) b (k'*t.size) (cl t v ps))::H) j b'↔Bk H j b':=λj b'=>by
   by_cases E:j=kn;subst E;rw[Bk.cons_eq];exact⟨λh=>by simp[Res.bl]at h,λ⟨_,h8,_⟩=>by rw[hnk]at h8;cases h8⟩;exact Bk.cons_ne E
  exact⟨h6,h7,Res.to h5 (S:=[]) (Ch.refl w) (λb' hF _=>⟨by simp,⟨λj E=>hF.1.1 j ((O j b').1 E),hF.1.2⟩,hF.2⟩) (λb' hB _=>⟨by simp,λj E=>hB j ((O j b').1 E)⟩) (λi b' _ hB=>⟨by simp,(O i b').2 hB⟩) (by simp)⟩
 exact Qbb (h (rep_ok t L)) ps hl b hA a w hf (by rw[Qv];exact V)
def r_ixo {a:Act}{w:World}{d:Option Tmp}{T:TypeId}{pos:String}{af:Array Edge}{n:Nat}{ds:List Deferred}{tt e:TypeId}{x y:Operand}{A:Option Addr}{b c:Nat}{t:Ty}{xs:List t.den}{i:Int}{kd:IntKind}{v:t.den}(I:ix xs i=some v)(L:A=some ⟨b,0,none⟩)(E:Fr a n ds l)
  (N:ev l x=some (.slice A xs.length c):=by rfl) (O:ev l y=some (.int kd i):=by rfl) (V:P.underlying tt=some (.slice e):=by rfl) (hs:szB P e=some t.size:=by kernel_rfl):(execOp a.eval ⟨d,.indexAddr tt x y,T,pos,af,none⟩).run P w=.ok (.value (.pointer (some ⟨b,i.toNat*t.size,none⟩))) w:=by
 obtain⟨k,rfl,W⟩:=Qas I;have:=r_indexAddrA (P:=P) (w:=w) (d:=d) (T:=T) (pos:=pos) (af:=af) (gd:=none) V (Qak hs) (E.eval N) L (E.eval O) rfl (Qd.1 W).1;rw[Addr.add_lit,Xc]at this;exact this
def r_ixt {a:Act}{w:World}{d:Option Tmp}{T:TypeId}{pos:String}{af:Array Edge}{n:Nat}{ds:List Deferred}{tt:TypeId}{x y:Operand}{s:ByteArray}{kd:IntKind}{i:Int}{v:UInt8}(N:ix s.data.toList i=some v)(I:Fr a n ds l)(O:P.underlying tt=some .string:=by rfl)(V:ev l x=some (.string s):=by rfl)(W:ev l y=some (.int kd i):=by rfl):
  (execOp a.eval ⟨d,.index tt x y,T,pos,af,none⟩).run P w=.ok (.value (.int .u8 (v.toNat:Int))) w:=by
 obtain⟨k,rfl,L⟩:=Qas N;have E:=(Qd.1 L).1;have:=r_indexStr (P:=P) (w:=w) (d:=d) (T:=T) (pos:=pos) (af:=af) (gd:=none) O (I.eval V) (I.eval W) rfl (show k<s.size from E);rw[this];have hb:bat s k=v:=by
  unfold bat;rw[Wv,<-Xz,L];rfl
 rw[hb]
def r_ixa {a:Act}{w:World}{d:Option Tmp}{T:TypeId}{pos:String}{af:Array Edge}{n:Nat}{ds:List Deferred}{tt e:TypeId}{x y:Operand}{A:Option Addr}{b o c:Nat}{t:Ty}{xs:List t.den}{i:Int}{kd:IntKind}{v:t.den}(I:ix xs i=some v)(L:A=some ⟨b,o,none⟩)(E:Fr a n ds l)
  (N:ev l x=some (.slice A xs.length c):=by rfl) (O:ev l y=some (.int kd i):=by rfl) (V:P.underlying tt=some (.slice e):=by rfl) (hs:szB P e=some t.size:=by kernel_rfl):(execOp a.eval ⟨d,.indexAddr tt x y,T,pos,af,none⟩).run P w=.ok (.value (.pointer (some ⟨b,o+i.toNat*t.size,none⟩))) w:=by
 obtain⟨k,rfl,W⟩:=Qas I;have:=r_indexAddrA (P:=P) (w:=w) (d:=d) (T:=T) (pos:=pos) (af:=af) (gd:=none) V (Qak hs) (E.eval N) L (E.eval O) rfl (Qd.1 W).1;rw[Addr.add_lit]at this;exact this
end
def lt {α β:Type}(x:α)(f:α->Option β):Option β:=f x
def lt_some {α β:Type}{x:α}{f:α->Option β}{y:β}(h:lt x f=some y): ∃v,x=v/\f v=some y:=⟨x,rfl,h⟩
def seen_lt: ∀{n:Nat} {sn:List Nat},sn.Nodup->(∀i∈sn,i<n)->sn.length<=n
 |0,sn,_,E=>by
  cases sn with
  |nil=>simp
  |cons a l=>exact absurd (E a (Qi ..)) (by omega)
 |n+1,sn,I,E=>by
  have L:(sn.erase n).length<=n:=seen_lt (I.erase n) λi O=>by
   have V:=List.Nodup.mem_erase_iff I |>.1 O;have:=E i V.2;omega
  by_cases N:n∈sn;rw[List.length_erase_of_mem N]at L;omega;rw[List.erase_of_not_mem N]at L;omega
def seen_all {α β:Type}{m:List α}{sn:List Nat}{body:α->Option (Option β)}(h: ∀i∈sn,∀p,m[i]?=some p->body p=some none)(I: ∀i,i<m.length->i∈sn): ∀x∈m,body x=some none:=λx L=>by
 obtain⟨i,E,rfl⟩:=Yi L;exact h i (I i E) _ (Qg E)
def seen_cons {α β:Type}{m:List α}{sn:List Nat}{body:α->Option (Option β)}{i:Nat}{p:α}(h: ∀i∈sn,∀p,m[i]?=some p->body p=some none)(hp:m[i]?=some p)(L:body p=some none): ∀j∈i::sn,∀p,m[j]?=some p->body p=some none:=λj I x E=>by
 rcases Qk.1 I with rfl|I
 rw[hp]at E;injection E with E;subst E;exact L
 exact h j I x E
def seen_bd {α:Type}{m:List α}{sn:List Nat}{i:Nat}{p:α}(h: ∀i∈sn,i<m.length)(hp:m[i]?=some p): ∀j∈i::sn,j<m.length:=λj E=>by
 rcases Qk.1 E with rfl|E
 exact(Qd.1 hp).1;exact h j E
def seen_f {n f:Nat}{sn:List Nat}{i:Nat}(E:sn.Nodup)(I: ∀j∈i::sn,j<n)(L:i∉sn)(N:f+sn.length=n+1):f-1<f/\(f-1)+(i::sn).length=n+1:=by
 have:=seen_lt (Wm.2 ⟨L,E⟩) I;simp only[Qe]at this ⊢;omega
def om {α β:Type}(x:Option α)(a:Option β)(f:α->Option β):Option β:=match x with
 |none=>a
 |some p=>f p
def om_n {α β:Type}{x:Option α}{a:Option β}{f:α->Option β}(h:x=none):om x a f=a:=by rw[h];rfl
def om_s {α β:Type}{x:Option α}{a:Option β}{f:α->Option β}{p:α}(h:x=some p):om x a f=f p:=by rw[h];rfl
def mrg {α β:Type}[DecidableEq β](body:α->Option (Option β))(rest:Option β):List α->Option β
 | []=>rest
 |x::l=>(body x).bind λq=>match q with
  |none=>mrg body rest l
  |some y=>if l.all (λz=>decide (body z=some none\/body z=some (some y)))then some y else none
def mrg_all {α β:Type}[DecidableEq β]{body:α->Option (Option β)}{rest:Option β}{r:β}: ∀{l:List α},mrg body rest l=some r->(∀x∈l,∃q,body x=some q/\(q=none\/q=some r))/\((∀x∈l,body x=some none)->rest=some r)
 | [],h=>⟨by simp,λ_=>h⟩
 |x::l,h=>by
  unfold mrg at h;obtain⟨q,hq,h⟩:=bd_some h;cases q with
  |none=>
   obtain⟨N,O⟩:=mrg_all (l:=l) h;refine⟨λz E=>?_,λI=>O λz E=>I z (Qf _ E)⟩;rcases Qk.1 E with rfl|E
   exact⟨none,hq,.inl rfl⟩;exact N z E
  |some y=>
   simp only[]at h;split at h;rename_i hall;injection h with h
   subst h;refine⟨λz E=>?_,λI=>?_⟩;rcases Qk.1 E with rfl|E
   exact⟨some y,hq,.inr rfl⟩;rcases Wb (Wd.1 hall z E)with L|L
   exact⟨_,L,.inl rfl⟩;exact⟨_,L,.inr rfl⟩;have:=I x (Qi ..);rw[hq]at this;injection this with this
   cases this;cases h
section
variable {P:Program}{w:World}
def Qhu {g b m:Nat}{seen:List Nat}{es:List (Value×Value)}{ty:TypeId}(hr:Rg w g b m seen)(hm:MapC w b es):
  ((∀i,i<m->i∈seen)/\(Instr.next (.pointer (some ⟨g,0,none⟩)) false ty).run P w=.ok (.tuple #[.bool false]) w)\/
  ∃i k v w',i<m/\i∉seen/\es[i]?=some (k,v)/\(Instr.next (.pointer (some ⟨g,0,none⟩)) false ty).run P w=.ok (.tuple #[.bool true,k,v]) w'/\Ch [g] w w'/\w'.heap.size=w.heap.size/\Rg w' g b m (i::seen)/\Lst w' g b k v:=by
 obtain⟨N,arr,clock,since,sb,hb,hlen,hg,hsc,hold,O,hseen⟩:=hr;obtain⟨arr',clock',hb',hes,_,_⟩:=hm;rw[hb]at hb';injection hb' with hb';injection hb' with hb' _
 have hb':=List.toArray_inj hb';subst hb';have hgl:=(Qp.1 hg).1;have hgetg:(getObj g).run P w=.ok (.mapIter (some b) since sb.toArray since) w:=by simp[getObj,Sem.run,hg]
 have hgetb:(getObj b).run P w=.ok (.map arr.toArray clock) w:=by simp[getObj,Sem.run,hb]
 have htest:=next_test_false sb.toArray arr.toArray since since (by simpa using hold) (Qt _);obtain⟨L,hL⟩: ∃L,L=arr.toArray.filter λe=> !sb.toArray.contains e.born:=⟨_,rfl⟩;have hLm: ∀e,e∈L.toList↔e∈arr/\e.born∉sb:=λe=>by rw[hL];simp
 have e1:L.filter (λx=>decide (x.born<since))=L:=Array.filter_eq_self.2 (λx hx=>by have:=(hLm x).1 (by simpa using hx);simpa using hold x this.1);have e2:L.filter (λx=>decide (x.born≥since))=#[]:=by
  rw[Array.filter_eq_empty_iff];intro x hx;have:=hold x ((hLm x).1 (by simpa using hx)).1;simp;omega
 by_cases h0:L.size=0
 ·left
  have hLe:L=#[]:=Array.eq_empty_of_size_eq_zero h0;refine⟨λi I=>?_,?_⟩;obtain⟨e,he⟩: ∃e,arr[i]?=some e:=⟨_,Qg (by omega)⟩;refine(hseen i e he).1 (Classical.byContradiction λhn=>?_);have:=(hLm e).2 ⟨Qj he,hn⟩;rw[hLe]at this;simp at this
  ·simp only[Instr.next,Sem.run_bind,hgetg,Result.andThen_ok,hgetb,htest,Qx,Wa,<-hL,e1,e2,Array.append_empty]
   rw[hLe];simp[Question.forced]
 ·right
  have hie:L.isEmpty=false:=by simp[Array.isEmpty,h0]
  have hj: ∃j,j<L.size/\∃E:World,(choose (.mapNext L.size)).run P w=.ok j E/\(E=w\/E=w.drew):=by
   rw[run_choose_drew];by_cases hfo:(Question.mapNext L.size).forced=true;rw[Qc hfo];exact⟨0,by omega,w,rfl,.inl rfl⟩;rw[Qb hfo];exact⟨_,Nat.mod_lt _ (by omega),_,rfl,.inr rfl⟩
  obtain⟨j,V,E,hch,hw1⟩:=hj;obtain⟨e,he⟩: ∃e,L[j]?=some e:=⟨_,Wp V⟩;have heL:e∈L.toList:=by have:=Qj (l:=L.toList) (i:=j) (by rw[Xz];exact he);exact this
  obtain⟨hea,hen⟩:=(hLm e).1 heL;obtain⟨i,I⟩:=W7.1 hea;have hil:=(Qd.1 I).1;have hheap:E.heap=w.heap:=by rcases hw1 with rfl|rfl<;>rfl
  have hc1:Ch [] w E:=by rcases hw1 with rfl|rfl;exact Ch.refl _;exact Ch.drew _
  have hset:(setObj g (.mapIter (some b) since (sb.toArray.push e.born) clock)).run P E=.ok () (E.putObj g (.mapIter (some b) since (sb.toArray.push e.born) clock)):=by
   simp[setObj,Sem.run,World.putObj,hheap,hg]
  refine⟨i,e.key,e.val,E.putObj g (.mapIter (some b) since (sb.toArray.push e.born) clock),by omega,λhs=>hen ((hseen i e I).2 hs),by rw[<-hes,Qq,I];rfl,?_,hc1.then (Ch.putObj E g _),by simp[hheap],⟨N,arr,clock,since,sb++[e.born],?_,hlen,?_,hsc,hold,O,?_⟩,?_⟩
  ·simp only[Instr.next,Sem.run_bind,hgetg,Result.andThen_ok,hgetb,htest,Qx,Wa,<-hL,e1,e2,hie,Array.append_empty,Array.empty_append,Array.size_map,hch,Array.getElem?_map,he,Wg,hset,Sem.run_pure]
  rw[World.putObj_heap_other (λh=>N h.symm),hheap];exact hb;rw[World.putObj_heap_same (by rw[hheap];exact hgl)];subst hsc;simp;intro i' e' he';rw[Q2,Qn,Qk,hseen i' e' he'];constructor;rintro(h|h);exact .inr h;left;have hi'l:=(Qd.1 he').1;have:=(List.getElem_inj O (i:=i') (j:=i) (h₀:=by simpa using hi'l) (h₁:=by simpa using hil)).1 (by
   simp only[List.getElem_map];rw[(Qd.1 he').2,(Qd.1 I).2];exact h)
  exact this;rintro(h|h);right;subst h;rw[I]at he';injection he' with he';rw[he']
  exact .inl h;have h1:=World.putObj_heap_same (w:=E) (r:=g) (o:=.mapIter (some b) since (sb.toArray.push e.born) clock) (by rw[hheap];exact hgl);have h2:(E.putObj g (.mapIter (some b) since (sb.toArray.push e.born) clock)).heap[b]?=some (.map arr.toArray clock):=by rw[World.putObj_heap_other (λh=>N h.symm),hheap];exact hb
  have hf:arr.find? (·.born==e.born)=some e:=by
   cases W:arr.find? (·.born==e.born)with
   |none=>have:=List.find?_eq_none.1 W e hea;simp at this
   |some e2=>
    have h3:=List.find?_some W;obtain⟨j,hj⟩:=W7.1 (List.mem_of_find?_eq_some W);have V:=(Qd.1 hj).1;have:=(List.getElem_inj O (i:=j) (j:=i) (h₀:=by simpa using V) (h₁:=by simpa using hil)).1 (by
     simp only[List.getElem_map];rw[(Qd.1 hj).2,(Qd.1 I).2];simpa using h3)
    subst this;rw[I]at hj;exact hj.symm
  exact⟨since,clock,e.born,sb.toArray,arr,e,h1,h2,hf,rfl,rfl⟩
end
section
variable {r:Option Nat}{P:Program}{ops:Array Oper}{Q:Exit->Act->World->Prop}{rest lst:List Oper}{C:Cx}{l:List (Nat×Value)}{H:List (Nat×Res)}{d:Nat}{op:Op}{T:TypeId}{pos:String}{af:Array Edge}
variable {κ:Type}[DecidableEq κ]{enc:κ->Value}{kt et tt:TypeId}{t:Ty}{agg:Bool}{b:Nat}{m:List (κ×t.den)}
def r_lkf {a:Act}{w:World}{d:Option Tmp}{x y:Operand}{z v:t.den}{zs:List Value}{ok:Bool}(k:Nat)(K:Ky P kt enc)(key:κ)(O: ∀w,(zeroValue et).run P w=.ok (vof agg zs) w)(V:Dat H t zs z)(W:mget z m key=v)(hl:lv t=0)(I:Fr a C.n C.ds l)(L:Hp C H w)
  (E:asmp (hk H k)=some (.mp κ enc t agg b m):=by rfl) (hx:ev l x=some (.map (some b)):=by rfl) (hy:ev l y=some (enc key):=by rfl) (ht:P.underlying tt=some (.map kt et):=by rfl):
  (execOp a.eval ⟨d,.lookup tt x y ok,T,pos,af,none⟩).run P w=.ok (.value (if ok then .tuple #[vof agg (cl t v []),.bool (mhas m key)]else vof agg (cl t v []))) w:=by
 subst W;obtain⟨cs,h1,h2⟩:=run_lookup (zs:=zs) K ht O (Dat.rep L t V) (Qhr L E) rfl key ok;obtain⟨ps,N,h4,_⟩:=rep_cl (B:=Bk H) t h2;rw[hl]at N;have:ps=[]:=We N;subst this;subst h4;exact r_lookup h1 (I.eval hx) (I.eval hy)
omit [DecidableEq κ]in
def AL.rgm (k kn:Nat){x:Operand}(h: ∀g,AL r P ops Q rest C ((d,.pointer (some ⟨g,0,none⟩))::l) ((kn,.mit k g b m.length [] none)::H))
  (E:hk H k=some (.mp κ enc t agg b m):=by rfl) (V:P.underlying tt=some (.map kt et):=by rfl) (W:ev l x=some (.map (some b)):=by rfl) (hd:Nat.ble (d+1) C.n=true:=by rfl) (hn:hk H kn=none:=by kernel_rfl):AL r P ops Q (⟨some d,.range tt x,T,pos,af,none⟩::rest) C l H:=λa w hf N=>
 Z.st_rangeMt hf hd V W (N.hold k _ E) λg w' a' hg hs hR L hf'=>h g a' w' hf' (N.new hn L (λb' hb'=>by simp only[Res.bl,Qn]at hb';omega) (λj O r I=>by
   simp only[Res.ref,Qz]at O;subst O;rw[E]at I;injection I with I;subst I;rfl) λF B _ _ hB=>⟨hR,hB k b ⟨_,E,by simp[Res.bl]⟩,λkv h=>by cases h⟩)
omit [DecidableEq κ]in
def AL.nxm (k ki kn:Nat){x:Operand}{g:Nat}{seen:List Nat}{la:Option (Value×Value)}
  (h1:(∀i,i<m.length->i∈seen)->AL r P ops Q rest C ((d,.tuple #[.bool false])::l) H)
  (h2: ∀i p,m[i]?=some p->i∉seen->t.ok p.2->tele (lv t) λps=>AL r P ops Q rest C ((d,.tuple #[.bool true,enc p.1,vof agg (cl t p.2 ps)])::l) (hcat (kx kn (rs t p.2 ps)) ((ki,.mit k g b m.length (i::seen) (some (enc p.1,vof agg (cl t p.2 ps))))::H)))
  (I:hk H k=some (.mp κ enc t agg b m):=by rfl) (E:hk H ki=some (.mit k g b m.length seen la):=by rfl) (hx:ev l x=some (.pointer (some ⟨g,0,none⟩)):=by rfl) (hd:Nat.ble (d+1) C.n=true:=by rfl)
  (hn: ∀s la,nok ((ki,.mit k g b m.length s la)::H) kn (lv t)=true:=by intro _ _;kernel_rfl) (L:hng [ki] [] H=true:=by kernel_rfl):AL r P ops Q (⟨some d,.next x false,T,pos,af,none⟩::rest) C l H:=λa w O V=>by
 have hkk:k≠ki:=λe=>by subst e;rw[I]at E;injection E with E;cases E
 obtain⟨es,hmc,hl,h3⟩:Mt enc t agg w (Fh C H) b m:=V.hold k _ I;rcases Qhu (P:=P) (ty:=T) (V.hold ki _ E).1 hmc with⟨h4,h5⟩|⟨i,kv,v,w',i1,i2,W,i4,i5,i6,i7,i8⟩
 refine Z.val O hd ?_ λa' hf'=>h1 h4 a' w hf' V;simp only[execOp,O.eval hx,Sem.run_bind,h5,Result.andThen_ok,Sem.run_pure];obtain⟨p,hp⟩: ∃p,m[i]?=some p:=⟨_,Qg i1⟩;obtain⟨cs,h6,h7⟩:=h3 i p hp;rw[h6]at W;injection W with W;injection W with e1 e2
 subst e1;subst e2;have hup: ∀la,(∀kv,la=some kv->Lst w' g b kv.1 kv.2)->Hp C ((ki,.mit k g b m.length (i::seen) la)::H) w':=λla hla=>Hp.dd (js:=[]) (V.upd i5 (λb' hb'=>⟨_,E,by simpa[Res.bl] using hb'⟩) (λb' hb'=>.inl ⟨_,E,hb'⟩) (λj L=>by
   simp only[Res.ref,Qz]at L;subst L;exact⟨hkk,λr hr=>by rw[I]at hr;injection hr with hr;subst hr;rfl⟩) λF B _ _ _ hB _=>⟨i7,hB k b rfl ⟨_,I,by simp[Res.bl]⟩,hla⟩) L
 have hr': ∀la,t.rep w' (Fh C ((ki,.mit k g b m.length (i::seen) la)::H)) cs p.2:=λla=>by
  refine rep_to h7 i5 λb' hb' hl'=>⟨λhm=>hb'.1 ki ⟨_,E,by simpa[Res.bl] using hm⟩,⟨λj L=>?_,hb'.2⟩⟩;by_cases N:j=ki;subst N;have h0:=Bk.cons_eq.1 L;exact hb'.1 j ⟨_,E,h0⟩;obtain⟨r2,h8,h9⟩:=(Bk.cons_ne N).1 L;exact hb'.1 j ⟨r2,h8,h9⟩
 have hok:=rep_ok t h7;obtain⟨ps,hl2,rfl,h9⟩:=Qev (hup (some (enc p.1,vof agg cs)) (λkv h=>by injection h with h;subst h;exact i8)) (hr' _) kn (hn _ _);refine Z.valw O hd ?_ λa' hf'=>Qbb (h2 i p hp i2 hok) ps hl2 a' w' hf' h9;simp only[execOp,O.eval hx,Sem.run_bind,i4,Result.andThen_ok,Sem.run_pure]
def AL.ent (ki:Nat){x:Operand}{k g b n:Nat}{seen:List Nat}{kv vv:Value}(h:AL r P ops Q rest C ((d,.tuple #[kv,vv])::l) H)
  (E:hk H ki=some (.mit k g b n seen (some (kv,vv))):=by rfl) (I:ev l x=some (.pointer (some ⟨g,0,none⟩)):=by rfl) (L:Nat.ble (d+1) C.n=true:=by rfl):AL r P ops Q (⟨some d,.entry x,T,pos,af,none⟩::rest) C l H:=
 AL.val L (λa w N O=>by
  have:=Lst.run (P:=P) ((O.hold ki _ E).2.2 _ rfl);simp only[execOp,N.eval I,Sem.run_bind,this,Result.andThen_ok,Sem.run_pure]) h
def okm {X:Act->World->Prop}(k:Nat)(key:κ){z v:t.den}{zs:List Value}(N:Dat H t zs z)(O:mget z m key=v)(h:t.ok v->∀a w,Fr a C.n C.ds l->Hp C H w->X a w)(E:asmp (hk H k)=some (.mp κ enc t agg b m):=by rfl): ∀a w,Fr a C.n C.ds l->Hp C H w->X a w:=λa w V I=>by
 subst O;refine h ?_ a w V I;cases L:mhas m key with
 |false=>rw[mget_none L];exact rep_ok t (Dat.rep I t N)
 |true=>
  obtain⟨es,_,_,W⟩:Mt enc t agg w (Fh C H) b m:=Qhr I E;obtain⟨i,hi⟩:=W7.1 (mget_mem (z:=z) L);obtain⟨cs,_,h5⟩:=W i _ hi;exact rep_ok t h5
end
section
variable {r:Option Nat}{P:Program}{ops:Array Oper}{Q:Exit->Act->World->Prop}{rest lst:List Oper}{C:Cx}{l:List (Nat×Value)}{H:List (Nat×Res)}{d:Nat}{op:Op}{T:TypeId}{pos:String}{af:Array Edge}
def r_indexArr {a:Act}{w:World}{dd:Option Tmp}{gd:Option (Nat×Bool)}{tt e:TypeId}{n sz g o:Nat}{x y:Operand}{i:Int}{kd:IntKind}(E:P.underlying tt=some (.array n e))(I: ∀w,(sizeOf e).run P w=.ok sz w)(L:a.eval x=.pointer (some ⟨g,o,none⟩))(N:a.eval y=.int kd i)(O:0<=i)(V:i<n):
  (execOp a.eval ⟨dd,.indexAddr tt x y,T,pos,af,gd⟩).run P w=.ok (.value (.pointer (some ⟨g,o+i.toNat*sz,none⟩))) w:=by
 have:=Addr.add_lit g o (i.toNat*sz);simp[execOp,Instr.indexAt,L,N,asIntOf,run_underlying E,I,O,V,Instr.sureAddr,this]
def AL.ixb (k kn:Nat){τ:Type}(f:τ->Value)(vals:List τ){tt e bt:TypeId}{n g o:Nat}{cs:List Value}{x y:Operand}{i:Int}{kd:IntKind}{v:τ}(E:ix vals i=some v)
  (h:AL r P ops Q rest C ((d,.pointer (some ⟨g,o+i.toNat*1,none⟩))::l) ((kn,.el (some k) g (o+i.toNat*1) [f v])::H))
  (N:hk H k=some (.blk g bt cs):=by rfl) (hx:ev l x=some (.pointer (some ⟨g,o,none⟩)):=by rfl) (hy:ev l y=some (.int kd i):=by rfl) (ht:P.underlying tt=some (.array n e):=by rfl) (hS:szB P e=some 1:=by kernel_rfl) (hl:vals.length=n:=by rfl) (O:(cs.drop o).take n=vals.map f:=by rfl)
  (hd:Nat.ble (d+1) C.n=true:=by rfl) (hn:hk H kn=none:=by kernel_rfl):AL r P ops Q (⟨some d,.indexAddr tt x y,T,pos,af,none⟩::rest) C l H:=λa w V hh=>by
 subst hl;have I:=o_c1 E;obtain⟨j,rfl,hj⟩:=Qas E;have hB:Blk w g bt cs:=hh.hold k _ N;refine Z.val V hd (r_indexArr ht (Qak hS) (V.eval hx) (V.eval hy) I.1 I.2) λa' hf'=>h a' w hf' (hh.add hn rfl (λi E r L=>by
   simp only[Res.ref,Qz]at E;subst E;rw[N]at L;injection L with L;subst L;rfl) ⟨λq u W=>?_,hB.lt,⟨_,N,by simp[Res.bl]⟩⟩)
 cases q with
 |succ q=>simp at W
 |zero=>
  simp only[Xh,Qz]at W;subst W;rw[Addr.add_lit,Jw,hB.cell,Qv,Nat.mul_one];have hlt:=(Qd.1 hj).1;have h3:((cs.drop o).take vals.length)[j]?=some (f v):=by rw[O,Qq,hj];rfl
  rw[Wo hlt,Xq]at h3;exact h3
end
section
variable {P:Program}{C:Cx}{l:List (Nat×Value)}{H:List (Nat×Res)}
def Row.none {t:Ty}{w:World}{F G:Nat->Prop}{A:Option Addr}{c:Nat}{xs:List t.den}(h:Row t w F G A c xs)(I:A.isNone=true):xs=[]:=by
 obtain⟨_,_,_,_,E,_⟩:=h;rcases E with E|⟨b,o,rfl,_⟩
 exact We E;cases I
def nilL {X:Act->World->Prop}(k:Nat){t:Ty}{A:Option Addr}{c:Nat}{xs:List t.den}(L:A.isNone=true)(h:xs=[]->∀a w,Fr a C.n C.ds l->Hp C H w->X a w)(E:hk H k=some (.ln t A c xs):=by rfl): ∀a w,Fr a C.n C.ds l->Hp C H w->X a w:=λa w N I=>by
 obtain⟨G,O,_⟩:=rowL E w I;exact h (Row.none O L) a w N I
def AX.cnn {r:Option Nat}{Y:Exit->Act->World->Prop}{K:List Kx}{c:Operand}{x y:Code}{b:Bool}(L:ev l c=some (.bool b))(N:b=true->AX r P Y K x C l H)(O:b=false->AX r P Y K y C l H):AX r P Y K (.cond c x y) C l H:=λa w E I=>Z.cond E L (λh=>N h a w E I) (λh=>O h a w E I)
end
section
variable {r:Option Nat}{P:Program}{ops:Array Oper}{Q:Exit->Act->World->Prop}{rest:List Oper}{C:Cx}{l:List (Nat×Value)}{H:List (Nat×Res)}{d:Nat}{T:TypeId}{pos:String}{af:Array Edge}
end
def szl (b:ByteArray)(h:decide (b.size<=maxLen)=true):b.size<=maxLen:=Wb h
def wrap_has (k:IntKind)(n:Int):k.has (k.wrap n):=by
 cases k<;>simp[IntKind.has,IntKind.min,IntKind.max,IntKind.wrap,IntKind.bits,IntKind.signed]<;>omega
end Go.A
namespace Go.Z
section
variable {P:Program}{a:Act}{w:World}
def resv3 {fn:Func}{r1 r2 r3:ResultVar}{v1 v2 v3:Value}(h:fn.results=#[r1,r2,r3])(E:RV P a.tmps w r1 v1)(I:RV P a.tmps w r2 v2)(L:RV P a.tmps w r3 v3):(results fn a.tmps).run P w=.ok (.tuple #[v1,v2,v3]) w:=by
 cases r1<;>cases r2<;>cases r3<;>simp only[RV,Wv]at E I L;simp[results,h,asAddr,E,I,L];obtain⟨_,N,O⟩:=L;simp[results,h,asAddr,E,I,N,O];obtain⟨_,V,W⟩:=I;simp[results,h,asAddr,E,V,W,L];obtain⟨_,V,W⟩:=I;obtain⟨_,N,O⟩:=L;simp[results,h,asAddr,E,V,W,N,O];obtain⟨_,p1,q1⟩:=E;simp[results,h,asAddr,p1,q1,I,L];obtain⟨_,p1,q1⟩:=E;obtain⟨_,N,O⟩:=L;simp[results,h,asAddr,p1,q1,I,N,O];obtain⟨_,p1,q1⟩:=E;obtain⟨_,V,W⟩:=I;simp[results,h,asAddr,p1,q1,V,W,L];obtain⟨_,p1,q1⟩:=E;obtain⟨_,V,W⟩:=I;obtain⟨_,N,O⟩:=L;simp[results,h,asAddr,p1,q1,V,W,N,O]
end
end Go.Z
end
section
namespace Go.A
open Go.RowKit Go.Z
def Seqk (P:Program)(gf:FuncId)(cap:List Value)(N:Nat)(E:Nat->World->World->List Value->Prop)(Dat:Nat->World->Prop):Prop:=
 ∀(lid:Nat) (w:World) (J:Nat->World->Prop) (Jx:World->Prop),(∀k W W',J k W->Ch [] W W'->J k W')->(∀W W',Jx W->Ch [] W W'->Jx W')->(∀k W,J k W->Dat k W)->J 0 w->
  (∀k W0 W args,k<N->J k W0->Ch [] W0 W->E k W0 W args->YieldAt (FW none) 0 P lid args.toArray W λe W'=>(e=.returned (.bool true)/\J (k+1) W')\/(e=.returned (.bool false)/\Jx W'))->
  Calls P gf (.func (.yield lid) #[] #[]::cap).toArray w λe W'=>e=.returned (.tuple #[])/\(J N W'\/Jx W')
def RK (D L:Nat)(o:Obj)(I:Nat->World->Prop)(X:Exit->World->Prop)(k:Nat)(e:Exit)(W':World):Prop:=
 W'.heap[L]?=some o/\Dfr W' D/\match e with
  | .normal=>I (k+1) W'
  | .ret=>X .ret W'
  | .exit id=>X (.exit id) W'
  |_=>False
def RQ (D L:Nat)(o:Obj)(I:Nat->World->Prop)(X:Exit->World->Prop)(k:Nat):Exit->Act->World->Prop:=λe _ W'=>RK D L o I X k e W'
section
variable {P:Program}{Q:Exit->Act->World->Prop}{a:Act}{w:World}{n:Nat}{ds:List Deferred}{l:List (Nat×Value)}
def rangeK {g:Operand}{ps:List Nat}{assign body:Code}{gf:FuncId}{cap:List Value}(hf:Fr a n ds l)(hg:ev l g=some (.func (.func gf) #[] cap.toArray))
  (hcf: ∀args w,(callFunc gf args).run P w=.ok (.enter gf args) w) (N:Nat) (E:Nat->World->World->List Value->Prop) (Dat:Nat->World->Prop) (I:Nat->World->Prop) (X:Exit->World->Prop) (hseq:Seqk P gf cap N E Dat)
  (hlen: ∀k W0 W args,E k W0 W args->args.length=ps.length) (hps: ∀p,p∈ps->p<n)
  (hI0: ∀W1,(∃W',Ch [] w W'/\W'.heap.size=w.heap.size+1/\Dfr W' w.heap.size/\Ch [] W' W1/\W1.heap.size=W'.heap.size+1)->(∃o,W1.heap[w.heap.size+1]?=some o)->I 0 W1)
  (hst: ∀k W W',I k W->Ch [w.heap.size+1] W W'->I k W') (hxt: ∀e W W',X e W->Ch [w.heap.size+1] W W'->X e W') (hdat: ∀k W,I k W->Dat k W)
  (hround: ∀k W0 W args a o,k<N->I k W0->Ch [] W0 W->w.heap.size+1<W0.heap.size->E k W0 W args->args.length=ps.length->W.heap[w.heap.size+1]?=some o->Dfr W w.heap.size->Fr a n [] (Qiu ps args l)->
   WP (some (w.heap.size+1)) P assign (λe a1 W1=>e=.normal/\W1.heap[w.heap.size+1]?=some o/\Dfr W1 w.heap.size/\∀W2 o2,Ch [w.heap.size+1] W1 W2->W2.heap[w.heap.size+1]?=some o2->Dfr W2 w.heap.size->
    WP (some (w.heap.size+1)) P body (RQ w.heap.size (w.heap.size+1) o2 I X k) a1 W2) a W)
  (hdone: ∀W a',I N W->Dfr W w.heap.size->Fr a' n (mkD w.heap.size::ds) l->Q .normal a' W)
  (hret: ∀W a',X .ret W->Dfr W w.heap.size->Fr a' n (mkD w.heap.size::ds) l->Q .ret a' W)
  (hexit: ∀id W a',X (.exit id) W->Dfr W w.heap.size->Fr a' n (mkD w.heap.size::ds) l->Q (.exit id) a' W):WP none P (Code.rangeFunc g ps.toArray assign body) Q a w:=by
 refine wpIn_rangeFunc λfn hfn=>?_;obtain⟨rec,hrec⟩: ∃rec:LoopState->Option Code->Loop,rec=λst pe=>{state:=st,pending:=pe,fn,tmps:=a.tmps,params:=ps.toArray,assign,body,defers:=w.heap.size}:=⟨_,rfl⟩;obtain⟨W1,hW1⟩: ∃W1,(w.alloc (.deferred (some []))).alloc (.loop (rec .ready none))=W1:=⟨_,rfl⟩;have hL1:W1.heap[w.heap.size+1]?=some (.loop (rec .ready none)):=by
  rw[<-hW1];have:=World.alloc_heap_new (w.alloc (.deferred (some []))) (.loop (rec .ready none));rwa[World.size_alloc]at this
 have hK1:Dfr W1 w.heap.size:=by
  rw[<-hW1];exact(Below.heap_alloc _ _ _ (by simp)).trans (World.alloc_heap_new w _)
 have up: ∀{W W':World},Ch [] W W'->Ch [w.heap.size+1] W W':=λh=>h.mono (by simp);have hI1:I 0 W1:=hI0 W1 ⟨_,Ch.alloc w _,World.size_alloc ..,World.alloc_heap_new w _,by rw[<-hW1];exact Ch.alloc _ _,by rw[<-hW1];exact World.size_alloc ..⟩ ⟨_,hL1⟩;have hfr:a.eval g=.func (.func gf) #[] cap.toArray:=hf.eval hg;have hcall:=hseq (w.heap.size+1) W1
  (λk W=>I k W/\W.heap[w.heap.size+1]?=some (.loop (rec .ready none))/\Dfr W w.heap.size)
  (λW=>∃e c,X e W/\((e=.ret/\c=Code.ret)\/∃id,e=.exit id/\c=Code.exit id)/\W.heap[w.heap.size+1]?=some (.loop (rec .done (some c)))/\Dfr W w.heap.size)
  (λk W W' ⟨h1,V,h3⟩ L=>⟨hst k W W' h1 (up L),(L.block _ (Qp.1 V).1 (by simp)).trans V,h3.ch L (by simp)⟩)
  (λW W' ⟨e,c,h1,h0,V,h3⟩ L=>⟨e,c,hxt e W W' h1 (up L),h0,(L.block _ (Qp.1 V).1 (by simp)).trans V,h3.ch L (by simp)⟩)
  (λk W h=>hdat k W h.1) ⟨hI1,hL1,hK1⟩ ?_
 ·refine⟨w.heap.size+1,[mkD w.heap.size],W1,{target:=.fn (.func gf) cap.toArray,args:=#[.func (.yield (w.heap.size+1)) #[] #[]]},W1,gf,
   (.func (.yield (w.heap.size+1)) #[] #[]::cap).toArray,W1,?_,?_,λ_ _=>trivial,?_,(λh=>by cases h),(Qkd hcall).mono ?_⟩
  rw[<-hW1,hrec];exact run_enterLoop_outer _ _ _ _ _;simp only[resolve,hfr];simp[go_sem];simp[invoke,go_sem,hcf]
  ·have fin: ∀(W:World) (st:LoopState) (pe:Option Code),W.heap[w.heap.size+1]?=some (.loop (rec st pe))->st≠ .busy->Dfr W w.heap.size->
     ∃W',(Instr.endLoop (w.heap.size+1)).run P W=.ok pe W'/\Ch [w.heap.size+1] W W'/\Dfr W' w.heap.size:=λW st pe hl hb hk=>by
    have:=run_endLoop (P:=P) hl (by rw[hrec];exact hb);rw[hrec]at this;exact⟨_,this,Ch.putObj _ _ _,hk.ch (Ch.putObj _ _ _) (by simp)⟩
   rintro e W ⟨rfl,⟨h1,V,h3⟩|⟨e,c,h1,h0,V,h3⟩⟩;obtain⟨W',hr,L,hk⟩:=fin W .ready none V (by simp) h3;exact⟨none,W',hr,hdone W' _ (hst N W W' h1 L) hk ⟨hf.size,by show [mkD w.heap.size]++a.defers=_;rw[hf.defs];rfl,hf.get⟩⟩
   ·obtain⟨W',hr,L,hk⟩:=fin W .done (some c) V (by simp) h3
    have hfr':Fr {a with defers:=[mkD w.heap.size]++a.defers} n (mkD w.heap.size::ds) l:=⟨hf.size,by show [mkD w.heap.size]++a.defers=_;rw[hf.defs];rfl,hf.get⟩;refine⟨some c,W',hr,?_⟩;rcases h0 with⟨rfl,rfl⟩|⟨id,rfl,rfl⟩
    exact wpIn_ret (hret W' _ (hxt _ W W' h1 L) hk hfr');exact wpIn_exit (hexit id W' _ (hxt _ W W' h1 L) hk hfr')
 ·rintro k W0 W args hk ⟨h1,V,h3⟩ L hEk
  have hlt:w.heap.size+1<W0.heap.size:=(Qp.1 V).1;have hl:W.heap[w.heap.size+1]?=some (.loop (rec .ready none)):=(L.block _ hlt (by simp)).trans V;have hkk:Dfr W w.heap.size:=h3.ch L (by simp);have hlen':=hlen k W0 W args hEk;have hy:=run_yield (P:=P) (args:=args.toArray) hl (by rw[hrec];simpa using hlen');refine⟨fn,_,assign,body,by rw[hrec]at hy;exact hy,roundIn_of_wpIn hfn ?_⟩;have hfr0:Fr ⟨(ps.zip args).foldl (λt (p,v)=>t.setIfInBounds p v) a.tmps,[]⟩ n [] (Qiu ps args l):=Qjq ps args hps ⟨hf.size,rfl,hf.get⟩;have hzip:((rec .ready none).params.zip args.toArray).foldl (λt (p,v)=>t.setIfInBounds p v) (rec .ready none).tmps=(ps.zip args).foldl (λt (p,v)=>t.setIfInBounds p v) a.tmps:=by
   rw[hrec];simp
  rw[hrec]at hzip;simp only at hzip;rw[hzip];refine wpIn_mono (hround k W0 W args _ _ hk h1 L hlt hEk hlen' hl hkk hfr0) ?_;rintro e a1 W' ⟨rfl,hl',hk',hbody⟩;refine⟨_,run_beginRound hl' (by rw[hrec]),?_⟩;have hltW:w.heap.size+1<W'.heap.size:=(Qp.1 hl').1;have hc2:Ch [w.heap.size+1] W' (W'.putObj (w.heap.size+1) (.loop {rec .ready none with state:=.busy})):=Ch.putObj _ _ _;have hl2:(W'.putObj (w.heap.size+1) (.loop {rec .ready none with state:=.busy})).heap[w.heap.size+1]?=some (.loop {rec .ready none with state:=.busy}):=World.putObj_heap_same hltW;have hk2:=hk'.ch hc2 (by simp);refine wpIn_mono (hbody _ _ hc2 hl2 hk2) ?_;have fin: ∀(jump:Option Code) (W3:World),W3.heap[w.heap.size+1]?=some (.loop {rec .ready none with state:=.busy})->Dfr W3 w.heap.size->
    ∃W4,(Instr.endRound (w.heap.size+1) jump).run P W3=.ok (.bool jump.isNone) W4/\Ch [w.heap.size+1] W3 W4/\W4.heap[w.heap.size+1]?=some (.loop (rec (if jump.isNone then .ready else .done) jump))/\Dfr W4 w.heap.size:=λjump W3 O hk3=>by
   have hend:=run_endRound (P:=P) jump O;rw[hrec]at hend ⊢;exact⟨_,hend,Ch.putObj _ _ _,World.putObj_heap_same (Qp.1 O).1,hk3.ch (Ch.putObj _ _ _) (by simp)⟩
  rintro e a3 W3 ⟨O,hk3,hp⟩;cases e with
  |normal=>
   obtain⟨W4,hr,hc4,hl4,hk4⟩:=fin none W3 O hk3;exact⟨_,W4,hr,.inl ⟨rfl,hst _ _ _ hp hc4,hl4,hk4⟩⟩
  |ret=>
   obtain⟨W4,hr,hc4,hl4,hk4⟩:=fin (some .ret) W3 O hk3;exact⟨_,W4,hr,.inr ⟨rfl,.ret,.ret,hxt _ _ _ hp hc4,.inl ⟨rfl,rfl⟩,hl4,hk4⟩⟩
  |exit id=>
   obtain⟨W4,hr,hc4,hl4,hk4⟩:=fin (some (.exit id)) W3 O hk3;exact⟨_,W4,hr,.inr ⟨rfl,.exit id,.exit id,hxt _ _ _ hp hc4,.inr ⟨id,rfl,rfl⟩,hl4,hk4⟩⟩
  |goto t=>exact hp.elim
  |panic ch=>exact hp.elim
  |outgrown=>exact hp.elim
end
abbrev lpT:Obj->Prop:=λ_=>True
abbrev dfT:Obj->Prop:=λo=>o=.deferred (some [])
def Res.hasb:Res->Bool
 | .own ..=>true
 | .blk ..=>true
 | .mp ..=>true
 | .si ..=>true
 | .ob ..=>true
 | .mr ..=>true
 | .gn ..=>true
 |_=>false
def Res.nob: ∀{r:Res},r.hasb=false->r.ref=none->r.bl=[]
 | .dead,_,_=>rfl
 | .sh ..,_,_=>rfl
 | .ln ..,_,_=>rfl
 | .el ..,_,_=>rfl
 | .own ..,h,_=>by cases h
 | .blk ..,h,_=>by cases h
 | .mp ..,h,_=>by cases h
 | .mit ..,_,h=>by cases h
 | .si ..,h,_=>by cases h
 | .ob ..,h,_=>by cases h
 | .lmp ..,_,_=>rfl
 | .mr ..,h,_=>by cases h
 | .gn ..,h,_=>by cases h
def mvl (H:List (Nat×Res)):List Nat->List (Nat×Nat)
 | []=>[]
 |k::ks=>match hk H k with
  |some r=>bif rok [] r.ref then(bif r.hasb then(k,k)::mvl H ks else mvl H ks)else mvl H ks
  |none=>mvl H ks
def Qks {o:Option Nat}(h:rok [] o=true):o=none:=by
 cases o with
 |none=>rfl
 |some j=>simp[rok]at h
def Qdc (H:List (Nat×Res)): ∀ks:List Nat,Sub H (kpH H [] ks) (mvl H ks) []
 | []=>.nil
 |k::ks=>by
  unfold kpH mvl;cases I:hk H k with
  |none=>exact Qdc H ks
  |some r=>
   simp only[];cases E:rok [] r.ref with
   |false=>exact Qdc H ks
   |true=>
    cases L:r.hasb with
    |false=>exact .s k (Qdc H ks) I (Res.nob L (Qks E)) (Qks E)
    |true=>exact .m k (Qdc H ks) I (Qks E)
def Hp.nds {n n':Nat}{ds ds':List Deferred}{w0:World}{S:List Nat}{F:Nat->Prop}{H:List (Nat×Res)}{w:World}(h:Hp ⟨n,ds,w0,S,F⟩ H w):Hp ⟨n',ds',w0,S,F⟩ H w:=⟨h.ch,h.hold,h.bnd,h.dis,h.ref⟩
def fin_round {C:Cx}{H He:List (Nat×Res)}{W W':World}{n:Nat}{ds:List Deferred}{bs:List Nat}(E:Hp C H W)(L:Hp ⟨n,ds,W,blks H (mvl H bs),Fh C H⟩ He W')(gs:List Nat)(M:Nat)(ps:List (Nat×Nat)){Ho:List (Nat×Res)}
  (I:(outs (kpH He gs gs)&&frs M H (kpH He gs gs))=true) (N:ren (hcat (sft M (kpH He gs gs)) (kill ((mvl H bs).map (·.2)) H)) ps=Ho) (O:nod (ps.map (·.1))=true) (V:nod (ps.map (·.2))=true):Hp C Ho W':=by
 rw[Qo]at I;subst N;exact(E.back (L.keep gs).nds I.1 I.2).ren ps O V
abbrev HK (kd kl D L:Nat) (p:Obj->Prop) (nh H:List (Nat×Res)):List (Nat×Res):=(kl,.ob L p)::(kd,.ob D dfT)::hcat nh H
def IK (C:Cx)(kd kl D L:Nat)(J:Nat->List (Nat×Res)->Prop)(H:List (Nat×Res)):Nat->World->Prop:=λk W=>∃nh,J k nh/\Hp C (HK kd kl D L lpT nh H) W
def XK (P:Program)(Y:Exit->Act->World->Prop)(K:List Kx)(C:Cx)(l:List (Nat×Value))(D L:Nat):Exit->World->Prop:=λe W=>∀W',Ch [L] W W'->∀a',Fr a' C.n (mkD D::C.ds) l->kont none P Y K e a' W'
def nrf (k:Nat)(H:List (Nat×Res)):Bool:=H.all λp=>match p.2.ref with
 |none=>true
 |some j=> !(Nat.beq j k)
def hk_mem: ∀{H:List (Nat×Res)} {k:Nat} {r:Res},hk H k=some r->(k,r)∈H
 | [],_,_,h=>by cases h
 |(d,u)::q,k,r,h=>by
  rw[Qaa]at h;split at h;rename_i e;subst e;injection h with h;subst h;exact Qi ..
  exact Qf _ (hk_mem h)
def nrf_spec {k:Nat}{H:List (Nat×Res)}(h:nrf k H=true){j:Nat}{r:Res}(E:hk H j=some r):r.ref≠some k:=λe=>by
 have:=Wd.1 h _ (hk_mem E);simp[e]at this
def Hp.ob {C:Cx}{H:List (Nat×Res)}{w w':World}{k L:Nat}{p q:Obj->Prop}{o:Obj}(h:Hp C ((k,.ob L p)::H) w)(hr:nrf k H=true)(V:Ch [L] w w')(ho:w'.heap[L]?=some o)(hq:q o):Hp C ((k,.ob L q)::H) w':=by
 have hsame: ∀j b,Bk ((k,.ob L q)::H) j b↔Bk ((k,.ob L p)::H) j b:=λj b=>by
  by_cases E:j=k;subst E;rw[Bk.cons_eq,Bk.cons_eq];exact Iff.rfl;rw[Bk.cons_ne E,Bk.cons_ne E]
 have hL: ∀b,(∀j,¬Bk ((k,.ob L p)::H) j b)->b∉[L]:=λb I O=>by
  rw[Qn]at O;subst O;exact I k (Bk.cons_eq.2 (by simp[Res.bl]))
 have hnb: ∀b,(∀j,¬Bk ((k,.ob L p)::H) j b)->∀j,¬Bk ((k,.ob L q)::H) j b:=λb I j E=>I j ((hsame j b).1 E);have hLk: ∀j b,Bk ((k,.ob L p)::H) j b->j≠k->b∉[L]:=λj b I E O=>by
  rw[Qn]at O;subst O;exact E (h.dis j k b I (Bk.cons_eq.2 (by simp[Res.bl])))
 refine⟨?_,λj r E=>?_,λj b E=>?_,λj j' b E hj'=>h.dis j j' b ((hsame j b).1 E) ((hsame j' b).1 hj'),λj r i E hri=>?_⟩;have N:=h.ch;refine⟨V.os.trans N.os,V.tape.trans N.tape,V.output.trans N.output,Wq N.size V.size,λb I W=>?_⟩;rw[V.block b (Q4 I N.size) (λO=>?_)];exact N.block b I W;rw[Qn]at O;subst O;rcases(h.bnd k b (Bk.cons_eq.2 (by simp[Res.bl]))).1 with h1|h1
 omega;exact W h1;rw[Qaa]at E;split at E;injection E with E;subst E;exact⟨o,ho,hq⟩
 rename_i W;have hj':hk ((k,.ob L p)::H) j=some r:=by rw[Qaa,Qb W];exact E
 refine Res.to (h.hold j r hj') V (λb I _=>⟨hL b I.1,hnb b I.1,I.2⟩) (λb I _=>⟨hL b I,hnb b I⟩) (λi b hi hB=>⟨hLk i b hB λe=>nrf_spec hr E (by rw[hi,e]),(hsame i b).2 hB⟩) λb I=>hLk j b ⟨r,hj',I⟩ (Ne.symm W);obtain⟨h1,h2⟩:=h.bnd j b ((hsame j b).1 E);exact⟨h1,Q4 h2 V.size⟩;rw[Qaa]at E;split at E;injection E with E;subst E;cases hri
 rename_i W;obtain⟨h5,h6⟩:=h.ref j r i (by rw[Qaa,Qb W];exact E) hri;refine⟨h5,λr2 h7=>?_⟩;rw[Qaa]at h7;split at h7;injection h7 with h7;subst h7;rfl
 rename_i hn2;exact h6 r2 (by rw[Qaa,Qb hn2];exact h7)
def Hp.obj {C:Cx}{H:List (Nat×Res)}{w w':World}{k L:Nat}{p q:Obj->Prop}{o:Obj}(h:Hp C H w)(E:hk H k=some (.ob L p))(N:Ch [L] w w')(O:w'.heap[L]?=some o)(hq:q o):Hp C ((k,.ob L q)::drp k H) w':=
 h.upd N (λb I=>by rw[Qn]at I;subst I;exact⟨_,E,by simp[Res.bl]⟩) (λb I=>.inl ⟨_,E,I⟩) (λj V=>by cases V) λF B _ _ _ _ _=>⟨o,O,hq⟩
def El (t:Ty)(ag:List Value->List Value)(xs:List t.den)(Φ:Nat->World->Nat->Prop):Nat->World->World->List Value->Prop:=λk W0 W args=>
 ∃x cs,xs[k]?=some x/\args=ag cs/\t.rep W (λb=>Φ k W0 b\/W0.heap.size<=b) cs x
def Sq (P:Program)(gf:FuncId)(cap:List Value)(Hc:List (Nat×Res))(t:Ty)(ag:List Value->List Value)(xs:List t.den):Prop:=
 ∀Φ:Nat->World->Nat->Prop,Seqk P gf cap xs.length (El t ag xs Φ) (λk W=>Hp ⟨0,[],W,[],Φ k W⟩ Hc W)
def Qaj: ∀{l:List Nat},nod l=true↔l.Nodup
 | []=>by simp[nod]
 |k::l=>by
  simp only[nod,Qo,Yp,Wm,Qaj (l:=l)];refine and_congr ⟨λh E=>?_,λh=>?_⟩ Iff.rfl;rw[Jn]at h;exact h k E (Ye k);rw[Jn];exact λx I e=>h (by rw[Wx e];exact I)
def Qek (H:List (Nat×Res))(all:List Nat): ∀ks:List Nat,List.Sublist ((kpH H all ks).map (·.1)) ks
 | []=>List.Sublist.refl _
 |k::ks=>by
  unfold kpH;cases hk H k with
  |none=>exact(Qek H all ks).cons k
  |some r=>
   simp only[];cases rok all r.ref with
   |false=>exact(Qek H all ks).cons k
   |true=>exact(Qek H all ks).cons_cons k
def Qdd (H:List (Nat×Res)): ∀ks:List Nat,List.Sublist ((mvl H ks).map (·.2)) ks
 | []=>List.Sublist.refl _
 |k::ks=>by
  unfold mvl;cases hk H k with
  |none=>exact(Qdd H ks).cons k
  |some r=>
   simp only[];cases rok [] r.ref with
   |false=>exact(Qdd H ks).cons k
   |true=>cases r.hasb with
    |false=>exact(Qdd H ks).cons k
    |true=>exact(Qdd H ks).cons_cons k
def MF (P:Program)(D L:Nat)(o:Obj)(Yb:Obj->Exit->Act->World->Prop)(body:Code):Act->World->Prop:=λa1 W1=>W1.heap[L]?=some o/\Dfr W1 D/\∀W2 o2,Ch [L] W1 W2->W2.heap[L]?=some o2->Dfr W2 D->WP (some L) P body (Yb o2) a1 W2
section
variable {P:Program}{Y:Exit->Act->World->Prop}{K:List Kx}{C:Cx}{l:List (Nat×Value)}{H:List (Nat×Res)}
def AX.rgf {g:Operand}{ps:List Nat}{assign body:Code}{gf:FuncId}{cap:List Value}{Hc:List (Nat×Res)}{t:Ty}{ag:List Value->List Value}{xs:List t.den}
  (kd kl kn:Nat) (hs gs bs:List Nat) (J:Nat->List (Nat×Res)->Prop) (nh:List (Nat×Res)) (hcf: ∀args w,(callFunc gf args).run P w=.ok (.enter gf args) w) (hseq:Sq P gf cap Hc t ag xs) (hag: ∀cs,(ag cs).length=ps.length) (hJ0:J 0 nh)
  (hsub: ∀k nh D L,J k nh->(∃ls,Sub (HK kd kl D L lpT nh (kpH H hs hs)) Hc [] ls)/\nrf kl ((kd,.ob D dfT)::hcat nh (kpH H hs hs))=true/\∀o,nok (kpH (HK kd kl D L (λx=>x=o) nh (kpH H hs hs)) [] bs) kn (lv t)=true)
  (hround: ∀k nh x D L W o,J k nh->xs[k]?=some x->t.ok x->Hp C (HK kd kl D L (λx=>x=o) nh (kpH H hs hs)) W->tele (lv t) λpl=>
   AX (some L) P (λ_ _ _=>False) [.m (MF P D L o (λo2=>RQ D L o2 (IK C kd kl D L J (kpH H hs hs)) (XK P Y K C l D L) k) body)] assign
    ⟨C.n,[],W,blks (HK kd kl D L (λx=>x=o) nh (kpH H hs hs)) (mvl (HK kd kl D L (λx=>x=o) nh (kpH H hs hs)) bs),Fh C (HK kd kl D L (λx=>x=o) nh (kpH H hs hs))⟩ (Qiu ps (ag (cl t x pl)) l)
    (hcat (kx kn (rs t x pl)) (kpH (HK kd kl D L (λx=>x=o) nh (kpH H hs hs)) [] bs)))
  (hdone: ∀nh D L,J xs.length nh->AE none P Y K .normal ⟨C.n,mkD D::C.ds,C.w0,C.S,C.F⟩ l (HK kd kl D L lpT nh (kpH H hs hs)))
  (hg:ev l g=some (.func (.func gf) #[] cap.toArray):=by rfl) (hps:ps.all (λp=>Nat.ble (p+1) C.n)=true:=by rfl) (h0:kpH H gs gs=hcat nh (kpH H hs hs):=by kernel_rfl)
  (hn1:hk (hcat nh (kpH H hs hs)) kd=none:=by kernel_rfl) (hn2:hk (hcat nh (kpH H hs hs)) kl=none:=by kernel_rfl) (V:Nat.beq kd kl=false:=by rfl) (hbs:nod bs=true:=by rfl) (hHc:nod (Hc.map (·.1))=true:=by rfl):
  AX none P Y K (.rangeFunc g ps.toArray assign body) C l H:=λa w hf hh=>by
 have V:kd≠kl:=λe=>by rw[e,Ye]at V;cases V
 obtain⟨Φ,hΦ⟩: ∃Φ:Nat->World->Nat->Prop,Φ=λk W b=>∃h:IK C kd kl w.heap.size (w.heap.size+1) J (kpH H hs hs) k W,Fh C (HK kd kl w.heap.size (w.heap.size+1) lpT (Classical.choose h) (kpH H hs hs)) b:=⟨_,rfl⟩;have hΦe: ∀k W (h:IK C kd kl w.heap.size (w.heap.size+1) J (kpH H hs hs) k W),Φ k W=Fh C (HK kd kl w.heap.size (w.heap.size+1) lpT (Classical.choose h) (kpH H hs hs)):=λk W h=>by
  subst hΦ;funext b;exact propext ⟨λ⟨_,h2⟩=>h2,λh2=>⟨h,h2⟩⟩
 have hlast: ∀{k:Nat} {nh:List (Nat×Res)} {D:Nat},J k nh->nrf kl ((kd,.ob D dfT)::hcat nh (kpH H hs hs))=true:=λh=>(hsub _ _ _ 0 h).2.1;refine rangeK hf hg hcf xs.length _ _ (IK C kd kl w.heap.size (w.heap.size+1) J (kpH H hs hs)) (XK P Y K C l w.heap.size (w.heap.size+1)) (hseq Φ) (λk W0 W args ⟨x,cs,_,h2,_⟩=>by rw[h2];exact hag cs) (λp hp=>Q8 (Wd.1 hps p hp)) ?_ ?_ ?_ ?_ ?_ ?_ ?_ ?_;rintro W1 ⟨W',hc1,hz1,hd,hc2,hz2⟩ ⟨o,ho⟩;refine⟨nh,hJ0,?_⟩;have h1:Hp C (hcat nh (kpH H hs hs)) w:=hh.cov gs h0;have h2:Hp C ((kd,.ob w.heap.size dfT)::hcat nh (kpH H hs hs)) W':=h1.new hn1 hc1 (λb E=>by simp only[Res.bl,Qn]at E;omega) (λj I=>by cases I) λF B _ _ _=>⟨_,hd,rfl⟩;refine h2.new (by rw[Qaa,Qb V];exact hn2) hc2 (λb E=>by simp only[Res.bl,Qn]at E;omega) (λj I=>by cases I) λF B _ _ _=>⟨o,ho,trivial⟩;rintro k W W' ⟨nh,N,O⟩ hc;obtain⟨o,ho,_⟩: ∃o,W.heap[w.heap.size+1]?=some o/\lpT o:=O.hold kl (.ob (w.heap.size+1) lpT) (by rw[Qaa,Qc rfl]);have hlt:=Q4 (Qp.1 ho).1 hc.size;exact⟨nh,N,O.ob (hlast N) hc (Wp hlt) trivial⟩;exact λe W W' h hc W2 hc2=>h W2 (Ch.then (U:=[w.heap.size+1]) hc hc2 (by simp) (by simp));intro k W h;rw[hΦe k W h];obtain⟨N,O⟩:=Y1 h;obtain⟨ls,hS⟩:=(hsub _ _ w.heap.size (w.heap.size+1) N).1;exact hS.hp O hHc rfl (by simp);intro k W0 W args a1 o hk1 hI hc hlt ⟨x,cs,hx,hargs,hrep⟩ hlen ho hdf hfr;rw[hΦe k W0 hI]at hrep;obtain⟨N,O⟩:=Y1 hI;obtain⟨nh,hnh⟩: ∃nh,nh=Classical.choose hI:=⟨_,rfl⟩;rw[<-hnh]at hrep N O;have hW1:Hp C (HK kd kl w.heap.size (w.heap.size+1) (λx=>x=o) nh (kpH H hs hs)) W:=O.ob (hlast N) (hc.mono (by simp)) ho rfl;have E:=(Qdc (HK kd kl w.heap.size (w.heap.size+1) (λx=>x=o) nh (kpH H hs hs)) bs).hp hW1 (Qaj.2 ((Qek _ _ bs).nodup (Qaj.1 hbs))) (Qaj.2 ((Qdd _ bs).nodup (Qaj.1 hbs))) (by simp);have hrep2:t.rep W (Fh ⟨C.n,[],W,blks (HK kd kl w.heap.size (w.heap.size+1) (λx=>x=o) nh (kpH H hs hs)) (mvl (HK kd kl w.heap.size (w.heap.size+1) (λx=>x=o) nh (kpH H hs hs)) bs),Fh C (HK kd kl w.heap.size (w.heap.size+1) (λx=>x=o) nh (kpH H hs hs))⟩ (kpH (HK kd kl w.heap.size (w.heap.size+1) (λx=>x=o) nh (kpH H hs hs)) [] bs)) cs x:=by
  have hnb: ∀b,(∀j,¬Bk (HK kd kl w.heap.size (w.heap.size+1) (λx=>x=o) nh (kpH H hs hs)) j b)->∀j,¬Bk (kpH (HK kd kl w.heap.size (w.heap.size+1) (λx=>x=o) nh (kpH H hs hs)) [] bs) j b:=λb hB j ⟨r,h1,h2⟩=>hB j ⟨r,(Qcs h1).1,h2⟩;have hpq: ∀j b,Bk (HK kd kl w.heap.size (w.heap.size+1) (λx=>x=o) nh (kpH H hs hs)) j b->Bk (HK kd kl w.heap.size (w.heap.size+1) lpT nh (kpH H hs hs)) j b:=λj b I=>by
   by_cases e:j=kl;subst e;rw[Bk.cons_eq]at I ⊢;exact I;rw[Bk.cons_ne e]at I ⊢;exact I
  refine rep_to hrep (S:=[]) (Ch.refl W) λb E hl=>⟨by simp,?_⟩;have:Fh C (HK kd kl w.heap.size (w.heap.size+1) (λx=>x=o) nh (kpH H hs hs)) b:=by
   rcases E with E|E
   exact⟨λj I=>E.1 j (hpq j b I),E.2⟩;exact⟨λj I=>by have:=(O.bnd j b (hpq j b I)).2;omega,.inr (.inl (Wq O.ch.size E))⟩
  exact⟨hnb b this.1,.inl this⟩
 obtain⟨pl,hpl,hcs,hb2⟩:=Qev E.nds hrep2 kn ((hsub _ _ w.heap.size (w.heap.size+1) N).2.2 o);subst hcs;rw[hargs]at hfr;refine wpIn_mono (Qbb (hround k nh x w.heap.size (w.heap.size+1) W o N hx (rep_ok t hrep) hW1) pl hpl a1 W hfr hb2) λe a2 W2 he=>?_;cases e with
 |normal=>exact⟨rfl,he⟩
 |_=>exact False.elim he
 rintro W a' ⟨nh,N,O⟩ hd hf';exact hdone nh _ _ N a' W hf' O.nds;exact λW a' hX hd hf'=>hX W (Ch.refl' _ _) a' hf';exact λid W a' hX hd hf'=>hX W (Ch.refl' _ _) a' hf'
def AE.flip {D L:Nat}{o:Obj}{Yb:Obj->Exit->Act->World->Prop}{body:Code}(kd kl:Nat)(h: ∀E,AX (some L) P (Yb E) [] body ⟨C.n,[],C.w0,C.S,C.F⟩ l ((kl,.ob L (λx=>x=E))::H))(I:C.ds=[]:=by rfl)
  (V:hk H kl=some (.ob L (λx=>x=o)):=by rfl) (h2:hk H kd=some (.ob D dfT):=by rfl) (hj:hng [kl] [] H=true:=by kernel_rfl):AE (some L) P Y (.m (MF P D L o Yb body)::K) .normal C l H:=λa w W N=>by
 obtain⟨o',ho',e⟩: ∃o',w.heap[L]?=some o'/\o'=o:=N.hold kl _ V;obtain⟨d,hd,e2⟩: ∃d,w.heap[D]?=some d/\d=.deferred (some []):=N.hold kd _ h2;subst e;subst e2;rw[I]at W;exact⟨ho',hd,λW2 E hc O _=>h E a W2 W (Hp.dd (js:=[]) (N.obj (q:=λx=>x=E) V hc O rfl) hj).nds⟩
def Qdu {n:Nat}{ds:List Deferred}{W W':World}{kd kl D L M:Nat}{p:Obj->Prop}{E:Obj}{nh Hk He Ho:List (Nat×Res)}{bs gs:List Nat}{ps:List (Nat×Nat)}(I:Hp C (HK kd kl D L p nh Hk) W)(N:Hp ⟨n,ds,W,blks (HK kd kl D L p nh Hk) (mvl (HK kd kl D L p nh Hk) bs),Fh C (HK kd kl D L p nh Hk)⟩ He W')
  (O:hk He kd=some (.ob D dfT)) (V:hk He kl=some (.ob L (λx=>x=E))) (h1:(outs (kpH He gs gs)&&frs M (HK kd kl D L p nh Hk) (kpH He gs gs))=true)
  (h2:ren (hcat (sft M (kpH He gs gs)) (kill ((mvl (HK kd kl D L p nh Hk) bs).map (·.2)) (HK kd kl D L p nh Hk))) ps=(kl,.ob L (λx=>x=E))::Ho) (h3:nod (ps.map (·.1))=true) (h4:nod (ps.map (·.2))=true) (h5:nrf kl Ho=true):
  W'.heap[L]?=some E/\Dfr W' D/\∀W2,Ch [L] W' W2->Hp C ((kl,.ob L lpT)::Ho) W2:=by
 obtain⟨o',ho',e⟩: ∃o',W'.heap[L]?=some o'/\o'=E:=N.hold kl _ V;obtain⟨d,hd,e2⟩: ∃d,W'.heap[D]?=some d/\d=.deferred (some []):=N.hold kd _ O;subst e;subst e2;refine⟨ho',hd,λW2 hc=>?_⟩;have:=fin_round I N gs M ps h1 h2 h3 h4;exact this.ob h5 hc (Wp (Q4 (Qp.1 ho').1 hc.size)) trivial
def AE.bn {X:Exit->World->Prop}{k n:Nat}{W:World}{kd kl D L:Nat}{p:Obj->Prop}{E:Obj}{nh Hk He:List (Nat×Res)}{J:Nat->List (Nat×Res)->Prop}{bs:List Nat}{S:List Nat}{F:Nat->Prop}(I:Hp C (HK kd kl D L p nh Hk) W)(gs:List Nat)(M:Nat)(ps:List (Nat×Nat))(nh':List (Nat×Res))(V:J (k+1) nh')
  (hS:S=blks (HK kd kl D L p nh Hk) (mvl (HK kd kl D L p nh Hk) bs)) (hF:F=Fh C (HK kd kl D L p nh Hk))
  (N:hk He kd=some (.ob D dfT):=by rfl) (O:hk He kl=some (.ob L (λx=>x=E)):=by rfl) (h1:(outs (kpH He gs gs)&&frs M (HK kd kl D L p nh Hk) (kpH He gs gs))=true:=by kernel_rfl)
  (h2:ren (hcat (sft M (kpH He gs gs)) (kill ((mvl (HK kd kl D L p nh Hk) bs).map (·.2)) (HK kd kl D L p nh Hk))) ps=(kl,.ob L (λx=>x=E))::(kd,.ob D dfT)::hcat nh' Hk:=by kernel_rfl) (h3:nod (ps.map (·.1))=true:=by rfl) (h4:nod (ps.map (·.2))=true:=by rfl) (h5:nrf kl ((kd,.ob D dfT)::hcat nh' Hk)=true:=by kernel_rfl):
  AE (some L) P (RQ D L E (IK C kd kl D L J Hk) X k) [] .normal ⟨n,[],W,S,F⟩ l He:=λa w hf hh=>by
 subst hS;subst hF;obtain⟨h6,h7,h8⟩:=Qdu I hh N O h1 h2 h3 h4 h5;exact⟨h6,h7,nh',V,h8 w (Ch.refl' _ _)⟩
def kont_exit {r:Option Nat}{id:Nat}{a:Act}{w:World}: ∀{K:List Kx},popx id K=none->Y (.exit id) a w->kont r P Y K (.exit id) a w
 | [],_,h=>h
 | .b i::K,hp,h=>by
  unfold popx at hp;show(if id=i then kont r P Y K .normal a w else kont r P Y K (.exit id) a w);cases E:Nat.beq i id with
  |true=>rw[E]at hp;cases hp
  |false=>rw[E]at hp;rw[Qb (λe=>by subst e;simp at E)];exact kont_exit hp h
 | .c _::K,hp,h=>kont_exit (K:=K) hp h
 | .m _::K,hp,h=>kont_exit (K:=K) hp h
 | .s::K,hp,h=>kont_exit (K:=K) hp h
def AE.x {r:Option Nat}{id:Nat}{K':List Kx}(e:popx id K=some K')(h:AE r P Y K' .normal C l H):AE r P Y K (.exit id) C l H:=λa w E I=>popx_spec e (h a w E I)
def AX.bret {Kb:List Kx}{I:Nat->World->Prop}{lo:List (Nat×Value)}{k n:Nat}{W:World}{kd kl D L:Nat}{p:Obj->Prop}{E:Obj}{nh Hk He:List (Nat×Res)}{bs:List Nat}{S:List Nat}{F:Nat->Prop}(N:Hp C (HK kd kl D L p nh Hk) W)(gs:List Nat)(M:Nat)(ps:List (Nat×Nat))(Ho:List (Nat×Res))
  (hout:AE none P Y K .ret ⟨C.n,mkD D::C.ds,C.w0,C.S,C.F⟩ lo ((kl,.ob L lpT)::Ho)) (hS:S=blks (HK kd kl D L p nh Hk) (mvl (HK kd kl D L p nh Hk) bs)) (hF:F=Fh C (HK kd kl D L p nh Hk))
  (O:hk He kd=some (.ob D dfT):=by rfl) (V:hk He kl=some (.ob L (λx=>x=E)):=by rfl) (h1:(outs (kpH He gs gs)&&frs M (HK kd kl D L p nh Hk) (kpH He gs gs))=true:=by kernel_rfl)
  (h2:ren (hcat (sft M (kpH He gs gs)) (kill ((mvl (HK kd kl D L p nh Hk) bs).map (·.2)) (HK kd kl D L p nh Hk))) ps=(kl,.ob L (λx=>x=E))::Ho:=by kernel_rfl) (h3:nod (ps.map (·.1))=true:=by rfl) (h4:nod (ps.map (·.2))=true:=by rfl) (h5:nrf kl Ho=true:=by kernel_rfl):
  AX (some L) P (RQ D L E I (XK P Y K C lo D L) k) Kb .ret ⟨n,[],W,S,F⟩ l He:=λa w hf hh=>by
 subst hS;subst hF;obtain⟨h6,h7,h8⟩:=Qdu N hh O V h1 h2 h3 h4 h5;exact wpIn_ret (kont_ret ⟨h6,h7,λW' hc a' hf'=>hout a' W' hf' (h8 W' hc).nds⟩)
def AX.bexit {Kb:List Kx}{id:Nat}{I:Nat->World->Prop}{lo:List (Nat×Value)}{k n:Nat}{W:World}{kd kl D L:Nat}{p:Obj->Prop}{E:Obj}{nh Hk He:List (Nat×Res)}{bs:List Nat}{S:List Nat}{F:Nat->Prop}(N:Hp C (HK kd kl D L p nh Hk) W)(gs:List Nat)(M:Nat)(ps:List (Nat×Nat))(Ho:List (Nat×Res))
  (hout:AE none P Y K (.exit id) ⟨C.n,mkD D::C.ds,C.w0,C.S,C.F⟩ lo ((kl,.ob L lpT)::Ho)) (hS:S=blks (HK kd kl D L p nh Hk) (mvl (HK kd kl D L p nh Hk) bs)) (hF:F=Fh C (HK kd kl D L p nh Hk))
  (O:popx id Kb=none:=by rfl) (V:hk He kd=some (.ob D dfT):=by rfl) (hkl:hk He kl=some (.ob L (λx=>x=E)):=by rfl) (h1:(outs (kpH He gs gs)&&frs M (HK kd kl D L p nh Hk) (kpH He gs gs))=true:=by kernel_rfl)
  (h2:ren (hcat (sft M (kpH He gs gs)) (kill ((mvl (HK kd kl D L p nh Hk) bs).map (·.2)) (HK kd kl D L p nh Hk))) ps=(kl,.ob L (λx=>x=E))::Ho:=by kernel_rfl) (h3:nod (ps.map (·.1))=true:=by rfl) (h4:nod (ps.map (·.2))=true:=by rfl) (h5:nrf kl Ho=true:=by kernel_rfl):
  AX (some L) P (RQ D L E I (XK P Y K C lo D L) k) Kb (.exit id) ⟨n,[],W,S,F⟩ l He:=λa w hf hh=>by
 subst hS;subst hF;obtain⟨h6,h7,h8⟩:=Qdu N hh V hkl h1 h2 h3 h4 h5;exact wpIn_exit (kont_exit O ⟨h6,h7,λW' hc a' hf'=>hout a' W' hf' (h8 W' hc).nds⟩)
end
def bodyQ (P:Program)(fn:Func)(R:Ending->World->Prop):Exit->Act->World->Prop
 | .normal,a,w=>bodyPostM (FW none) 0 P fn R .normal a w
 | .ret,a,w=>bodyPostM (FW none) 0 P fn R .ret a w
 |_,_,_=>False
def unob:List (Nat×Res)->List (Nat×Res)
 | []=>[]
 |(k,r)::H=>(k,match r with
  | .ob _ _=>.dead
  |r=>match r.ref with
   |none=>r
   |some _=>.dead)::unob H
def Qgd: ∀{H:List (Nat×Res)} {k:Nat} {r:Res},hk (unob H) k=some r->r=.dead\/(hk H k=some r/\r.ref=none/\∀g p,r≠ .ob g p)
 | [],_,_,h=>by cases h
 |(d,u)::H,k,r,h=>by
  unfold unob at h;rw[Qaa]at h ⊢;split at h;rename_i e;rw[Qc e];injection h with h
  cases u with
  |ob g p=>exact .inl h.symm
  |el k b o cs=>cases k with
   |none=>subst h;exact .inr ⟨rfl,rfl,λg p e=>by cases e⟩
   |some j=>exact .inl h.symm
  |mit k g b n s la=>exact .inl h.symm
  |_=>subst h;exact .inr ⟨rfl,rfl,λg p e=>by cases e⟩
  rename_i e;rw[Qb e];exact Qgd h
def okD (H:List (Nat×Res)):List Nat->List Nat->Prop
 | [],[]=>True
 |D::Ds,k::ks=>hk H k=some (.ob D dfT)/\okD H Ds ks
 |_,_=>False
def Qhi {H:List (Nat×Res)}: ∀{Ds ks:List Nat},okD H Ds ks->∀D,D∈Ds->∃k,k∈ks/\hk H k=some (.ob D dfT)
 | [],_,_,D,h=>by cases h
 |D::Ds,[],h,_,_=>by cases h
 |D::Ds,k::ks,h,E,I=>by
  rcases Qk.1 I with rfl|I
  exact⟨k,Qi ..,h.1⟩;obtain⟨j,L,N⟩:=Qhi h.2 E I;exact⟨j,Qf _ L,N⟩
def Qip {C:Cx}{H:List (Nat×Res)}{w:World}(I:Hp C H w): ∀{Ds ks:List Nat},okD H Ds ks->ks.Nodup->Ds.Nodup
 | [],_,_,_=>X5
 |D::Ds,[],h,_=>by cases h
 |D::Ds,k::ks,h,E=>by
  rw[Wm]at E ⊢;refine⟨λL=>?_,Qip I h.2 E.2⟩;obtain⟨j,N,O⟩:=Qhi h.2 D L;have:=I.dis k j D ⟨_,h.1,by simp[Res.bl]⟩ ⟨_,O,by simp[Res.bl]⟩;exact E.1 (this▸N)
def Hp.unob {C:Cx}{H:List (Nat×Res)}{w w':World}{Ds:List Nat}(h:Hp C H w)(hD: ∀D,D∈Ds->∃k,hk H k=some (.ob D dfT))(V:Ch Ds w w'):Hp C (A.unob H) w':=by
 have E: ∀j b,Bk (A.unob H) j b->Bk H j b/\b∉Ds:=λj b ⟨r,h1,h2⟩=>by
  rcases Qgd h1 with rfl|⟨h3,_,h4⟩
  cases h2;refine⟨⟨r,h3,h2⟩,λhm=>?_⟩;obtain⟨k,O⟩:=hD b hm;have:=h.dis j k b ⟨r,h3,h2⟩ ⟨_,O,by simp[Res.bl]⟩;subst this;rw[h3]at O;injection O with O;exact h4 _ _ O
 have hfree: ∀b,(∀k,¬Bk H k b)->b∉Ds/\∀k,¬Bk (A.unob H) k b:=λb I=>⟨λhm=>by obtain⟨k,O⟩:=hD b hm;exact I k ⟨_,O,by simp[Res.bl]⟩,λj N=>I j (E j b N).1⟩;refine⟨?_,λj r N=>?_,λj b N=>?_,λj j' b N hj'=>h.dis j j' b (E j b N).1 (E j' b hj').1,λj r i N W=>?_⟩;have L:=h.ch;refine⟨V.os.trans L.os,V.tape.trans L.tape,V.output.trans L.output,Wq L.size V.size,λb I hn=>?_⟩;rw[V.block b (Q4 I L.size) (λhm=>?_)];exact L.block b I hn;obtain⟨k,O⟩:=hD b hm;rcases(h.bnd k b ⟨_,O,by simp[Res.bl]⟩).1 with h1|h1
 omega;exact hn h1;rcases Qgd N with rfl|⟨h3,h4,O⟩
 trivial;exact Res.to (h.hold j r h3) V (λb I _=>⟨(hfree b I.1).1,(hfree b I.1).2,I.2⟩) (λb I _=>hfree b I) (λi b hi _=>by rw[h4]at hi;cases hi) λb I=>(E j b ⟨r,N,I⟩).2;exact⟨(h.bnd j b (E j b N).1).1,Q4 (h.bnd j b (E j b N).1).2 V.size⟩;rcases Qgd N with rfl|⟨_,h4,_⟩
 cases W;rw[h4]at W;cases W
section
variable {r:Option Nat}{P:Program}{K:List Kx}{l:List (Nat×Value)}{H:List (Nat×Res)}
def Ct.enterM {f:FuncId}{fn:Func}{c:Code}{vs:List Value}{n:Nat}{S:List Nat}{R:Value->List (Nat×Res)->Prop}(E:P.funcs[f]?=some fn)(I:fn.body=some c)(L:fn.ntmps=n)(N:Nat.ble vs.length n=true)
  (h: ∀w F,AX none P (bodyQ P fn λe w'=>∃v H',e=.returned v/\R v H'/\Hp ⟨0,[],w,S,F⟩ H' w') [] c ⟨n,[],w,S,F⟩ (argl vs 0) H):Ct P f vs H S R:=λw F O=>
 Z.enterM E I L (Q8 N) λa hf'=>wpIn_mono (h w F a w hf' O.nds) λe a w h=>(by cases e<;>first|exact h|exact False.elim h)
def AE.rtM {fn:Func}{w0:World}{S:List Nat}{F:Nat->Prop}{n:Nat}{R:Value->List (Nat×Res)->Prop}{Ds:List Nat}{ds:List Deferred}(kds:List Nat)(ps:List (Nat×Nat))(v:Value)(I:okD H Ds kds)(hres: ∀a w,Fr a n ds l->Hp ⟨n,ds,w0,S,F⟩ (A.unob H) w->(results fn a.tmps).run P w=.ok v w)(W:R v (A.ren (A.unob H) ps))(L:marks Ds=ds:=by rfl)(hk:nod kds=true:=by rfl)(h1:nod (ps.map (·.1))=true:=by rfl)(h2:nod (ps.map (·.2))=true:=by rfl):
  AE r P (bodyQ P fn λe w'=>∃v H',e=.returned v/\R v H'/\Hp ⟨0,[],w0,S,F⟩ H' w') K .ret ⟨n,ds,w0,S,F⟩ l H:=λa w V N=>by
 subst L;refine kont_ret (retM V (λD O=>?_) (Qip N I (Qaj.1 hk)) λw' hc _=>?_);obtain⟨k,_,E⟩:=Qhi I D O;obtain⟨d,hd,e2⟩: ∃d,w.heap[D]?=some d/\d=.deferred (some []):=N.hold k _ E;subst e2;exact hd;have E:=N.unob (λD O=>by obtain⟨k,_,E⟩:=Qhi I D O;exact⟨k,E⟩) hc;exact⟨v,hres a w' V E,v,_,rfl,W,(E.ren ps h1 h2).nds⟩
def AX.rtM {fn:Func}{w0:World}{S:List Nat}{F:Nat->Prop}{n:Nat}{R:Value->List (Nat×Res)->Prop}{Ds:List Nat}{ds:List Deferred}(kds:List Nat)(ps:List (Nat×Nat))(v:Value)(I:okD H Ds kds)(hres: ∀a w,Fr a n ds l->Hp ⟨n,ds,w0,S,F⟩ (A.unob H) w->(results fn a.tmps).run P w=.ok v w)(L:R v (A.ren (A.unob H) ps))(E:marks Ds=ds:=by rfl)(hk:nod kds=true:=by rfl)(N:nod (ps.map (·.1))=true:=by rfl)(O:nod (ps.map (·.2))=true:=by rfl):
  AX r P (bodyQ P fn λe w'=>∃v H',e=.returned v/\R v H'/\Hp ⟨0,[],w0,S,F⟩ H' w') K .ret ⟨n,ds,w0,S,F⟩ l H:=λa w V W=>wpIn_ret (AE.rtM kds ps v I hres L E hk N O a w V W)
end
structure Yl (P:Program) (lid:Nat) (J:Nat->World->Prop) (Jx:World->Prop) (Φ:Nat->World->Nat->Prop) (Hc:List (Nat×Res)) (t:Ty) (ag:List Value->List Value) (xs:List t.den):Prop where
 js: ∀k W W',J k W->Ch [] W W'->J k W'
 jx: ∀W W',Jx W->Ch [] W W'->Jx W'
 dat: ∀k W,J k W->Hp ⟨0,[],W,[],Φ k W⟩ Hc W
 y: ∀k W0 W args,k<xs.length->J k W0->Ch [] W0 W->El t ag xs Φ k W0 W args->YieldAt (FW none) 0 P lid args.toArray W λe W'=>(e=.returned (.bool true)/\J (k+1) W')\/(e=.returned (.bool false)/\Jx W')
def Rem {α:Type}(xs:List α)(k:Nat)(rs:List α):Prop:=xs.drop k=rs/\k<=xs.length
def Rem.zero {α:Type}(xs:List α):Rem xs 0 xs:=⟨rfl,Xi _⟩
def Rem.nil {α:Type}{xs:List α}{k:Nat}(h:Rem xs k []):k=xs.length:=by
 have:=List.drop_eq_nil_iff.1 h.1;have:=h.2;omega
def Rem.at {α:Type}{xs rs:List α}{k:Nat}{x:α}(h:Rem xs k (x::rs)):xs[k]?=some x:=by
 have E:=h.1;have:(xs.drop k)[0]?=some x:=by rw[E];rfl
 rw[Xq]at this;simpa using this
def Rem.next {α:Type}{xs rs:List α}{k:Nat}{x:α}(h:Rem xs k (x::rs)):Rem xs (k+1) rs:=by
 refine⟨?_,?_⟩;rw[<-Jo,h.1];rfl;exact(Qd.1 h.at).1
def cns {α:Type}(x:α)(r:Option (List α)):Option (List α):=r.map (x:: ·)
def cns_some {α:Type}{x:α}{r:Option (List α)}{rs:List α}(h:cns x r=some rs): ∃rs',rs=x::rs'/\r=some rs':=by
 cases r with
 |none=>cases h
 |some l=>exact⟨l,(Xg h).symm,rfl⟩
abbrev CY (n:Nat) (Φ:Nat->World->Nat->Prop) (i:Nat×World):Cx:=⟨n,[],i.2,[],Φ i.1 i.2⟩
section
variable {P:Program}{lid:Nat}{J:Nat->World->Prop}{Jx:World->Prop}{Φ:Nat->World->Nat->Prop}{Hc:List (Nat×Res)}{t:Ty}{ag:List Value->List Value}{xs:List t.den}{n:Nat}
def Sq.enter {gf:FuncId}{fn:Func}{c:Code}{cap:List Value}(L:P.funcs[gf]?=some fn)(N:fn.body=some c)(O:fn.ntmps=n)(V:Nat.ble (cap.length+1) n=true)
  (h: ∀lid w J Jx Φ,Yl P lid J Jx Φ Hc t ag xs->J 0 w->AX none P (bodyPost P fn λe W'=>e=.returned (.tuple #[])/\(J xs.length W'\/Jx W')) [] c (CY n Φ (0,w)) (argl (.func (.yield lid) #[] #[]::cap) 0) Hc):Sq P gf cap Hc t ag xs:=λΦ lid w J Jx W h2 E I h5=>
 Z.enter L N O (Q8 V) λa hf'=>h lid w J Jx Φ ⟨W,h2,E,h5⟩ I a w hf' (E 0 w I).nds
def AL.yield {ops:Array Oper}{Q:Exit->Act->World->Prop}{rest:List Oper}{l:List (Nat×Value)}{H:List (Nat×Res)}{d:Nat}{T:TypeId}{pos:String}{af:Array Edge}{c:Operand}{ass:List Operand}{ts:Array TypeId}{vs:List Value}{k:Nat}{w0:World}{x:t.den}{rs:List t.den}
  (N:Yl P lid J Jx Φ Hc t ag xs) (V:J k w0) (I:Rem xs k (x::rs)) (cs:List Value) (W:Dat H t cs x)
  (ht: ∀w',J (k+1) w'->Rem xs (k+1) rs->AL none P ops Q rest (CY n Φ (k+1,w')) ((d,.bool true)::l) Hc)
  (he: ∀w',Jx w'->AL none P ops Q rest ⟨n,[],w',[],no⟩ ((d,.bool false)::l) [])
  (hc:ev l c=some (.func (.yield lid) #[] #[]):=by rfl) (hx:evs l ass=some vs:=by rfl) (hv:ag cs=vs:=by rfl) (hd:Nat.ble (d+1) n=true:=by rfl):
  AL none P ops Q (⟨some d,.call {callee:=.value c,args:=ass.toArray,argTypes:=ts},T,pos,af,none⟩::rest) (CY n Φ (k,w0)) l H:=λa w hf O=>by
 subst hv;have L:k<xs.length:=(Qd.1 I.at).1;refine callY hf hd hc hx (N.y k w0 w _ L V O.ch ⟨x,cs,I.at,rfl,Qdw (Dat.rep O t W) λb hb hl=>?_⟩) ?_;rcases hb.2 with E|E|E
 exact .inl E;exact .inr E;cases E
 ·rintro e w' (⟨rfl,E⟩|⟨rfl,E⟩)
  ·exact⟨_,rfl,λa' hf'=>ht w' E I.next a' w' hf' (N.dat _ _ E).nds⟩
  exact⟨_,rfl,λa' hf'=>he w' E a' w' hf' ⟨Ch.refl' _ _,λk r h=>(by cases h),λk b ⟨_,h,_⟩=>(by cases h),λk k' b ⟨_,h,_⟩=>(by cases h),λk r j h=>(by cases h)⟩⟩
def AE.rtY {fn:Func}{l:List (Nat×Value)}{H:List (Nat×Res)}{k:Nat}{w0:World}(E:Yl P lid J Jx Φ Hc t ag xs)(I:J k w0)(L:Rem xs k [])(h:fn.results=#[]:=by rfl):AE none P (bodyPost P fn λe W'=>e=.returned (.tuple #[])/\(J xs.length W'\/Jx W')) [] .normal (CY n Φ (k,w0)) l H:=λa w N O=>
 Z.endv N (Z.res0 h w) ⟨rfl,.inl (L.nil▸E.js _ _ _ I O.ch)⟩
def AX.rtX {fn:Func}{K:List Kx}{l:List (Nat×Value)}{H:List (Nat×Res)}{w0:World}{F:Nat->Prop}(E:Yl P lid J Jx Φ Hc t ag xs)(I:Jx w0)(h:fn.results=#[]:=by rfl):AX none P (bodyPost P fn λe W'=>e=.returned (.tuple #[])/\(J xs.length W'\/Jx W')) K .ret ⟨n,[],w0,[],F⟩ l H:=AX.ret0 λa w L N=>
 Z.retv L (Z.res0 h w) ⟨rfl,.inr (E.jx _ _ I N.ch)⟩
end
section
variable {r:Option Nat}{P:Program}{Y:Exit->Act->World->Prop}{K:List Kx}{C:Cx}{l:List (Nat×Value)}{H:List (Nat×Res)}{ι:Type}{Cf:ι->Cx}
abbrev StC (Cf:ι->Cx) (l:List (Nat×Value)) (H:List (Nat×Res)) (ks hs:List Nat) (J:ι->List (Nat×Value)->List (Nat×Res)->Prop):Act->World->Prop:=λa w=>∃i nl nh,J i nl nh/\Fr a (Cf i).n (Cf i).ds (cat nl (kp l ks))/\Hp (Cf i) (hcat nh (kpH H hs hs)) w
def AE.jC {l':List (Nat×Value)}{H':List (Nat×Res)}{ks hs:List Nat}{J:ι->List (Nat×Value)->List (Nat×Res)->Prop}(i:ι)(gs:List Nat)(nl:List (Nat×Value))(nh:List (Nat×Res))(E:J i nl nh)(I:kp l ((cat nl (kp l' ks)).map (·.1))=cat nl (kp l' ks):=by kernel_rfl)(L:kpH H gs gs=hcat nh (kpH H' hs hs):=by kernel_rfl):
  AE r P Y (.m (StC Cf l' H' ks hs J)::K) .normal (Cf i) l H:=λa w N O=>⟨i,nl,nh,E,Fr.cov N I,O.cov gs L⟩
def AX.loopC (Cf:ι->Cx)(E:ι)(ks hs gs:List Nat)(J:Nat->ι->List (Nat×Value)->List (Nat×Res)->Prop)(m:Nat)(nl:List (Nat×Value))(nh:List (Nat×Res)){x:Code}(I:J m E nl nh)
  (h: ∀f i nl nh,J f i nl nh->AX r P Y (.m (StC Cf l H ks hs λi nl nh=>∃f',f'<f/\J f' i nl nh)::K) x (Cf i) (cat nl (kp l ks)) (hcat nh (kpH H hs hs)))
  (V:kp l ((cat nl (kp l ks)).map (·.1))=cat nl (kp l ks):=by kernel_rfl) (W:kpH H gs gs=hcat nh (kpH H hs hs):=by kernel_rfl):AX r P Y K (.loop x) (Cf E) l H:=λa w L N=>by
 refine Z.loop (λf a w=>StC Cf l H ks hs (J f) a w) m ⟨E,nl,nh,I,Fr.cov L V,N.cov gs W⟩ λf a w ⟨i,nl,nh,I,L,N⟩=>?_;refine wpIn_mono (h f i nl nh I a w L N) λe a w hq=>?_;cases e with
 |normal=>obtain⟨i,nl,nh,⟨f',O,hJ'⟩,hf',hh'⟩:=hq;exact⟨f',O,i,nl,nh,hJ',hf',hh'⟩
 |_=>exact hq
end
def drop_at {α:Type}{xs:List α}{k:Nat}{x:α}(h:xs[k]?=some x):xs.drop k=x::xs.drop (k+1):=by
 obtain⟨E,rfl⟩:=Qd.1 h;exact Jc E
section
variable {P:Program}{kt et tt:TypeId}{κ:Type}[DecidableEq κ]{enc:κ->Value}{w:World}{b:Nat}
def Qjc {arr:List MapEntry}{clock:Nat}{ks:List κ}{z:Value}(K:Ky P kt enc)(ht:P.underlying tt=some (.map kt et))(hz: ∀w,(zeroValue et).run P w=.ok z w)(W:w.heap[b]?=some (.map arr.toArray clock))(hk:arr.map (·.key)=ks.map enc)(I: ∀e,e∈arr->e.born<clock)(O:(arr.map (·.born)).Nodup)(k:κ):
  ∃(arr1:List MapEntry) (clock1 i:Nat) (e1:MapEntry),(Instr.mapEntry tt (.map (some b)) (enc k)).run P w=.ok (.tuple #[e1.val,goInt e1.born]) (w.putObj b (.map arr1.toArray clock1))/\arr1[i]?=some e1/\e1.key=enc k/\(∀e,e∈arr1->e.born<clock1)/\(arr1.map (·.born)).Nodup/\
   ((loc k ks=some i/\arr1=arr)\/(loc k ks=none/\i=arr.length/\arr1=arr++[e1]/\e1.val=z)):=by
 have hfind:=Qap K k w arr ks hk;have hget:(getObj b).run P w=.ok (.map arr.toArray clock) w:=by simp[getObj,Sem.run,W]
 cases hloc:loc k ks with
 |none=>
  rw[hloc]at hfind;refine⟨arr++[{key:=enc k,val:=z,born:=clock}],clock+1,arr.length,{key:=enc k,val:=z,born:=clock},?_,by simp,rfl,?_,?_,.inr ⟨rfl,rfl,rfl,rfl⟩⟩;simp only[Instr.mapEntry,Sem.run_bind,run_underlying ht,Result.andThen_ok,hget,K.check,hfind,Ys,hz,MapC.set W,Sem.run_pure,List.push_toArray];intro e E;rcases Q2.1 E with E|E
  have:=I e E;omega;simp at E;subst E;simp;rw[Xm,W9];refine⟨O,by simp,λx hx y hy=>?_⟩;simp at hy;subst hy;obtain⟨e,E,rfl⟩:=Wr.1 hx;have:=I e E;omega
 |some i=>
  rw[hloc]at hfind;have hi:i<ks.length:=by
   have: ∀(ks:List κ) (i:Nat),loc k ks=some i->i<ks.length/\ks[i]?=some k:=by
    intro ks;induction ks with
    |nil=>intro i h;cases h
    |cons a r ih=>
     intro i h;unfold loc at h;split at h;rename_i e;injection h with h;subst h;subst e;exact⟨by simp,rfl⟩
     cases L:loc k r with
     |none=>rw[L]at h;cases h
     |some j=>rw[L]at h;injection h with h;subst h;have:=ih j L;exact⟨by simp;omega,by simpa using this.2⟩
   exact(this ks i hloc).1
  have hks:ks[i]?=some k:=by
   have: ∀(ks:List κ) (i:Nat),loc k ks=some i->ks[i]?=some k:=by
    intro ks;induction ks with
    |nil=>intro i h;cases h
    |cons a r ih=>
     intro i h;unfold loc at h;split at h;rename_i e;injection h with h;subst h;subst e;rfl
     cases L:loc k r with
     |none=>rw[L]at h;cases h
     |some j=>rw[L]at h;injection h with h;subst h;simpa using ih j L
   exact this ks i hloc
  have hlen:arr.length=ks.length:=by have:=Wn List.length hk;simpa using this
  obtain⟨e,E⟩: ∃e,arr[i]?=some e:=⟨_,Qg (by omega)⟩;have N:e.key=enc k:=by
   have h6:(arr.map (·.key))[i]?=some e.key:=by rw[Qq,E];rfl
   rw[hk,Qq,hks]at h6;simpa using h6.symm
  have hstay:(Instr.keyThatStays (enc k) (enc k)).run P w=.ok (enc k) w:=by simp[Instr.keyThatStays,K.bits]
  have hsame:(arr.toArray.modify i λe=>{e with key:=enc k})=arr.toArray:=by
   have:(arr.toArray.modify i λe=>{e with key:=enc k})=(arr.modify i λe=>{e with key:=enc k}).toArray:=by simp
   rw[this];refine Wn List.toArray (Xa λj=>?_);rw[Wk];by_cases V:i=j;subst V;rw[E];simp[<-N];simp[V]
  refine⟨arr,clock,i,e,?_,E,N,I,O,.inl ⟨rfl,rfl⟩⟩;simp only[Instr.mapEntry,Sem.run_bind,run_underlying ht,Result.andThen_ok,hget,K.check,hfind,Qa,E,Wg,Wu,Ja,N,hstay,hsame,MapC.set W,Sem.run_pure]
def run_entryStore {arr:List MapEntry}{clock i:Nat}{e1:MapEntry}(N:w.heap[b]?=some (.map arr.toArray clock))(W:arr[i]?=some e1)(E:(arr.map (·.born)).Nodup)(v:Value):
  (Instr.entryStore tt (.map (some b)) (goInt e1.born) v).run P w=.ok () (w.putObj b (.map (arr.modify i λe=>{e with val:=v}).toArray clock)):=by
 have hget:(getObj b).run P w=.ok (.map arr.toArray clock) w:=by simp[getObj,Sem.run,N]
 have hidx:arr.toArray.findIdx? (λe=>(e.born:Int)==(e1.born:Int))=some i:=by
  rw[Array.findIdx?_eq_some_iff_getElem];obtain⟨O,V⟩:=Qd.1 W;refine⟨by simpa using O,by simp[V],λj hj=>?_⟩;have I:j<arr.length:=by omega
  have hne:arr[j].born≠e1.born:=λh=>by
   have:=(List.getElem_inj E (i:=j) (j:=i) (h₀:=by simpa using I) (h₁:=by simpa using O)).1 (by simp[V,h]);omega
  simp only[List.getElem_toArray,beq_iff_eq];omega
 have L:(asIntOf (Value.int IntKind.i64 (e1.born:Int))).run P w=.ok (.i64,(e1.born:Int)) w:=by simp[asIntOf]
 simp only[Instr.entryStore,Sem.run_bind,hget,Result.andThen_ok,goInt,asInt,L,hidx,MapC.set N,Sem.run_pure,List.modify_toArray]
end
section
variable {P:Program}{kt et tt st ty:TypeId}{κ:Type}[DecidableEq κ]{enc:κ->Value}{w:World}{b:Nat}{t:Ty}{e:TypeId}{F G:Nat->Prop}{As:List (Option Addr×Nat)}{m:List (κ×List t.den)}
def Mr.asF {F':Nat->Prop}(h:Mr enc t e w F b As m)(E: ∀x,F x->x<w.heap.size->F' x):Mr enc t e w F' b As m:=h.to (S:=[]) (Ch.refl w) (by simp) λx I L=>⟨by simp,E x I L⟩
def Qcc {i:Nat}{a a':Option Addr×Nat}(h:As[i]?=some a): ∀x,x∈rbl (As.set i a')->x∈rbl As\/x∈obl a'.1:=λx L=>by
 obtain⟨y,I,E⟩:=Yc.1 L;rcases List.mem_or_eq_of_mem_set I with I|rfl
 exact .inl (Yc.2 ⟨y,I,E⟩);exact .inr E
def Qjg {i j:Nat}{a c:Option Addr×Nat}(V:(rbl As).Nodup)(I:As[i]?=some a)(L:As[j]?=some c)(N:i≠j): ∀x,x∈obl a.1->x∉obl c.1:=by
 induction As generalizing i j with
 |nil=>simp at I
 |cons y r W=>
  have hn':(obl y.1++rbl r).Nodup:=V;rw[W9]at hn';cases i with
  |zero=>
   cases j with
   |zero=>exact absurd rfl N
   |succ j=>
    simp only[Xh,Qz]at I;subst I;simp only[Wi]at L;exact λx O E=>hn'.2.2 x O x (Qax L E) rfl
  |succ i=>
   simp only[Wi]at I;cases j with
   |zero=>
    simp only[Xh,Qz]at L;subst L;exact λx O E=>hn'.2.2 x E x (Qax I O) rfl
   |succ j=>
    simp only[Wi]at L;exact W hn'.2.1 I L (by omega)
def Qck {i:Nat}{a a':Option Addr×Nat}(V:(rbl As).Nodup)(h:As[i]?=some a)(W:(obl a'.1).Nodup)(O: ∀x,x∈obl a'.1->x∈obl a.1\/x∉rbl As):(rbl (As.set i a')).Nodup:=by
 induction As generalizing i with
 |nil=>simp at h
 |cons y r ih=>
  have hn':(obl y.1++rbl r).Nodup:=V;rw[W9]at hn';cases i with
  |zero=>
   simp only[Xh,Qz]at h;subst h;show(obl a'.1++rbl r).Nodup;rw[W9];refine⟨W,hn'.2.1,λx I z N e=>?_⟩;subst e;rcases O x I with E|E
   exact hn'.2.2 x E x N rfl;exact E (Wt _ N)
  |succ i=>
   simp only[Wi]at h;show(obl y.1++rbl (r.set i a')).Nodup;rw[W9];refine⟨hn'.1,ih hn'.2.1 h λx I=>?_,λx I z N e=>?_⟩;rcases O x I with E|E
   exact .inl E;exact .inr λL=>E (Wt _ L);subst e;rcases Qcc h x N with E|E
   exact hn'.2.2 x I x E rfl;rcases O x E with L|L
   exact hn'.2.2 x I x (Qax h L) rfl;exact L (Ws _ I)
def Mr.keys {arr:List MapEntry}{es:List (Value×Value)}(I:arr.map (λe=>(e.key,e.val))=es)(N:es.length=m.length)(O:As.length=m.length)(L: ∀(i:Nat) (p:κ×List t.den) (a:Option Addr×Nat),m[i]?=some p->As[i]?=some a->es[i]?=some (enc p.1,.slice a.1 p.2.length a.2)/\Own t e 0 w F a.1 a.2 p.2):arr.map (·.key)=(m.map Prod.fst).map enc:=by
 have e1:arr.map (·.key)=es.map Prod.fst:=by rw[<-I,List.map_map];rfl
 rw[e1];refine Xa λi=>?_;simp only[Qq];cases E:m[i]? with
 |none=>
  have:=Yo.1 E;rw[Wf (by omega)];rfl
 |some p=>
  have V:=(Qd.1 E).1;rw[(L i p As[i] E (Qg (by omega))).1];rfl
def Qcq (A:Option Addr):(obl A).Nodup:=by cases A<;>simp[obl]
def Mr.app {i:TypeInfo}{z:Value}{bytes:Nat}(K:Ky P kt enc)(ht:P.underlying tt=some (.map kt et))(hz0: ∀w,(zeroValue et).run P w=.ok (.slice none 0 0) w)(hst:P.underlying st=some (.slice e))(hi:P.info? e=some i)(hz:i.zero=some z)(hsize:i.size=t.size)(hby:i.bytes=bytes)(hzs:z.cells.size=t.size)(hbp:0<bytes)
  (hm:Mr enc t e w F b As m) (hF: ∀x,F x->x∉b::rbl As) (hFl: ∀x,F x->x<w.heap.size) {A2:Option Addr} {c2:Nat} {ys:List t.den} (hr:Row t w F G A2 c2 ys) (hG: ∀x,G x->x≠b) (k:κ) (h63:((mget [] m k).length+ys.length)*bytes<=140737488355328):
  ∃A c n w1 A' c' O w3,(Instr.mapEntry tt (.map (some b)) (enc k)).run P w=.ok (.tuple #[.slice A (mget [] m k).length c,goInt n]) w1/\(Builtin.append_ #[st,st] ty #[.slice A (mget [] m k).length c,.slice A2 ys.length c2]).run P w1=.ok (.slice A' ((mget [] m k).length+ys.length) c') O/\
   (Instr.entryStore tt (.map (some b)) (goInt n) (.slice A' ((mget [] m k).length+ys.length) c')).run P O=.ok () w3/\Ch (b::rbl As) w w3/\∃As',Mr enc t e w3 F b As' (mins m k (mget [] m k++ys))/\∀x,x∈rbl As'->x∈rbl As\/(w.heap.size<=x/\x<w3.heap.size):=by
 obtain⟨es,⟨arr,clock,hb,h1,hlt,hnd⟩,hl,hA,V,W,he⟩:=hm;have hblt:=(Qp.1 hb).1;rw[Wm]at V;have hk:=Mr.keys h1 hl hA he;have hlen:arr.length=m.length:=by rw[<-hl,<-h1,Qw]
 obtain⟨arr1,clock1,N,e1,hrun,hi1,hek,hlt1,hnd1,hcase⟩:=Qjc K ht hz0 hb hk hlt hnd k;have hc1:=Ch.putObj w b (.map arr1.toArray clock1);have hrow: ∃A c,e1.val=.slice A (mget [] m k).length c/\Own t e 0 w F A c (mget [] m k)/\(∀x,x∈obl A->x∈rbl As)/\((loc k (m.map Prod.fst)=some N/\arr1=arr/\As[N]?=some (A,c))\/(loc k (m.map Prod.fst)=none/\N=arr.length/\arr1=arr++[e1]/\obl A=[])):=by
  rcases hcase with⟨hloc,rfl⟩|⟨hloc,hi0,harr,hv⟩
  have hmi:=Qcd hloc [];have hil:=(Qd.1 hmi).1;have hAi:As[N]?=some As[N]:=Qg (by omega);obtain⟨I,h3⟩:=he N _ _ hmi hAi;rw[<-h1,Qq,hi1]at I;injection I with I;injection I with _ I
  exact⟨_,_,I,h3,λx E=>Qax hAi E,.inl ⟨hloc,rfl,hAi⟩⟩;have hg:mget [] m k=[]:=mget_none ((Qhp m k).1 hloc);rw[hg];exact⟨none,0,hv,Own.nil t e 0 w F,(λx E=>by cases E),.inr ⟨hloc,hi0,harr,rfl⟩⟩
 obtain⟨A,c,hval,hO,hOb,hcase2⟩:=hrow;rw[hval]at hrun;have hO1:Own t e 0 (w.putObj b (.map arr1.toArray clock1)) F A c (mget [] m k):=Own.to hO hc1 (λx E _ _=>by rw[Qn];rintro rfl;exact V.1 (hOb x E)) λx E _=>⟨by rw[Qn];rintro rfl;exact hF x E (Qi ..),E⟩;have hR1:Row t (w.putObj b (.map arr1.toArray clock1)) F G A2 c2 ys:=Row.to hr hc1 (λx E _=>⟨by rw[Qn];rintro rfl;exact hF x E (Qi ..),E⟩) λx E _=>⟨by rw[Qn];exact hG x E,E⟩;obtain⟨A',c',O,happ,hO2,hc2,hnew⟩:=run_appendR (P:=P) (ty:=ty) hst hi hz hsize hby hzs hO1 hR1 h63 hbp (λx E hxA=>hF x E (Qf _ (hOb x hxA))) (Xi _);have hbA:b∉obl A:=λE=>V.1 (hOb b E);have hb1:(w.putObj b (.map arr1.toArray clock1)).heap[b]?=some (.map arr1.toArray clock1):=World.putObj_heap_same hblt;have hb2:O.heap[b]?=some (.map arr1.toArray clock1):=(hc2.block b (by simpa using hblt) hbA).trans hb1;have hstore:=run_entryStore (P:=P) (tt:=tt) hb2 hi1 hnd1 (.slice A' ((mget [] m k).length+ys.length) c');have hsz1:(w.putObj b (.map arr1.toArray clock1)).heap.size=w.heap.size:=by simp
 have hsz2:w.heap.size<=O.heap.size:=by rw[<-hsz1];exact hc2.size
 have hlt2: ∀x,x∈obl A'->x<O.heap.size:=λx E=>(hO2.lt x E).2;have hnew': ∀x,x∈obl A'->x∈obl A\/x∉rbl As:=λx E=>by
  rcases hnew x E with I|I
  exact .inl I;exact .inr λh3=>by have:=W x h3;omega
 have hc3:=Ch.putObj O b (.map (arr1.modify N λe=>{e with val:=.slice A' ((mget [] m k).length+ys.length) c'}).toArray clock1);have hall:Ch (b::rbl As) w (O.putObj b (.map (arr1.modify N λe=>{e with val:=.slice A' ((mget [] m k).length+ys.length) c'}).toArray clock1)):=
  ((hc1.mono (by simp)).then (U:=b::rbl As) (hc2.mono λx E=>.inl (hOb x E)) (λx E=>.inl E) (λx E=>.inl (Qf _ E))).then (U:=b::rbl As) hc3 (λx E=>.inl E) (λx E=>.inl (by rw[Qn]at E;subst E;exact Qi ..))
 refine⟨A,c,e1.born,_,A',c',O,_,hrun,happ,hstore,hall,?_⟩;obtain⟨v,hv⟩: ∃v,v=Value.slice A' ((mget [] m k).length+ys.length) c':=⟨_,rfl⟩;rw[<-hv]at hc3 ⊢;have hb3:(O.putObj b (.map (arr1.modify N λe=>{e with val:=v}).toArray clock1)).heap[b]?=some (.map (arr1.modify N λe=>{e with val:=v}).toArray clock1):=World.putObj_heap_same (Q4 hblt hsz2);have hborn: ∀x,x∈arr1.modify N (λe=>{e with val:=v})->x.born<clock1:=λx E=>by
  obtain⟨j,hj⟩:=W7.1 E;rw[Wk]at hj;cases L:arr1[j]? with
  |none=>rw[L]at hj;simp at hj
  |some e0=>
   rw[L]at hj;have hb0:=hlt1 e0 (Qj L);simp only[Xu,Wg,Qz]at hj;subst hj;split<;>exact hb0
 have hborns:(arr1.modify N λe=>{e with val:=v}).map (·.born)=arr1.map (·.born):=by
  refine Xa λj=>?_;simp only[Qq,Wk];cases arr1[j]? with
  |none=>rfl
  |some e0=>simp only[Xu,Wg,Qz];split<;>rfl
 have hO3:Own t e 0 (O.putObj b (.map (arr1.modify N λe=>{e with val:=v}).toArray clock1)) F A' c' (mget [] m k++ys):=Own.to hO2 hc3 (λx E _ _=>by
   rw[Qn];rintro rfl;rcases hnew x E with I|I
   exact hbA I;omega) λx E _=>⟨by rw[Qn];rintro rfl;exact hF x E (Qi ..),E⟩
 have hOj: ∀(j:Nat) (p:κ×List t.den) (a:Option Addr×Nat),m[j]?=some p->As[j]?=some a->(∀x,x∈obl a.1->x∉obl A)->Own t e 0 (O.putObj b (.map (arr1.modify N λe=>{e with val:=v}).toArray clock1)) F a.1 a.2 p.2:=λj p a hp L hdis=>by
  have I:=(he j p a hp L).2;have h3:Own t e 0 (w.putObj b (.map arr1.toArray clock1)) F a.1 a.2 p.2:=Own.to I hc1 (λx E _ _=>by rw[Qn];rintro rfl;exact V.1 (Qax L E)) λx E _=>⟨by rw[Qn];rintro rfl;exact hF x E (Qi ..),E⟩;have h4:Own t e 0 O F a.1 a.2 p.2:=Own.to h3 hc2 (λx E _ _=>hdis x E) λx E _=>⟨λhxA=>hF x E (Qf _ (hOb x hxA)),E⟩;exact Own.to h4 hc3 (λx E _ _=>by rw[Qn];rintro rfl;exact V.1 (Qax L E)) λx E _=>⟨by rw[Qn];rintro rfl;exact hF x E (Qi ..),E⟩
 have hsz3:(O.putObj b (.map (arr1.modify N λe=>{e with val:=v}).toArray clock1)).heap.size=O.heap.size:=by simp
 have hbA':b∉obl A':=λE=>by
  rcases hnew b E with I|I
  exact hbA I;omega
 have hnew2: ∀x,x∈obl A'->x∈rbl As\/(w.heap.size<=x/\x<(O.putObj b (.map (arr1.modify N λe=>{e with val:=v}).toArray clock1)).heap.size):=λx E=>by
  rcases hnew x E with I|I
  exact .inl (hOb x I);exact .inr ⟨by omega,by rw[hsz3];exact hlt2 x E⟩
 rcases hcase2 with⟨hloc,rfl,hAi⟩|⟨hloc,hi0,harr,hA0⟩
 refine⟨As.set N (A',c'),⟨_,⟨_,_,hb3,rfl,hborn,by rw[hborns];exact hnd1⟩,?_,?_,?_,?_,?_⟩,?_⟩;rw[Qao,hloc];simp[hlen];rw[Qao,hloc];simp[hA];rw[Wm];refine⟨λE=>?_,Qck V.2 hAi (Qcq A') hnew'⟩;rcases Qcc hAi b E with I|I
 exact V.1 I;exact hbA' I;intro x E;rw[hsz3];rcases Qcc hAi x E with I|I
 exact Q4 (W x I) hsz2;exact hlt2 x I;intro j p a hp L;rw[Qao,hloc]at hp;simp only[Wk]at hp;rw[Yq]at L;have hil:=(Qd.1 hAi).1;by_cases hij:N=j;subst hij;rw[Qcd hloc []]at hp;simp only[W8,hil]at L;injection L with L;subst L
 simp only[W8,Xu,Wg,Qz]at hp;subst hp;refine⟨?_,hO3⟩;rw[Qq,Wk,hi1];simp[hek,hv];simp only[hij,Wa]at L hp;simp only[Xu,id_map']at hp;have hp':m[j]?=some p:=by cases hmj:m[j]?<;>rw[hmj]at hp<;>simp at hp ⊢;exact hp
 refine⟨?_,hOj j p a hp' L (Qjg V.2 L hAi (Ne.symm hij))⟩;have I:=(he j p a hp' L).1;rw[<-h1,Qq]at I;rw[Qq,Wk];simp only[hij,Wa];cases harj:arr1[j]? with
 |none=>rw[harj]at I;cases I
 |some e0=>rw[harj]at I;simpa using I
 intro x E;rcases Qcc hAi x E with I|I
 exact .inl I;exact hnew2 x I;have hmod:(arr1.modify N λe=>{e with val:=v})=arr++[{e1 with val:=v}]:=by
  rw[harr,hi0];refine Xa λj=>?_;rw[Wk];rcases Jp j arr.length with I|I|I
  rw[Wc I,Wc I];have hne:arr.length≠j:=by omega
  simp[hne];subst I;simp;rw[Wf (by simp;omega),Wf (by simp;omega)];rfl
 have hdis: ∀x,x∈obl A'->x∉rbl As:=λx E hx2=>by
  rcases hnew x E with I|I
  rw[hA0]at I;cases I;have:=W x hx2;omega
 have hrbl:rbl (As++[(A',c')])=rbl As++obl A':=by simp[rbl]
 refine⟨As++[(A',c')],⟨_,⟨_,_,hb3,rfl,hborn,by rw[hborns];exact hnd1⟩,?_,?_,?_,?_,?_⟩,?_⟩;rw[Qao,hloc,hmod];simp[hlen];rw[Qao,hloc];simp[hA];rw[hrbl,Wm,Q2,W9];exact⟨λI=>I.elim V.1 hbA',V.2,Qcq A',λx E y hy e=>hdis y hy (e▸E)⟩;intro x E;rw[hsz3];rw[hrbl,Q2]at E;rcases E with I|I
 exact Q4 (W x I) hsz2;exact hlt2 x I;intro j p a hp L;rw[Qao,hloc]at hp;rcases Jp j m.length with I|I|I
 rw[Wc I]at hp;rw[Wc (by omega)]at L;refine⟨?_,hOj j p a hp L λx E hx2=>by rw[hA0]at hx2;cases hx2⟩;have h3:=(he j p a hp L).1;rw[<-h1,Qq]at h3;rw[hmod,Qq,Wc (by omega)];exact h3;subst I;rw[Q9 (Qt _)]at hp;rw[Q9 (by omega)]at L;simp[hA]at hp L;subst hp;subst L;refine⟨?_,hO3⟩;rw[hmod,Qq,Q9 (by omega)];simp[hlen,hek,hv];rw[Wf (by simp;omega)]at hp;cases hp;intro x E;rw[hrbl,Q2]at E;rcases E with I|I
 exact .inl I;exact hnew2 x I
end
section
variable {r:Option Nat}{P:Program}{ops:Array Oper}{Q:Exit->Act->World->Prop}{rest:List Oper}{C:Cx}{l:List (Nat×Value)}{H:List (Nat×Res)}
def lk_hd (d:Nat)(v:Value)(l:List (Nat×Value)):lk ((d,v)::l) d=some v:=by simp[lk]
def AL.mkmr {d:Nat}{T tt:TypeId}{pos:String}{af:Array Edge}(k:Nat)(κ:Type)(enc:κ->Value)(t:Ty)(e:TypeId)(h: ∀b,AL r P ops Q rest C ((d,.map (some b))::l) ((k,.mr κ enc t e b [] [])::H))(I:Nat.ble (d+1) C.n=true:=by rfl)(L:hk H k=none:=by kernel_rfl):
  AL r P ops Q (⟨some d,.makeMap tt none,T,pos,af,none⟩::rest) C l H:=λa w N O=>by
 refine Z.valw (w':=w.alloc (.map #[] 0)) (v:=.map (some w.heap.size)) N I (by simp[execOp,Instr.makeMap]) λa' hf'=>h _ a' _ hf' (O.new L (Ch.alloc w _) (λx E=>?_) (λj V=>by cases V) λF B _ _ _=>?_);simp[Res.bl,rbl]at E;subst E;simp;exact⟨[],⟨[],0,heap_alloc_new w _,rfl,by simp,by simp⟩,rfl,rfl,by simp[rbl],by simp[rbl],λi p a hp=>by simp at hp⟩
def frzM {X:Act->World->Prop}(k:Nat)(js:List Nat){κ:Type}{enc:κ->Value}{t:Ty}{e:TypeId}{b:Nat}{As:List (Option Addr×Nat)}{m:List (κ×List t.den)}(h: ∀a w,Fr a C.n C.ds l->Hp C ((k,.mp κ enc (.slice t) false b m)::ded js H) w->X a w)(E:hk H k=some (.mr κ enc t e b As m):=by rfl)(N:hng [k] js H=true:=by kernel_rfl): ∀a w,Fr a C.n C.ds l->Hp C H w->X a w:=λa w hf V=>by
 refine h a w hf (Hp.dd (V.upd (S:=[]) (Ch.refl w) (by simp) (λx I=>.inl ⟨_,E,by simp[Res.bl]at I ⊢;exact .inl I⟩) (λj N=>by cases N) λF B h1 h2 _ _ _=>?_) N);obtain⟨es,c1,c2,c3,c4,c5,c6⟩:Mr enc t e w (Fh C H) b As m:=V.hold k _ E;refine⟨es,c1,c2,λi p hp=>?_⟩;have W:=(Qd.1 hp).1;have O:As[i]?=some As[i]:=Qg (by omega);obtain⟨c7,cells,hr,o1,o2⟩:=c6 i p _ hp O;refine⟨[.slice As[i].1 p.2.length As[i].2],c7,?_⟩;have hO':Own t e 0 w F As[i].1 As[i].2 p.2:=⟨cells,hr,o1,λi x W=>Qdw (o2 i x W) λb hb hl=>h1 b hb hl⟩;refine hO'.rep (λ_ h=>h) λx I=>h2 x ⟨_,E,by simp only[Res.bl];exact Qf _ (Qax O I)⟩ λL=>?_;simp only[Res.bl,Qn]at L;subst L;exact(Wm.1 c4).1 (Qax O I)
def AL.mapp {κ:Type}[DecidableEq κ]{enc:κ->Value}{kt et tt st e:TypeId}{t:Ty}{b d1 d2 d3 d4 n2:Nat}{As:List (Option Addr×Nat)}{m:List (κ×List t.den)}{mx kx y:Operand}{i:TypeInfo}{z:Value}{bytes sz:Nat}{A2:Option Addr}{c2:Nat}{ys:List t.den}
  {T1 T2 T3 T4 T5:TypeId} {p1 p2 p3 p4 p5:String} {f1 f2 f3 f4 f5:Array Edge} (k ky:Nat) (js:List Nat) (K:Ky P kt enc) (key:κ) (hz0: ∀w,(zeroValue et).run P w=.ok (.slice none 0 0) w)
  (hinf:P.info? e=some i/\i.zero=some z/\i.size=sz/\i.bytes=bytes/\z.cells.size=sz) (h63:((mget [] m key).length+ys.length)*bytes<=140737488355328)
  (h: ∀As' O v2 v3 v4,AL r P ops Q rest C ((d4,v4)::(d3,v3)::(d2,v2)::(d1,O)::l) ((k,.mr κ enc t e b As' (mins m key (mget [] m key++ys)))::ded js H))
  (hk1:hk H k=some (.mr κ enc t e b As m):=by rfl) (hk2:hk H ky=some (.own t e A2 c2 ys):=by rfl) (L:Nat.beq k ky=false:=by rfl) (E:ev l mx=some (.map (some b)):=by rfl) (hy:ev l kx=some (enc key):=by rfl) (hyy:ev l y=some (.slice A2 n2 c2):=by rfl) (hn2:n2=ys.length:=by rfl) (hsz:sz=t.size:=by rfl) (hbp:Nat.ble 1 bytes=true:=by rfl)
  (ht:P.underlying tt=some (.map kt et):=by rfl) (hst:P.underlying st=some (.slice e):=by rfl) (hd1:Nat.ble (d1+1) C.n=true:=by rfl) (hd2:Nat.ble (d2+1) C.n=true:=by rfl) (hd3:Nat.ble (d3+1) C.n=true:=by rfl) (hd4:Nat.ble (d4+1) C.n=true:=by rfl)
  (hl: ∀O v2 v3 v4,ev ((d2,v2)::(d1,O)::l) y=ev l y/\ev ((d4,v4)::(d3,v3)::(d2,v2)::(d1,O)::l) mx=ev l mx/\lk ((d3,v3)::(d2,v2)::(d1,O)::l) d1=some O/\lk ((d4,v4)::(d3,v3)::(d2,v2)::(d1,O)::l) d3=some v3:=by exact λ_ _ _ _=>⟨rfl,rfl,rfl,rfl⟩) (hj:hng [k] js H=true:=by kernel_rfl):
  AL r P ops Q (⟨some d1,.mapEntry tt mx kx,T1,p1,f1,none⟩::⟨some d2,.extract (.tmp d1) 0,T2,p2,f2,none⟩::⟨some d3,.call {callee:=.builtin .append,args:=#[.tmp d2,y],argTypes:=#[st,st]},T3,p3,f3,none⟩::⟨some d4,.extract (.tmp d1) 1,T4,p4,f4,none⟩::⟨none,.entryStore tt mx (.tmp d4) (.tmp d3),T5,p5,f5,none⟩::rest) C l H:=λa w hf hh=>by
 subst hn2;subst hsz;obtain⟨hi,hz,hsize,hby,hzs⟩:=hinf;have L:k≠ky:=λe=>by rw[e,Ye]at L;cases L
 have hM:Mr enc t e w (Fh C H) b As m:=hh.hold k _ hk1;have hM2:Mr enc t e w (λx=>Fh C H x/\x<w.heap.size) b As m:=by
  obtain⟨es,c1,c2,c3,c4,c5,c6⟩:=hM;refine⟨es,c1,c2,c3,c4,c5,λi p a hp ha=>?_⟩;obtain⟨c7,cells,hr,o1,o2⟩:=c6 i p a hp ha;exact⟨c7,cells,hr,o1,λi x hi=>Qaf t (o2 i x hi)⟩
 obtain⟨G,hR,hG⟩:=rowO hk2 w hh;have hR2:Row t w (λx=>Fh C H x/\x<w.heap.size) G A2 c2 ys:=by
  obtain⟨r1,r2,cs,r3,r4,r5⟩:=hR;exact⟨r1,r2,cs,r3,r4,λi x hi=>Qaf t (r5 i x hi)⟩
 have I: ∀x,x∈b::rbl As->Bk H k x:=λx E=>⟨_,hk1,E⟩;obtain⟨A,c,n,w1,A',c',w2,w3,e1,e2,e3,hch,As',hM3,hnew⟩:=hM2.app (ty:=T3) K ht hz0 hst hi hz hsize hby hzs (Q8 hbp) (λx E V=>E.1.1 k (I x V)) (λx E=>E.2) hR2 (λx hgx V=>L (hh.dis k ky b (I b (Qi ..)) (V▸hG x hgx))) key h63;refine Z.valw (w':=w1) (v:=.tuple #[.slice A (mget [] m key).length c,goInt n]) hf hd1 ?_ λa1 hf1=>?_;simp only[execOp,Sem.run_bind,hf.eval E,hf.eval hy,e1,Result.andThen_ok,Sem.run_pure];refine Z.val (v:=.slice A (mget [] m key).length c) hf1 hd2 (Z.r_extract (hf1.eval (x:=.tmp d1) (lk_hd _ _ _)) rfl) λa2 W=>?_;obtain⟨q1,_,_,_⟩:=hl (.tuple #[.slice A (mget [] m key).length c,goInt n]) (.slice A (mget [] m key).length c) undef undef;refine Z.valw (w':=w2) (v:=.slice A' ((mget [] m key).length+ys.length) c') W hd3 ?_ λa3 hf3=>?_;simp only[execOp,resolve,invoke,builtin,Sem.run_bind,Sem.run_pure,Result.andThen_ok,Ya,Q1,Xk,W.eval (x:=.tmp d2) (v:=.slice A (mget [] m key).length c) (lk_hd _ _ _),W.eval (q1.trans hyy),e2];obtain⟨_,_,q3,_⟩:=hl (.tuple #[.slice A (mget [] m key).length c,goInt n]) (.slice A (mget [] m key).length c) (.slice A' ((mget [] m key).length+ys.length) c') undef;refine Z.val (v:=goInt n) hf3 hd4 (Z.r_extract (hf3.eval (x:=.tmp d1) q3) rfl) λa4 N=>?_;obtain⟨_,q2,_,q4⟩:=hl (.tuple #[.slice A (mget [] m key).length c,goInt n]) (.slice A (mget [] m key).length c) (.slice A' ((mget [] m key).length+ys.length) c') (goInt n);refine Z.skipw (w':=w3) N ?_ λa5 hf5=>h As' _ _ _ _ a5 w3 hf5 (Hp.dd (hh.upd hch I (λx E=>?_) (λj hj=>by cases hj) λF B hF _ _ _ _=>hM3.asF λx E _=>hF x E.1 E.2) hj);simp only[execOp,Sem.run_bind,N.eval (q2.trans E),N.eval (x:=.tmp d4) (v:=goInt n) (lk_hd _ _ _),N.eval (x:=.tmp d3) q4,e3,Result.andThen_ok,Sem.run_pure];simp only[Res.bl]at E;rcases Qk.1 E with rfl|E
 exact .inl (I _ (Qi ..));rcases hnew x E with h2|h2
 exact .inl (I _ (Qf _ h2));exact .inr h2
end
end Go.A
end
section
namespace Go.A
open Go.RowKit Go.Z Go.Shelf Go.Proofs Go.Lib
def tabF:List Value:=(List.range 256).map λc=>.int .u8 (firstT c)
def tabA:List Value:=(List.range 32).map λj=>.int .u8 (if j%2=0 then accLo (j / 2)else accHi (j / 2))
def tabs_of {w:World}{E I:Nat}(N:Cells w ⟨E,0,none⟩ tabF)(L:Cells w ⟨I,0,none⟩ tabA):Lib.Utf8Tabs E I w:=by
 refine⟨λc O=>?_,λi hi=>⟨?_,?_⟩⟩;have:=N c (.int .u8 (firstT c)) (by simp[tabF,O]);rw[Addr.add_lit,Xc]at this;exact this;have:=L (2*i) (.int .u8 (accLo i)) (by
  have:2*i<32:=by omega
  simp[tabA,this])
 rw[Addr.add_lit,Xc]at this;exact this;have:=L (2*i+1) (.int .u8 (accHi i)) (by
  have V:2*i+1<32:=by omega
  have W:(2*i+1)%2=1:=by omega
  have h5:(2*i+1) / 2=i:=by omega
  simp[tabA,V,W,h5])
 rw[Addr.add_lit,Xc]at this;exact this
def Ct.valid {P:Program}{ρ:Ren}{f I N:Nat}(L:Lays.n196 P ρ)(V:ρ.f 196=f)(W:ρ.g 3=I)(h4:ρ.g 4=N)(s:ByteArray)(hs:s.size<=maxLen)(r:Bool)(E:some (Lib.validD s.data.toList)=some r):
  Ct P f [.string s] [(0,.el none I 0 tabF),(1,.el none N 0 tabA)] [] (λv H'=>v=.bool r/\H'=[]):=λw F O=>by
 subst V;subst W;subst h4;have E:=Xg E;subst E;have h1:Cells w ⟨ρ.g 3,0,none⟩ tabF:=(O.hold 0 (.el none (ρ.g 3) 0 tabF) rfl).1;have h2:Cells w ⟨ρ.g 4,0,none⟩ tabA:=(O.hold 1 (.el none (ρ.g 4) 0 tabA) rfl).1;refine(Any.utf8_ValidString L s w (by simp only[maxLen]at hs;omega) (tabs_of h1 h2)).mono ?_;rintro e w' ⟨rfl,hb⟩;exact⟨_,[],rfl,⟨rfl,rfl⟩,(Ch.of_below hb),λk r h=>(by cases h),λk b ⟨_,h,_⟩=>(by cases h),λk k' b ⟨_,h,_⟩=>(by cases h),λk r j h=>(by cases h)⟩
end Go.A
end
section
namespace Go.A
open Go.RowKit
abbrev i (x:Int):Value:=.int .i64 x
abbrev h6:=IntKind.i64.has
abbrev ti:=Z.Ty.int .i64
abbrev TI:=Z.Ty.slice ti
def si{α:Type}{a b:α}(h:some a=some b):a=b:=Xg h
end Go.A
end
section
namespace Go.Proofs.YtlhiofnikdppeaaGreatDoor
open Go.RowKit Go.Shelf Go.Lib
def Tryz.laysValid_ren:Go.Shelf.Ren:=⟨λ|196=>141|259=>169|n=>n,λ|9=>9|4=>4|3=>3|5=>5|12=>12|119=>211|0=>0|46=>120|139=>214|138=>213|53=>152|n=>n,λ|3=>0|4=>1|n=>n⟩
def Tryz.laysValid:Go.Proofs.Lays.n196 Tryz.prog Tryz.laysValid_ren where
 mixed:=by kernel_rfl
 f196:=Tryz.func141.trans (Wn some (by kernel_rfl));f259:=Tryz.func169.trans (Wn some (by kernel_rfl));t0:=Tryz.underlying0;a0:=Tryz.isAgg0;z0:=Tryz.sizeOf0;v0:=Tryz.zeroValue0;t3:=Tryz.underlying3;a3:=Tryz.isAgg3;z3:=Tryz.sizeOf3;v3:=Tryz.zeroValue3;t4:=Tryz.underlying4;a4:=Tryz.isAgg4;z4:=Tryz.sizeOf4;v4:=Tryz.zeroValue4;t5:=Tryz.underlying5;a5:=Tryz.isAgg5;z5:=Tryz.sizeOf5;v5:=Tryz.zeroValue5;t9:=Tryz.underlying9;a9:=Tryz.isAgg9;z9:=Tryz.sizeOf9;v9:=Tryz.zeroValue9;t12:=Tryz.underlying12;a12:=Tryz.isAgg12;z12:=Tryz.sizeOf12;v12:=Tryz.zeroValue12;t46:=Tryz.underlying120;a46:=Tryz.isAgg120;z46:=Tryz.sizeOf120;v46:=Tryz.zeroValue120;t53:=Tryz.underlying152;a53:=Tryz.isAgg152;z53:=Tryz.sizeOf152;v53:=Tryz.zeroValue152;t119:=Tryz.underlying211;a119:=Tryz.isAgg211;z119:=Tryz.sizeOf211;t138:=Tryz.underlying213;a138:=Tryz.isAgg213;z138:=Tryz.sizeOf213;v138:=Tryz.zeroValue213;t139:=Tryz.underlying214;a139:=Tryz.isAgg214;z139:=Tryz.sizeOf214;v139:=Tryz.zeroValue214;g3:=by kernel_rfl
 g4:=by kernel_rfl
def F.aS (h:ByteArray):Option Bool:=some (Lib.validD h.data.toList)
theorem o_s (h:ByteArray)(h1:h.size<=maxLen)(r:Bool)(o:F.aS h=some r):
  A.Ct Tryz.prog 141 [.string h] [(0,.el none 0 0 A.tabF),(1,.el none 1 0 A.tabA)] [] (λv H'=>v=.bool r/\H'=[]):=
 A.Ct.valid Tryz.laysValid rfl rfl rfl h h1 r o
end Go.Proofs.YtlhiofnikdppeaaGreatDoor
end
section
namespace Go.A
open Go.RowKit Go.Z
def mb:Nat->Nat->List Bool
 |0,_=>[]
 |n+1,m=>Nat.beq (m%2) 1::mb n (m / 2)
def nxs:Nat->Option Code->List Kx->Option (Option Code×List Kx)
 |0,c,K=>some (c,K)
 |n+1,some (.seq x y),K=>nxs n (some x) (.c y::K)
 |n+1,some (.block id c),K=>nxs n (some c) (.b id::K)
 |n+1,some .skip,K=>nxs n none K
 |n+1,some (.label _),K=>nxs n none K
 |n+1,some (.exit id),K=>match popx id K with
  |some K'=>nxs n none K'
  |none=>none
 |n+1,none,.c y::K=>nxs n (some y) K
 |n+1,none,.b _::K=>nxs n none K
 |n+1,none,.s::K=>nxs n none K
 |_+1,_,_=>none
section
variable {r:Option Nat}{P:Program}{Y:Exit->Act->World->Prop}{C:Cx}{l:List (Nat×Value)}{H:List (Nat×Res)}{K K':List Kx}{c c':Code}
def GX (r:Option Nat)(P:Program)(Y:Exit->Act->World->Prop)(C:Cx)(l:List (Nat×Value))(H:List (Nat×Res)):Option Code->List Kx->Prop
 |some c,K=>AX r P Y K c C l H
 |none,K=>AE r P Y K .normal C l H
def o_bg: ∀{n:Nat} {c c':Option Code} {K K':List Kx},nxs n c K=some (c',K')->GX r P Y C l H c' K'->GX r P Y C l H c K:=by
 intro n;induction n with
 |zero=>intro c c' K K' e h;injection e with e;injection e with e1 e2;subst e1;subst e2;exact h
 |succ n E=>
  intro c c' K K' e h;unfold nxs at e;split at e;injection e with e;injection e with e1 e2;subst e1;subst e2;exact h
  rename_i e0;cases e0;exact AX.seq (E e h);rename_i e0;cases e0;exact AX.block (E e h);rename_i e0;cases e0;exact AX.skip (E e h);rename_i e0;cases e0;exact AX.label (E e h);rename_i e0;cases e0;split at e;rename_i hp;exact AX.exit hp (E e h);cases e;rename_i e0;cases e0;exact AE.c (E e h);rename_i e0;cases e0;exact AE.b (E e h);rename_i e0;cases e0;exact AE.s (E e h);cases e
def xx (n:Nat)(h:AX r P Y K' c' C l H)(e:nxs n (some c) K=some (some c',K'):=by rfl):AX r P Y K c C l H:=o_bg (c:=some c) (c':=some c') e h
def xe (n:Nat)(h:AE r P Y K' .normal C l H)(e:nxs n (some c) K=some (none,K'):=by rfl):AX r P Y K c C l H:=o_bg (c:=some c) (c':=none) e h
def ex (n:Nat)(h:AX r P Y K' c' C l H)(e:nxs n none K=some (some c',K'):=by rfl):AE r P Y K .normal C l H:=o_bg (c:=none) (c':=some c') e h
def ee (n:Nat)(h:AE r P Y K' .normal C l H)(e:nxs n none K=some (none,K'):=by rfl):AE r P Y K .normal C l H:=o_bg (c:=none) (c':=none) e h
def xl (n:Nat){id:Nat}{lo:List Oper}(h:AL r P lo.toArray (kont r P Y K') lo C l H)(e:nxs n (some c) K=some (some (.region id lo.toArray false),K'):=by rfl):AX r P Y K c C l H:=xx n (AX.reg h) e
def el (n:Nat){id:Nat}{lo:List Oper}(h:AL r P lo.toArray (kont r P Y K') lo C l H)(e:nxs n none K=some (some (.region id lo.toArray false),K'):=by rfl):AE r P Y K .normal C l H:=ex n (AX.reg h) e
def dl (n:Nat){ops:Array Oper}{id:Nat}{lo:List Oper}(h:AL r P lo.toArray (kont r P Y K') lo C l H)(e:nxs n none K=some (some (.region id lo.toArray false),K'):=by rfl):AL r P ops (kont r P Y K) [] C l H:=AL.done (el n h e)
def dx (n:Nat){ops:Array Oper}(h:AX r P Y K' c' C l H)(e:nxs n none K=some (some c',K'):=by rfl):AL r P ops (kont r P Y K) [] C l H:=AL.done (ex n h e)
def de (n:Nat){ops:Array Oper}(h:AE r P Y K' .normal C l H)(e:nxs n none K=some (none,K'):=by rfl):AL r P ops (kont r P Y K) [] C l H:=AL.done (ee n h e)
end
section
variable {r:Option Nat}{P:Program}{ops:Array Oper}{Q:Exit->Act->World->Prop}{lst rest:List Oper}{C:Cx}{l:List (Nat×Value)}{H:List (Nat×Res)}{T:TypeId}{pos:String}{af:Array Edge}
def q0 (bs es:List Nat)(hs:List Hint)(nl:List (Nat×Value))(h:AL r P ops Q (lst.drop hs.length) C (cat nl l) H)
  (hq:((qs P ⟨knb H bs,kne H es⟩ C.n ops hs lst (Z.q0 l)).bind (qfin l (nl.map Prod.fst)))=some ([],nl):=by kernel_rfl)
  (E:(qs P ⟨knb H bs,kne H es⟩ C.n ops hs lst (Z.q0 l)).map (λs=>s.q.map Prod.fst)=(qs P ⟨knb H bs,kne H es⟩ C.n ops hs lst (Z.q0 l)).map (λs=>s.q.map Prod.snd):=by kernel_rfl):AL r P ops Q lst C l H:=
 AL.q bs es hs (nl.map Prod.fst) [] nl trivial h hq E
def q (bs es:List Nat)(hs:List Hint)(cs:List Prop)(nl:List (Nat×Value))(E:conj cs)(h:AL r P ops Q (lst.drop hs.length) C (cat nl l) H)
  (hq:((qs P ⟨knb H bs,kne H es⟩ C.n ops hs lst (Z.q0 l)).bind (qfin l (nl.map Prod.fst)))=some (cs,nl):=by kernel_rfl)
  (I:(qs P ⟨knb H bs,kne H es⟩ C.n ops hs lst (Z.q0 l)).map (λs=>s.q.map Prod.fst)=(qs P ⟨knb H bs,kne H es⟩ C.n ops hs lst (Z.q0 l)).map (λs=>s.q.map Prod.snd):=by kernel_rfl):AL r P ops Q lst C l H:=
 AL.q bs es hs (nl.map Prod.fst) cs nl E h hq I
def sw (k:Nat)(js:List Nat)(new:List Value){t bt:TypeId}{x y:Operand}{g o m:Nat}{cs:List Value}{v:Value}(h:AL r P ops Q rest C l ((k,.blk g bt new)::ded js H))
  (E:hk H k=some (.blk g bt cs):=by rfl) (I:ev l x=some (.pointer (some ⟨g,o,none⟩)):=by rfl) (L:ev l y=some v:=by rfl) (N:szB P t=some m:=by kernel_rfl)
  (O:v.cells=new.toArray:=by rfl) (V:new.length=m:=by rfl) (W:Nat.ble (o+m) cs.length=true:=by rfl) (h1:new.all (λu=>u.oneCell')=true:=by rfl) (hc:cs.take o++new++cs.drop (o+m)=new:=by rfl) (hj:hng [k] js H=true:=by kernel_rfl):
  AL r P ops Q (⟨none,.store t x y,T,pos,af,none⟩::rest) C l H:=AL.store k js h E I L N O V W h1 hc hj
end
section
variable {r:Option Nat}{P:Program}{Y:Exit->Act->World->Prop}{K:List Kx}{C:Cx}{l:List (Nat×Value)}{H:List (Nat×Res)}
def j {l':List (Nat×Value)}{H':List (Nat×Res)}{ks hs:List Nat}{J:List (Nat×Value)->List (Nat×Res)->Prop}{nl:List (Nat×Value)}{nh:List (Nat×Res)}(E:J nl nh)(I:kp l ((cat nl (kp l' ks)).map (·.1))=cat nl (kp l' ks):=by kernel_rfl)(L:kpH H (nh.map (·.1)++hs) (nh.map (·.1)++hs)=hcat nh (kpH H' hs hs):=by kernel_rfl):
  AE r P Y (.m (St C l' H' ks hs J)::K) .normal C l H:=AE.j (nh.map (·.1)++hs) nl nh E I L
def lp_ (ks hs:List Nat)(J:Nat->List (Nat×Value)->List (Nat×Res)->Prop){nl:List (Nat×Value)}{nh:List (Nat×Res)}{x:Code}(E:J FU nl nh)
  (h: ∀f nl nh,J f nl nh->AX r P Y (.m (St C l H ks hs λnl nh=>∃f',f'<f/\J f' nl nh)::K) x C (cat nl (kp l ks)) (hcat nh (kpH H hs hs)))
  (I:kp l ((cat nl (kp l ks)).map (·.1))=cat nl (kp l ks):=by kernel_rfl) (L:kpH H (nh.map (·.1)++hs) (nh.map (·.1)++hs)=hcat nh (kpH H hs hs):=by kernel_rfl):AX r P Y K (.loop x) C l H:=
 AX.loop ks hs (nh.map (·.1)++hs) J FU nl nh E h I L
end
section
variable {r:Option Nat}{P:Program}{ops:Array Oper}{Q:Exit->Act->World->Prop}{Hq:List (Nat×Res)}{m g:Nat}{li:List Bool}{C:Cx}{l:List (Nat×Value)}{H:List (Nat×Res)}
def hq (I:Pq Q)(gs qs bs es:List Nat)(li':List Bool)(f:Nat)(is:List (Nat×Hint))(nl:List (Nat×Value))(h:AH r P ops Q (kpH H qs qs) m f li' C (cat nl l) H)
  (L:g=f+is.length:=by rfl) (N:is.all (λp=>bon ops m p.1)=true:=by kernel_rfl) (E:cloB ops li.toArray=true:=by kernel_rfl) (O:(Region.noSelect ops&&Qav ops)=true:=by kernel_rfl)
  (hq:((dqs P ⟨knb (kpH H qs qs) bs,kne (kpH H qs qs) es⟩ C.n ops is li.toArray (Z.q0 l)).bind λx=>(qfin l (nl.map Prod.fst) x.2).map λy=>(x.1.toList,y))=some (li',[],nl):=by kernel_rfl)
  (V:(dqs P ⟨knb (kpH H qs qs) bs,kne (kpH H qs qs) es⟩ C.n ops is li.toArray (Z.q0 l)).map (λs=>s.2.q.map Prod.fst)=(dqs P ⟨knb (kpH H qs qs) bs,kne (kpH H qs qs) es⟩ C.n ops is li.toArray (Z.q0 l)).map (λs=>s.2.q.map Prod.snd):=by kernel_rfl)
  (e:kpH (kpH H qs qs) gs gs=Hq:=by kernel_rfl):AH r P ops Q Hq m g li C l H:=AH.q I gs qs bs es li' f is (nl.map Prod.fst) [] nl trivial h L N E O hq V e
end
section
variable {r:Option Nat}{P:Program}{l:List (Nat×Value)}{H:List (Nat×Res)}{fn:Func}{K:List Kx}{w0:World}{S:List Nat}{F:Nat->Prop}{n:Nat}{R:Value->List (Nat×Res)->Prop}
def rt1 (ps:List (Nat×Nat)){t:Nat}{v:Value}(E:R v (A.ren H ps))(I:fn.results=#[.tmp t]:=by rfl)(L:lk l t=some v:=by rfl)(N:nod (ps.map (·.1))=true:=by rfl)(O:nod (ps.map (·.2))=true:=by rfl):
  AX r P (bodyPost P fn λe w'=>∃v H',e=.returned v/\R v H'/\Hp ⟨0,[],w0,S,F⟩ H' w') K .ret ⟨n,[],w0,S,F⟩ l H:=AX.ret ps v (λa w h V=>Z.resv1 I (Z.rv_t h L)) E N O
def rt2 (ps:List (Nat×Nat)){t u:Nat}{v E:Value}(I:R (.tuple #[v,E]) (A.ren H ps))(L:fn.results=#[.tmp t,.tmp u]:=by rfl)(N:lk l t=some v:=by rfl)(O:lk l u=some E:=by rfl)(V:nod (ps.map (·.1))=true:=by rfl)(W:nod (ps.map (·.2))=true:=by rfl):
  AX r P (bodyPost P fn λe w'=>∃v H',e=.returned v/\R v H'/\Hp ⟨0,[],w0,S,F⟩ H' w') K .ret ⟨n,[],w0,S,F⟩ l H:=AX.ret ps (.tuple #[v,E]) (λa w h hh=>Z.resv2 L (Z.rv_t h N) (Z.rv_t h O)) I V W
end
def pb {r:Option Nat}{P:Program}{fn:Func}{R:Ending->World->Prop}{K:List Kx}:Pq (kont r P (bodyPost P fn R) K):=pk_kont (Z.Pq.body _ _ _)
section
variable {P:Program}{C:Cx}{l:List (Nat×Value)}{H:List (Nat×Res)}
def cutp {X:Act->World->Prop}(k kn:Nat){t:Ty}{A:Option Addr}{c:Nat}{xs:List t.den}(v:Nat)(V:v<=xs.length)(h: ∀a w,Fr a C.n C.ds l->Hp C ((kn,.sh (.slice t) [.slice A (xs.take v).length c] (xs.take v))::H) w->X a w)
  (E:hk H k=some (.sh (.slice t) [.slice A xs.length c] xs):=by rfl) (W:hk H kn=none:=by kernel_rfl): ∀a w,Fr a C.n C.ds l->Hp C H w->X a w:=λa w hf O=>by
 have hr:(Ty.slice t).rep w (Fh C H) [.slice A xs.length c] xs:=O.hold k _ E;have I:(xs.take v).length=v:=by rw[Qy];omega
 have L:=rep_take hr V;have N:(Ty.slice t).rep w (Fh C H) [.slice A (xs.take v).length c] (xs.take v):=by rw[I];exact L
 exact h a w hf (O.add W rfl (λj hj=>by cases hj) (Qaf _ N))
def r_cuth (k:Nat){a:Act}{w:World}{t:Ty}{tt e:TypeId}{x N:Operand}{A:Option Addr}{c:Nat}{xs:List t.den}{V:IntKind}{q:Int}{v:Nat}{d:Option Tmp}{T:TypeId}{pos:String}{af:Array Edge}{gd:Option (Nat×Bool)}(O:Fr a C.n C.ds l)(W:Hp C H w)(hq:q=(v:Int))(h2:v<=xs.length)
  (E:hk H k=some (.sh (.slice t) [.slice A xs.length c] xs):=by rfl) (hx:ev l x=some (.slice A xs.length c):=by rfl) (I:ev l N=some (.int V q):=by rfl) (hS:szB P e=some t.size:=by kernel_rfl)
  (ht:P.underlying tt=some (.slice e):=by rfl):(execOp a.eval ⟨d,.slice tt x none (some N) none,T,pos,af,gd⟩).run P w=.ok (.value (.slice A (xs.take v).length c)) w:=by
 have hr:(Ty.slice t).rep w (Fh C H) [.slice A xs.length c] xs:=W.hold k _ E;have hlen:=rep_slice_len hr;have L:(xs.take v).length=v:=by rw[Qy];omega
 rw[L];exact Qem ht (Qak hS) (O.eval hx) (O.eval I) hq (by omega)
end
end Go.A
end
