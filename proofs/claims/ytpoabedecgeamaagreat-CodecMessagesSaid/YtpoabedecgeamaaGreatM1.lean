import Derived.Test.YtpoabedecgeamaaGreatM0
import Derived.Scope
import Derived.WalkSmall
import Derived.Laws.IdiomStrings
import Derived.Laws.Cover4
import Derived.Lib.TrimU
import Derived.Shelf.Small.Strs
import Derived.Calls
import GoSem.Step
import Derived.Shelf.SlSortCmp.NoneTotal
set_option linter.defProp false
set_option linter.unusedVariables false
set_option linter.unusedSimpArgs false
set_option linter.unusedSectionVars false
section
namespace Go.A
open Go.RowKit Go.Z
def Bk.cons_ne {H:List (Nat×Res)}{k j b:Nat}{r:Res}(h:j≠k):Bk ((k,r)::H) j b↔Bk H j b:=by
 unfold Bk;rw[Qaa,Qc (Ne.symm h)]
def Bk.cons_eq {H:List (Nat×Res)}{k b:Nat}{r:Res}:Bk ((k,r)::H) k b↔b∈r.bl:=by
 unfold Bk;rw[Qaa,Qe rfl];exact⟨λ⟨O,L,N⟩=>by injection L with L;subst L;exact N,λh=>⟨r,rfl,h⟩⟩
def Hp.ext {C:Cx}{H H':List (Nat×Res)}{w:World}(h:Hp C H w)(e: ∀j,hk H' j=hk H j\/(hk H' j=some .dead/\hk H j=none)):Hp C H' w:=by
 have U: ∀{j r},hk H' j=some r->r=.dead\/hk H j=some r:=λ{j r} O=>by
  rcases e j with N|⟨N,_⟩
  exact .inr (N▸O);rw[N]at O;injection O with O;exact .inl O.symm
 have V:Bk H'=Bk H:=by
  funext k b;refine propext ⟨λ⟨r,N,W⟩=>?_,λ⟨r,N,W⟩=>?_⟩;rcases U N with rfl|L
  cases W;exact⟨r,L,W⟩;rcases e k with L|⟨_,L⟩
  exact⟨r,L.trans N,W⟩;rw[L]at N;cases N
 have e2:Fh C H'=Fh C H:=by funext b;unfold Fh;rw[V]
 refine⟨h.ch,λk r hk=>?_,?_,?_,λk r j hk hr=>?_⟩;rcases U hk with rfl|L
 trivial;rw[V,e2];exact h.hold k r L;rw[V];exact h.bnd;rw[V];exact h.dis;rcases U hk with rfl|L
 cases hr;refine⟨(h.ref k r j L hr).1,λr' h4=>?_⟩;rcases U h4 with rfl|h5
 rfl;exact(h.ref k r j L hr).2 r' h5
def ded:List Nat->List (Nat×Res)->List (Nat×Res)
 | [],H=>H
 |j::js,H=>(j,.dead)::ded js H
def Qel {H:List (Nat×Res)}{j:Nat}: ∀{js:List Nat},hk (ded js H) j=bif js.any (Nat.beq j)then some .dead else hk H j
 | []=>rfl
 |i::js=>by
  show hk ((i,.dead)::ded js H) j=_;rw[Qaa,Qel,List.any_cons];by_cases h:i=j;subst h;simp;have:Nat.beq j i=false:=by cases L:Nat.beq j i with
   |false=>rfl
   |true=>exact absurd (Q2 L).symm h
  rw[Qc h,this];rfl
def rin (ks:List Nat):Option Nat->Bool
 |none=>false
 |some i=>ks.any (Nat.beq i)
def hng (ks js:List Nat)(H:List (Nat×Res)):Bool:=
 js.all (λj=>match hk H j with|some v=>rin ks v.ref|none=>true)&&H.all λp=>bif rin ks p.2.ref then js.any (Nat.beq p.1)||(match hk H p.1 with|some v=> !(rin ks v.ref)|none=>true)else true
def hk_memb: ∀{H:List (Nat×Res)} {j:Nat} {v:Res},hk H j=some v->(j,v)∈H
 |(d,u)::H,j,v,h=>by
  rw[Qaa]at h;split at h;rename_i e;subst e;injection h with h;subst h;exact Qx ..
  exact Qp _ (hk_memb h)
def hng_at {ks js:List Nat}{H:List (Nat×Res)}(h:hng ks js H=true)(j:Nat):(bif js.any (Nat.beq j)then some Res.dead else hk H j)=((hk H j).map λv=>bif rin ks v.ref then .dead else v)\/((bif js.any (Nat.beq j)then some Res.dead else hk H j)=some .dead/\((hk H j).map λv=>bif rin ks v.ref then .dead else v)=none):=by
 simp only[hng,Qm,Wx]at h;cases O:js.any (Nat.beq j)with
 |true=>
  obtain⟨i,V,W⟩:=List.any_eq_true.1 O;have:=Q2 W;subst this;have L:=h.1 j V;cases N:hk H j with
  |none=>exact .inr ⟨rfl,rfl⟩
  |some v=>rw[N]at L;replace L:rin ks v.ref=true:=L;exact .inl (by simp[L])
 |false=>
  cases N:hk H j with
  |none=>exact .inl rfl
  |some v=>
   refine .inl ?_;have L:=h.2 _ (hk_memb N);simp only[O,N,Bool.false_or]at L;cases U:rin ks v.ref with
   |false=>simp[U]
   |true=>rw[U]at L;cases L
def Qbq (k:Nat): ∀(H:List (Nat×Res)) (j:Nat),hk (drp k H) j=(hk H j).map λv=>bif rin [k] v.ref then .dead else v
 | [],_=>rfl
 |(d,u)::H,j=>by
  unfold drp;rw[Qaa,Qaa];by_cases L:d=j;rw[Qe L,Qe L];cases N:u.ref with
  |none=>simp[N,rin]
  |some i=>cases O:Nat.beq i k<;>simp[N,rin]<;>simp at O<;>simp[O]
  rw[Qc L,Qc L];exact Qbq k H j
def Hp.dd {C:Cx}{H:List (Nat×Res)}{w:World}{k:Nat}{r:Res}{js:List Nat}(h:Hp C ((k,r)::drp k H) w)(L:hng [k] js H=true):Hp C ((k,r)::ded js H) w:=
 h.ext λj=>by
  rw[Qaa,Qaa];by_cases h:k=j;rw[Qe h,Qe h];exact .inl rfl;rw[Qc h,Qc h,Qel,Qbq];exact hng_at L j
def Hp.dd2 {C:Cx}{H:List (Nat×Res)}{w:World}{k N:Nat}{r O:Res}{js:List Nat}(h:Hp C ((N,O)::(k,r)::drp k H) w)(U:hng [k] js H=true):Hp C ((N,O)::(k,r)::ded js H) w:=
 h.ext λj=>by
  rw[Qaa,Qaa,Qaa,Qaa];by_cases L:N=j;rw[Qe L,Qe L];exact .inl rfl;by_cases h:k=j;rw[Qc L,Qc L,Qe h,Qe h];exact .inl rfl;rw[Qc L,Qc L,Qc h,Qc h,Qel,Qbq];exact hng_at U j
section
variable {C:Cx}{H:List (Nat×Res)}{w w':World}{k:Nat}{r':Res}
def Hp.noref (h:Hp C H w)(O:hk H k=none){j:Nat}{r:Res}(V:hk H j=some r):r.ref≠some k:=λL=>by
 have U:=h.hold j r V;cases r with
 |el i b o cs=>
  simp only[Res.ref]at L;subst L;obtain⟨_,_,W,N,_⟩:=U;rw[O]at N;cases N
 |mit i g b n seen la=>
  simp only[Res.ref,Qr]at L;subst L;obtain⟨_,⟨W,N,_⟩,_⟩:=U;rw[O]at N;cases N
 |_=>cases L
def Hp.new (h:Hp C H w)(h0:hk H k=none)(hc:Ch [] w w')(hb: ∀b,b∈r'.bl->w.heap.size<=b/\b<w'.heap.size)(hrf: ∀j,r'.ref=some j->∀r,hk H j=some r->r.ref=none)
  (hr: ∀(F:Nat->Prop) (B:Nat->Nat->Prop),(∀b,Fh C H b->b<w.heap.size->F b)->(∀b,(∀k,¬Bk H k b)->b<w.heap.size->∀k,¬B k b)->(∀j b,Bk H j b->B j b)->r'.holds w' F B):Hp C ((k,r')::H) w':=by
 have hkn: ∀j b,Bk H j b->j≠k:=λj b ⟨r,N,_⟩ e=>by subst e;rw[h0]at N;cases N
 have hup: ∀j b,Bk H j b->Bk ((k,r')::H) j b:=λj b L=>(Bk.cons_ne (hkn j b L)).2 L;have hcase: ∀j b,Bk ((k,r')::H) j b->(j=k/\w.heap.size<=b/\b<w'.heap.size)\/(j≠k/\Bk H j b):=λj b L=>by
  by_cases hjk:j=k;subst hjk;exact .inl ⟨rfl,hb b (Bk.cons_eq.1 L)⟩;exact .inr ⟨hjk,(Bk.cons_ne hjk).1 L⟩
 have hnb: ∀b,(∀k,¬Bk H k b)->b<w.heap.size->∀j,¬Bk ((k,r')::H) j b:=λb hb' hl j L=>by
  rcases hcase j b L with⟨_,N,_⟩|⟨_,N⟩
  omega;exact hb' j N
 refine⟨?_,λj r L=>?_,λj b L=>?_,λj j' b L hj'=>?_,λj r i L O=>?_⟩;have V:=h.ch;exact⟨hc.os.trans V.os,hc.tape.trans V.tape,hc.output.trans V.output,Q7 V.size hc.size,λb hb' hn=>by rw[hc.block b (Q3 hb' V.size) (by simp)];exact V.block b hb' hn⟩;rw[Qaa]at L;split at L;injection L with L;subst L
 exact hr _ _ (λb hF hl=>⟨hnb b hF.1 hl,hF.2⟩) hnb hup;exact Res.to (h.hold j r L) hc (λb hF hl=>⟨by simp,hnb b hF.1 hl,hF.2⟩) (λb hB hl=>⟨by simp,hnb b hB hl⟩) (λi b _ hB=>⟨by simp,hup i b hB⟩) (by simp);rcases hcase j b L with⟨_,N,U⟩|⟨_,N⟩
 exact⟨.inl (Q7 h.ch.size N),U⟩;exact⟨(h.bnd j b N).1,Q3 (h.bnd j b N).2 hc.size⟩;rcases hcase j b L with⟨N,U,_⟩|⟨_,N⟩<;>rcases hcase j' b hj' with⟨h3,h4,_⟩|⟨_,h3⟩
 rw[N,h3];have:=(h.bnd j' b h3).2;omega;have:=(h.bnd j b N).2;omega;exact h.dis j j' b N h3;rw[Qaa]at L;have hvis: ∀i W,hk ((k,r')::H) i=some W->i≠k->hk H i=some W:=λi W U hne=>by rwa[Qaa,Qc (Ne.symm hne)]at U
 split at L;injection L with L;subst L
 have hik:i≠k:=λe=>by
  subst e;have N:=hr (λb=>Fh C H b/\b<w.heap.size) (Bk H) (λb N U=>⟨N,U⟩) (λb hB _=>hB) (λj b L=>L);cases r' with
  |el i' b o cs=>
   simp only[Res.ref]at O;subst O;obtain⟨_,_,W,U,_⟩:=N;rw[h0]at U;cases U
  |mit i' g b n seen la=>
   simp only[Res.ref,Qr]at O;subst O;obtain⟨_,⟨W,U,_⟩,_⟩:=N;rw[h0]at U;cases U
  |_=>cases O
 rename_i hkj;exact⟨λe=>hik (e.trans hkj.symm),λW U=>hrf i O W (hvis i W U hik)⟩;obtain⟨h5,h6⟩:=h.ref j r i L O;have hik:i≠k:=λe=>h.noref h0 L (by rw[O,e]);exact⟨h5,λW U=>h6 W (hvis i W U hik)⟩
def Hp.add (h:Hp C H w)(U:hk H k=none)(V:r'.bl=[])(L: ∀j,r'.ref=some j->∀r,hk H j=some r->r.ref=none)
  (W:r'.holds w (λb=>Fh C H b/\b<w.heap.size) (Bk H)):Hp C ((k,r')::H) w:=
 h.new U (Ch.refl w) (by rw[V];simp) L λF B h1 h2 h3=>Res.to W (S:=[]) (Ch.refl w) (λb O _=>⟨by simp,h1 b O.1 O.2⟩) (λb N hl=>⟨by simp,h2 b N hl⟩) (λi b _ N=>⟨by simp,h3 i b N⟩) (by simp)
end
def kx:Nat->List Res->List (Nat×Res)
 |_,[]=>[]
 |k,r::rs=>(k,r)::kx (k+1) rs
def hcat:List (Nat×Res)->List (Nat×Res)->List (Nat×Res)
 | [],H=>H
 |p::r,H=>p::hcat r H
def nok (H:List (Nat×Res)):Nat->Nat->Bool
 |_,0=>true
 |k,n+1=>(match hk H k with|none=>true|some _=>false)&&nok H (k+1) n
def Qbx {H:List (Nat×Res)}: ∀{n k j:Nat},nok H k n=true->k<=j->j<k+n->hk H j=none
 |0,k,j,_,L,N=>by omega
 |n+1,k,j,h,L,N=>by
  simp only[nok,Qm]at h;rcases Nat.lt_or_ge k j with O|U
  exact Qbx h.2 (by omega) (by omega);have:k=j:=by omega
  subst this;cases V:hk H k with
  |none=>rfl
  |some r=>rw[V]at h;exact absurd h.1 (by simp)
def hk_kx: ∀(rs:List Res) (k j:Nat) (H:List (Nat×Res)),j<k->hk (hcat (kx k rs) H) j=hk H j
 | [],_,_,_,_=>rfl
 |r::rs,k,j,H,h=>by
  show hk ((k,r)::hcat (kx (k+1) rs) H) j=_;rw[Qaa,Qc (by omega)];exact hk_kx rs (k+1) j H (by omega)
def Hp.adds {C:Cx}{w:World}: ∀{rs:List Res} {k:Nat} {H:List (Nat×Res)},Hp C H w->nok H k rs.length=true->(∀r,r∈rs->r.bl=[]/\r.ref=none/\r.holds w (λb=>Fh C H b/\b<w.heap.size) (Bk H))->Hp C (hcat (kx k rs) H) w
 | [],_,_,h,_,_=>h
 |r::rs,k,H,h,N,O=>by
  have h1:Hp C (hcat (kx (k+1) rs) H) w:=Hp.adds h (by simp only[Q5,nok,Qm]at N;exact N.2) λU L=>O U (Qp _ L);obtain⟨L,h3,h4⟩:=O r (Qx ..);have hb: ∀(rs:List Res) (k:Nat),(∀r,r∈rs->r.bl=[])->nok H k rs.length=true->∀j b,Bk (hcat (kx k rs) H) j b↔Bk H j b:=by
   intro rs;induction rs with
   |nil=>intro k _ _ j b;exact Iff.rfl
   |cons r rs ih=>
    intro k O N j b;show Bk ((k,r)::hcat (kx (k+1) rs) H) j b↔_;have hn2:nok H (k+1) rs.length=true:=by simp only[Q5,nok,Qm]at N;exact N.2
    have hh:hk H k=none:=Qbx N (Q4 k) (by simp);by_cases W:j=k;subst W;rw[Bk.cons_eq,O r (Qx ..)];exact⟨λh=>by simp at h,λ⟨U,L,_⟩=>by rw[hh]at L;cases L⟩;rw[Bk.cons_ne W];exact ih (k+1) (λU L=>O U (Qp _ L)) hn2 j b
  have hb':=hb rs (k+1) (λU L=>(O U (Qp _ L)).1) (by simp only[Q5,nok,Qm]at N;exact N.2);have hF: ∀b,Fh C H b->Fh C (hcat (kx (k+1) rs) H) b:=λb hF=>⟨λj V=>hF.1 j ((hb' j b).1 V),hF.2⟩;refine h1.add ?_ L (λj V=>by rw[h3]at V;cases V) ?_;rw[hk_kx rs (k+1) k H (by omega)];exact Qbx N (Q4 k) (by simp);exact Res.to h4 (S:=[]) (Ch.refl w) (λb h _=>⟨by simp,hF b h.1,h.2⟩) (λb h _=>⟨by simp,λj V=>h j ((hb' j b).1 V)⟩) (λi b _ h=>⟨by simp,(hb' i b).2 h⟩) (by simp)
def rok (ks:List Nat):Option Nat->Bool
 |none=>true
 |some j=>ks.any (Nat.beq j)
def kpH (H:List (Nat×Res))(all:List Nat):List Nat->List (Nat×Res)
 | []=>[]
 |k::ks=>match hk H k with
  |some r=>bif rok all r.ref then(k,r)::kpH H all ks else kpH H all ks
  |none=>kpH H all ks
def Qcp {H:List (Nat×Res)}{all:List Nat}: ∀{ks:List Nat} {k:Nat} {r:Res},hk (kpH H all ks) k=some r->hk H k=some r/\rok all r.ref=true/\k∈ks
 | [],k,r,h=>by cases h
 |j::ks,k,r,h=>by
  unfold kpH at h;cases U:hk H j with
  |none=>rw[U]at h;obtain⟨L,N,O⟩:=Qcp h;exact⟨L,N,Qp _ O⟩
  |some u=>
   rw[U]at h;simp only[]at h;cases V:rok all u.ref with
   |false=>rw[V]at h;obtain⟨L,N,O⟩:=Qcp (show hk (kpH H all ks) k=some r from h);exact⟨L,N,Qp _ O⟩
   |true=>
    rw[V]at h;replace h:hk ((j,u)::kpH H all ks) k=some r:=h;rw[Qaa]at h;split at h;rename_i W;subst W;have h:=Option.some.inj h;subst h;exact⟨U,V,Qx ..⟩;obtain⟨L,N,O⟩:=Qcp h;exact⟨L,N,Qp _ O⟩
def Qbv {H:List (Nat×Res)}{all:List Nat}: ∀{ks:List Nat} {k:Nat} {r:Res},hk H k=some r->rok all r.ref=true->k∈ks->hk (kpH H all ks) k=some r
 | [],_,_,_,_,h=>by cases h
 |j::ks,k,r,h,N,O=>by
  unfold kpH;by_cases L:j=k;subst L;rw[h];simp only[N];show hk ((j,r)::_) j=_;rw[Qaa,Qe rfl];have hm':k∈ks:=(Qq.1 O).resolve_left (Ne.symm L);cases U:hk H j with
  |none=>exact Qbv h N hm'
  |some u=>
   simp only[];cases rok all u.ref with
   |false=>exact Qbv h N hm'
   |true=>
    show hk ((j,u)::_) k=_;rw[Qaa,Qc L];exact Qbv h N hm'
def Hp.keep {C:Cx}{H:List (Nat×Res)}{w:World}(h:Hp C H w)(ks:List Nat):Hp C (kpH H ks ks) w:=by
 have O: ∀j b,Bk (kpH H ks ks) j b->Bk H j b:=λj b ⟨r,N,L⟩=>⟨r,(Qcp N).1,L⟩;refine⟨h.ch,λk r U=>?_,λk b hb1=>h.bnd k b (O k b hb1),λk k' b N L=>h.dis k k' b (O _ _ N) (O _ _ L),λk r j U hr=>?_⟩;obtain⟨N,L,h3⟩:=Qcp U;refine Res.to (h.hold k r N) (S:=[]) (Ch.refl w) (λb hF _=>⟨by simp,λj hj=>hF.1 j (O j b hj),hF.2⟩) (λb hB _=>⟨by simp,λj hj=>hB j (O j b hj)⟩) (λi b hi hB=>⟨by simp,?_⟩) (by simp);obtain⟨V,W,h5⟩:=hB;have h6:=(h.ref k r i N hi).2 V W;refine⟨V,Qbv W (by rw[h6];rfl) ?_,h5⟩;rw[hi]at L;simp only[rok,List.any_eq_true]at L;obtain⟨x,hx,O⟩:=L;rw[Q2 O];exact hx;obtain⟨N,_,_⟩:=Qcp U;obtain⟨L,h3⟩:=h.ref k r j N hr;exact⟨L,λV W=>h3 V (Qcp W).1⟩
def Hp.cov {C:Cx}{H H':List (Nat×Res)}{w:World}(h:Hp C H w)(ks:List Nat)(e:kpH H ks ks=H'):Hp C H' w:=e▸h.keep ks
def ren (H:List (Nat×Res)):List (Nat×Nat)->List (Nat×Res)
 | []=>[]
 |(i,k)::ks=>match hk H k with
  |some r=>match r.ref with
   |none=>(i,r)::ren H ks
   |some _=>ren H ks
  |none=>ren H ks
def hk_ren {H:List (Nat×Res)}: ∀{ps:List (Nat×Nat)} {i:Nat} {r:Res},hk (ren H ps) i=some r->∃k,(i,k)∈ps/\hk H k=some r/\r.ref=none
 | [],i,r,h=>by cases h
 |(j,k)::ps,i,r,h=>by
  unfold ren at h;have step:hk (ren H ps) i=some r->∃k',(i,k')∈(j,k)::ps/\hk H k'=some r/\r.ref=none:=λh=>by
   obtain⟨k',U,V⟩:=hk_ren h;exact⟨k',Qp _ U,V⟩
  cases L:hk H k with
  |none=>rw[L]at h;exact step h
  |some u=>
   rw[L]at h;simp only[]at h;cases N:u.ref with
   |some _=>rw[N]at h;exact step h
   |none=>
    rw[N]at h;replace h:hk ((j,u)::ren H ps) i=some r:=h;rw[Qaa]at h;split at h;rename_i O;subst O;injection h with h;subst h;exact⟨k,Qx ..,L,N⟩
    exact step h
def nod:List Nat->Bool
 | []=>true
 |k::ks=> !(ks.any (Nat.beq k))&&nod ks
def Qev {α:Type}{f g:α->Nat}: ∀{l:List α},nod (l.map f)=true->∀x y,x∈l->y∈l->f x=f y->g x=g y
 | [],_,x,_,W,_,_=>by cases W
 |a::l,h,x,y,W,hy,e=>by
  simp only[Wc,nod,Qm,Bool.not_eq_true',List.any_map]at h;have L: ∀z∈l,f a≠f z:=λz hz e=>by
   have:=h.1;rw[List.any_eq_false]at this;exact this z hz (by simp[Function.comp,e])
  rcases Qq.1 W with N|O<;>rcases Qq.1 hy with U|V
  rw[N,U];subst N;exact absurd e (L y V);subst U;exact absurd e.symm (L x O);exact Qev h.2 x y O V e
def Hp.ren {C:Cx}{H:List (Nat×Res)}{w:World}(h:Hp C H w)(ps:List (Nat×Nat))(h1:nod (ps.map (·.1))=true)(h2:nod (ps.map (·.2))=true):Hp C (ren H ps) w:=by
 have W: ∀i b,Bk (A.ren H ps) i b->∃k,(i,k)∈ps/\Bk H k b:=λi b ⟨r,U,L⟩=>by
  obtain⟨k,N,h6,_⟩:=hk_ren U;exact⟨k,N,r,h6,L⟩
 have V: ∀b,(∀k,¬Bk H k b)->∀k,¬Bk (A.ren H ps) k b:=λb hB j hj=>by obtain⟨k,_,L⟩:=W j b hj;exact hB k L
 refine⟨h.ch,λk r O=>?_,λk b hb1=>by obtain⟨j,_,U⟩:=W k b hb1;exact h.bnd j b U,λk k' b U L=>?_,λk r j O hr=>?_⟩;obtain⟨j,U,L,N⟩:=hk_ren O;exact Res.to (h.hold j r L) (S:=[]) (Ch.refl w) (λb hF _=>⟨by simp,V b hF.1,hF.2⟩) (λb hB _=>⟨by simp,V b hB⟩) (λi b hi hB=>by rw[N]at hi;cases hi) (by simp);obtain⟨j,N,h6⟩:=W k b U;obtain⟨j',h7,h8⟩:=W k' b L;exact Qev (f:=λp:Nat×Nat=>p.2) (g:=λp:Nat×Nat=>p.1) h2 (k,j) (k',j') N h7 (h.dis j j' b h6 h8);obtain⟨_,_,_,N⟩:=hk_ren O;rw[N]at hr;cases hr
inductive Kx where
 |c (y:Code)
 |b (id:Nat)
 |m (M:Act->World->Prop)
 |s
def kont (r:Option Nat)(P:Program)(Y:Exit->Act->World->Prop):List Kx->Exit->Act->World->Prop
 | [],e,a,w=>Y e a w
 | .c y::K,.normal,a,w=>WP r P y (kont r P Y K) a w
 | .m M::_,.normal,a,w=>M a w
 | .b _::K,.normal,a,w=>kont r P Y K .normal a w
 | .s::_,.goto _,_,_=>False
 | .b id::K,.exit i,a,w=>if i=id then kont r P Y K .normal a w else kont r P Y K (.exit i) a w
 |_::K,e,a,w=>kont r P Y K e a w
section
variable {r:Option Nat}{P:Program}{Y:Exit->Act->World->Prop}{K:List Kx}{C:Cx}{l:List (Nat×Value)}{H:List (Nat×Res)}
abbrev AX (r:Option Nat) (P:Program) (Y:Exit->Act->World->Prop) (K:List Kx) (c:Code) (C:Cx) (l:List (Nat×Value)) (H:List (Nat×Res)):Prop:=∀a w,Fr a C.n C.ds l->Hp C H w->WP r P c (kont r P Y K) a w
abbrev AE (r:Option Nat) (P:Program) (Y:Exit->Act->World->Prop) (K:List Kx) (e:Exit) (C:Cx) (l:List (Nat×Value)) (H:List (Nat×Res)):Prop:=∀a w,Fr a C.n C.ds l->Hp C H w->kont r P Y K e a w
abbrev AL (r:Option Nat) (P:Program) (ops:Array Oper) (Q:Exit->Act->World->Prop) (rest:List Oper) (C:Cx) (l:List (Nat×Value)) (H:List (Nat×Res)):Prop:=∀a w,Fr a C.n C.ds l->Hp C H w->WL r P ops Q rest a w
def AX.seq {x y:Code}(h:AX r P Y (.c y::K) x C l H):AX r P Y K (.seq x y) C l H:=λa w L N=>by
 refine wpIn_seq (wpIn_mono (h a w L N) λe a w hq=>?_);cases e<;>exact hq
def AX.reg {id:Nat}{lo:List Oper}(h:AL r P lo.toArray (kont r P Y K) lo C l H):AX r P Y K (.region id lo.toArray false) C l H:=λa w L N=>Z.reg (h a w L N)
def AL.done {ops:Array Oper}(h:AE r P Y K .normal C l H):AL r P ops (kont r P Y K) [] C l H:=λa w L N=>Z.done (h a w L N)
def AE.c {y:Code}(h:AX r P Y K y C l H):AE r P Y (.c y::K) .normal C l H:=h
def AE.b {id:Nat}(h:AE r P Y K .normal C l H):AE r P Y (.b id::K) .normal C l H:=h
def AX.skip (h:AE r P Y K .normal C l H):AX r P Y K .skip C l H:=λa w L N=>wpIn_skip (h a w L N)
def AX.block {id:Nat}{c:Code}(h:AX r P Y (.b id::K) c C l H):AX r P Y K (.block id c) C l H:=λa w L N=>by
 refine wpIn_block (wpIn_mono (h a w L N) λe a w hq=>?_);cases e<;>first|exact hq|skip
def popx (id:Nat):List Kx->Option (List Kx)
 | []=>none
 | .b i::K=>bif Nat.beq i id then some K else popx id K
 |_::K=>popx id K
def popx_spec {id:Nat}{a:Act}{w:World}: ∀{K K':List Kx},popx id K=some K'->kont r P Y K' .normal a w->kont r P Y K (.exit id) a w
 | [],_,h,_=>by cases h
 | .b i::K,K',h,hq=>by
  unfold popx at h;show(if id=i then kont r P Y K .normal a w else kont r P Y K (.exit id) a w);cases L:Nat.beq i id with
  |true=>
   rw[L]at h;have h:some K=some K':=h;injection h with h;subst h
   rw[Qe (Q2 L).symm];exact hq
  |false=>
   rw[L]at h;rw[Qc (λe=>by subst e;simp at L)];exact popx_spec h hq
 | .c y::K,K',h,hq=>popx_spec (K:=K) h hq
 | .m M::K,K',h,hq=>popx_spec (K:=K) h hq
 | .s::K,K',h,hq=>popx_spec (K:=K) h hq
def AX.exit {id:Nat}{K':List Kx}(e:popx id K=some K')(h:AE r P Y K' .normal C l H):AX r P Y K (.exit id) C l H:=λa w L N=>wpIn_exit (popx_spec e (h a w L N))
def kont_ret {a:Act}{w:World}: ∀{K:List Kx},Y .ret a w->kont r P Y K .ret a w
 | [],h=>h
 | .b _::K,h=>kont_ret (K:=K) h
 | .c _::K,h=>kont_ret (K:=K) h
 | .m _::K,h=>kont_ret (K:=K) h
 | .s::K,h=>kont_ret (K:=K) h
def AX.ret0 (h: ∀a w,Fr a C.n C.ds l->Hp C H w->Y .ret a w):AX r P Y K .ret C l H:=λa w L N=>wpIn_ret (kont_ret (h a w L N))
def AE.s (h:AE r P Y K .normal C l H):AE r P Y (.s::K) .normal C l H:=h
def AX.label {i:Nat}(h:AE r P Y K .normal C l H):AX r P Y K (.label i) C l H:=λa w L N=>wpIn_label (h a w L N)
def AX.cnd {ρ:Type}{A B R:Option ρ}{c:Operand}{x y:Code}{p:Prop}[Decidable p](O:ev l c=some (.bool (decide p)))(L:(if p then A else B)=R)(V:p->A=R->AX r P Y K x C l H)(W: ¬p->B=R->AX r P Y K y C l H):AX r P Y K (.cond c x y) C l H:=λa w N U=>by
 by_cases hp:p;rw[Qe hp]at L;exact Z.condp N O (λ_=>V hp L a w N U) (λh=>absurd hp h);rw[Qc hp]at L;exact Z.condp N O (λh=>absurd h hp) (λ_=>W hp L a w N U)
def AX.cnb {ρ:Type}{A B R:Option ρ}{c:Operand}{x y:Code}{b:Bool}(O:ev l c=some (.bool b))(L:(if b=true then A else B)=R)(V:b=true->A=R->AX r P Y K x C l H)(W:b=false->B=R->AX r P Y K y C l H):AX r P Y K (.cond c x y) C l H:=λa w N U=>by
 cases b with
 |true=>rw[Qe rfl]at L;exact Z.condt N O (V rfl L a w N U)
 |false=>rw[Qc (by simp)]at L;exact Z.condf N O (W rfl L a w N U)
def AX.cnt {c:Operand}{x y:Code}(N:ev l c=some (.bool true))(O:AX r P Y K x C l H):AX r P Y K (.cond c x y) C l H:=λa w L U=>Z.condt L N (O a w L U)
def AX.cnf {c:Operand}{x y:Code}(N:ev l c=some (.bool false))(O:AX r P Y K y C l H):AX r P Y K (.cond c x y) C l H:=λa w L U=>Z.condf L N (O a w L U)
def Fr.cov {a:Act}{n:Nat}{ds:List Deferred}{l':List (Nat×Value)}(h:Fr a n ds l)(e:kp l (l'.map (·.1))=l'):Fr a n ds l':=e▸h.keep _
abbrev St (C:Cx) (l:List (Nat×Value)) (H:List (Nat×Res)) (ks hs:List Nat) (J:List (Nat×Value)->List (Nat×Res)->Prop):Act->World->Prop:=λa w=>∃nl nh,J nl nh/\Fr a C.n C.ds (cat nl (kp l ks))/\Hp C (hcat nh (kpH H hs hs)) w
def AX.join (ks L:List Nat)(J:List (Nat×Value)->List (Nat×Res)->Prop){x y:Code}(h:AX r P Y (.m (St C l H ks L J)::K) x C l H)(N: ∀nl nh,J nl nh->AX r P Y K y C (cat nl (kp l ks)) (hcat nh (kpH H L L))):AX r P Y K (.seq x y) C l H:=λa w O U=>by
 refine wpIn_seq (wpIn_mono (h a w O U) λe a w hq=>?_);cases e with
 |normal=>obtain⟨nl,nh,V,hf',hh'⟩:=hq;exact N nl nh V a w hf' hh'
 |_=>exact hq
def AE.j {l':List (Nat×Value)}{H':List (Nat×Res)}{ks L:List Nat}{J:List (Nat×Value)->List (Nat×Res)->Prop}(gs:List Nat)(nl:List (Nat×Value))(nh:List (Nat×Res))(N:J nl nh)(O:kp l ((cat nl (kp l' ks)).map (·.1))=cat nl (kp l' ks):=by kernel_rfl)(U:kpH H gs gs=hcat nh (kpH H' L L):=by kernel_rfl):
  AE r P Y (.m (St C l' H' ks L J)::K) .normal C l H:=λa w V W=>⟨nl,nh,N,Fr.cov V O,W.cov gs U⟩
def AX.loop (ks L gs:List Nat)(J:Nat->List (Nat×Value)->List (Nat×Res)->Prop)(m:Nat)(nl:List (Nat×Value))(nh:List (Nat×Res)){x:Code}(N:J m nl nh)
  (h: ∀f nl nh,J f nl nh->AX r P Y (.m (St C l H ks L λnl nh=>∃f',f'<f/\J f' nl nh)::K) x C (cat nl (kp l ks)) (hcat nh (kpH H L L)))
  (W:kp l ((cat nl (kp l ks)).map (·.1))=cat nl (kp l ks):=by kernel_rfl) (h2:kpH H gs gs=hcat nh (kpH H L L):=by kernel_rfl):AX r P Y K (.loop x) C l H:=λa w O U=>by
 refine Z.loop (λf a w=>St C l H ks L (J f) a w) m ⟨nl,nh,N,Fr.cov O W,U.cov gs h2⟩ λf a w ⟨nl,nh,N,O,U⟩=>?_;refine wpIn_mono (h f nl nh N a w O U) λe a w hq=>?_;cases e with
 |normal=>obtain⟨nl,nh,⟨f',V,hJ'⟩,hf',hh'⟩:=hq;exact⟨f',V,nl,nh,hJ',hf',hh'⟩
 |_=>exact hq
end
def ix {α:Type}(xs:List α)(i:Int):Option α:=if i<0 then none else xs[i.toNat]?
def Qby {α:Type}{xs:List α}{i:Int}{x:α}(h:ix xs i=some x): ∃k:Nat,i=(k:Int)/\xs[k]?=some x:=by
 unfold ix at h;split at h;cases h;exact⟨i.toNat,by omega,h⟩
def knb (H:List (Nat×Res)):List Nat->List (Nat×TypeId×List Value)
 | []=>[]
 |k::ks=>match hk H k with
  |some (.blk g e cs)=>(g,e,cs)::knb H ks
  |_=>knb H ks
def kne (H:List (Nat×Res)):List Nat->List (Addr×List Value)
 | []=>[]
 |k::ks=>match hk H k with
  |some (.el _ b o cs)=>(⟨b,o,none⟩,cs)::kne H ks
  |_=>kne H ks
def o_b2 {C:Cx}{H:List (Nat×Res)}{w:World}(h:Hp C H w)(bs es:List Nat):Kn.ok ⟨knb H bs,kne H es⟩ w:=by
 refine⟨?_,?_⟩;induction bs with
 |nil=>intro b L;cases L
 |cons k ks N=>
  intro b L;unfold knb at L;split at L;rename_i g e cs O;rcases Qq.1 L with rfl|L
  exact h.hold k _ O;exact N b L;exact N b L
 induction es with
 |nil=>intro b L;cases L
 |cons k ks N=>
  intro b L;unfold kne at L;split at L;rename_i j g o cs O;rcases Qq.1 L with rfl|L
  exact(h.hold k _ O).1;exact N b L;exact N b L
section
variable {r:Option Nat}{P:Program}{ops:Array Oper}{Q:Exit->Act->World->Prop}{rest lst:List Oper}{C:Cx}{l:List (Nat×Value)}{H:List (Nat×Res)}{d:Nat}{op:Op}{T:TypeId}{pos:String}{af:Array Edge}
def AL.q (bs es:List Nat)(L:List Hint)(ks:List Nat)(cs:List Prop)(nl:List (Nat×Value))(O:conj cs)(h:AL r P ops Q (lst.drop L.length) C (cat nl l) H)
  (hq:((qs P ⟨knb H bs,kne H es⟩ C.n ops L lst (q0 l)).bind (qfin l ks))=some (cs,nl):=by kernel_rfl)
  (U:(qs P ⟨knb H bs,kne H es⟩ C.n ops L lst (q0 l)).map (λs=>s.q.map Prod.fst)=(qs P ⟨knb H bs,kne H es⟩ C.n ops L lst (q0 l)).map (λs=>s.q.map Prod.snd):=by kernel_rfl):AL r P ops Q lst C l H:=λa w V N=>
 Z.qr L ks cs nl (o_b2 N bs es) V (λa' hf'=>h a' w hf' N) O hq U
def AL.val {v:Value}(O:Nat.ble (d+1) C.n=true)(U: ∀a w,Fr a C.n C.ds l->Hp C H w->(execOp a.eval ⟨some d,op,T,pos,af,none⟩).run P w=.ok (.value v) w)(h:AL r P ops Q rest C ((d,v)::l) H):AL r P ops Q (⟨some d,op,T,pos,af,none⟩::rest) C l H:=
 λa w L N=>Z.val L O (U a w L N) λa' hf'=>h a' w hf' N
def AL.on {dst:Option Tmp}{j dj:Nat}{b:Bool}(N:(ops[j]?).bind (·.dst)=some dj)(O:lk l dj=some (.bool b))(h:AL r P ops Q (⟨dst,op,T,pos,af,none⟩::rest) C l H):AL r P ops Q (⟨dst,op,T,pos,af,some (j,b)⟩::rest) C l H:=
 λa w L U=>Z.on L N O (h a w L U)
def AL.cnd {ρ:Type}{A B R:Option ρ}{j:Nat}{b:Bool}(O:lk l j=some (.bool b))(L:(if b=true then A else B)=R)(V:A=R->AL r P ops Q rest C ((j,.bool true)::l) H)(W:B=R->AL r P ops Q rest C ((j,.bool false)::l) H):AL r P ops Q rest C l H:=λa w N U=>by
 cases b with
 |true=>rw[Qe rfl]at L;exact V L a w (N.cons N O) U
 |false=>rw[Qc (by simp)]at L;exact W L a w (N.cons N O) U
def AL.cnp {ρ:Type}{A B R:Option ρ}{j:Nat}{p:Prop}[Decidable p](O:lk l j=some (.bool (decide p)))(L:(if p then A else B)=R)(V:p->A=R->AL r P ops Q rest C ((j,.bool true)::l) H)(W: ¬p->B=R->AL r P ops Q rest C ((j,.bool false)::l) H):AL r P ops Q rest C l H:=λa w N U=>by
 by_cases hp:p;rw[Qe hp]at L;exact V hp L a w (N.cons N (by rw[O,Wf hp])) U;rw[Qc hp]at L;exact W hp L a w (N.cons N (by rw[O,W2 hp])) U
def Qdl {K K':Lf->Prop}: ∀{n:Nat},(∀ps,K ps->K' ps)->tele n K->tele n K'
 |0,h,hk=>h [] hk
 |n+1,h,hk=>λA c=>Qdl (λps=>h ((A,c)::ps)) (hk A c)
def AL.ixc {t:Ty}{A:Option Addr}{c kn:Nat}{xs:List t.den}{ko:Option Nat}{x y:Operand}{i:Int}{kd:IntKind}{v:t.den}{e tt:TypeId}
  (hrow: ∀w,Hp C H w->∃G:Nat->Prop,Row t w (Fh C H) G A c xs/\∀b,G b->match ko with|none=>∀k,¬Bk H k b|some k=>Bk H k b)
  (W: ∀j,ko=some j->∀r,hk H j=some r->r.ref=none) (hx:ev l x=some (.slice A xs.length c)) (hy:ev l y=some (.int kd i)) (hi:ix xs i=some v) (ht:P.underlying tt=some (.slice e)) (hs:szB P e=some t.size)
  (h:t.ok v->tele (lv t) λps=>∀b o,(∃w,Hp C H w/\A=some ⟨b,o,none⟩)->AL r P ops Q rest C ((d,.pointer (some ⟨b,o+i.toNat*t.size,none⟩))::l) (hcat (kx (kn+1) (rs t v ps)) ((kn,.el ko b (o+i.toNat*t.size) (cl t v ps))::H)))
  (hd:Nat.ble (d+1) C.n=true) (hn: ∀ps:Lf,ps.length=lv t->nok H kn (1+(rs t v ps).length)=true):AL r P ops Q (⟨some d,.indexAddr tt x y,T,pos,af,none⟩::rest) C l H:=λa w hf hh=>by
 obtain⟨k,rfl,hv⟩:=Qby hi;obtain⟨G,hR,hG⟩:=hrow w hh;obtain⟨b,o,es,hA,hb,hbl,hc,V⟩:=hR.at hv;obtain⟨ps,hl,rfl,hrs⟩:=rep_cl (B:=Bk H) t (Qal t V);have hlt:=(Qd.1 hv).1;have hn':=hn ps hl;have O:hk H kn=none:=Qbx hn' (Q4 _) (by omega);have h1:Hp C ((kn,.el ko b (o+k*t.size) (cl t v ps))::H) w:=hh.add O rfl (λj L r V=>W j L r V) ⟨hc,hbl,by
  have:=hG b hb;cases ko<;>exact this⟩
 have hnn: ∀n k',nok H k' n=true->(∀j,k'<=j->j<k'+n->j≠kn)->nok ((kn,.el ko b (o+k*t.size) (cl t v ps))::H) k' n=true:=by
  intro n;induction n with
  |zero=>intro _ _ _;rfl
  |succ n ih=>
   intro k' U h3;simp only[nok,Qm]at U ⊢;refine⟨?_,ih (k'+1) U.2 λj h4 h5=>h3 j (by omega) (by omega)⟩;rw[Qaa,Qc (Ne.symm (h3 k' (Q4 _) (by omega)))];exact U.1
 have hn2:nok H (kn+1) (rs t v ps).length=true:=by
  rw[Xr 1]at hn';simp only[nok,Qm]at hn';exact hn'.2
 have U:Hp C (hcat (kx (kn+1) (rs t v ps)) ((kn,.el ko b (o+k*t.size) (cl t v ps))::H)) w:=by
  refine h1.adds (hnn _ _ hn2 λj h4 _=>by omega) λr2 h4=>?_;obtain⟨h5,h6,h7⟩:=hrs r2 h4;have N: ∀j b',Bk ((kn,.el ko b (o+k*t.size) (cl t v ps))::H) j b'↔Bk H j b':=λj b'=>by
   by_cases L:j=kn;subst L;rw[Bk.cons_eq];exact⟨λh=>by simp[Res.bl]at h,λ⟨_,h8,_⟩=>by rw[O]at h8;cases h8⟩;exact Bk.cons_ne L
  exact⟨h6,h7,Res.to h5 (S:=[]) (Ch.refl w) (λb' hF _=>⟨by simp,⟨λj L=>hF.1.1 j ((N j b').1 L),hF.1.2⟩,hF.2⟩) (λb' hB _=>⟨by simp,λj L=>hB j ((N j b').1 L)⟩) (λi b' _ hB=>⟨by simp,(N i b').2 hB⟩) (by simp)⟩
 subst hA;refine Z.val (v:=.pointer (some ⟨b,o+k*t.size,none⟩)) hf hd ?_ λa' hf'=>Qcm (h (rep_ok t V)) ps hl b o ⟨w,hh,rfl⟩ a' w hf' U;have:=r_indexAddrA (P:=P) (w:=w) (d:=some d) (T:=T) (pos:=pos) (af:=af) (gd:=none) ht (Qai hs) (hf.eval hx) rfl (hf.eval hy) rfl hlt;rw[Addr.add_lit]at this;exact this
def Qdf: ∀(t:Ty) (v:t.den) (ps:Lf),ps.length=lv t->(rs t v ps).length=lv t
 | .int _,_,_,_=>rfl
 | .byte,_,_,_=>rfl
 | .bool,_,_,_=>rfl
 | .str,_,_,_=>rfl
 | .slice _,_,[p],_=>rfl
 | .slice _,_,[],h=>by cases h
 | .slice _,_,_::_::_,h=>by simp[lv]at h
 | .pair a b,v,ps,h=>by
  simp only[rs,Qb];simp only[lv]at h;rw[Qdf a v.1 _ (by rw[Qj];omega),Qdf b v.2 _ (by rw[Qk];omega)];rfl
def rowS {k:Nat}{t:Ty}{A:Option Addr}{c:Nat}{xs:List t.den}(h:hk H k=some (.sh (.slice t) [.slice A xs.length c] xs))(w:World)(L:Hp C H w): ∃G:Nat->Prop,Row t w (Fh C H) G A c xs/\∀b,G b->∀k,¬Bk H k b:=
 ⟨Fh C H,Row.of (L.hold k _ h),λ_ N=>N.1⟩
def rowL {k:Nat}{t:Ty}{A:Option Addr}{c:Nat}{xs:List t.den}(h:hk H k=some (.ln t A c xs))(w:World)(L:Hp C H w): ∃G:Nat->Prop,Row t w (Fh C H) G A c xs/\∀b,G b->∀k,¬Bk H k b:=
 ⟨_,L.hold k _ h,λ_ N=>N⟩
def rowO {k:Nat}{t:Ty}{e:TypeId}{A:Option Addr}{c:Nat}{xs:List t.den}(h:hk H k=some (.own t e A c xs))(w:World)(L:Hp C H w): ∃G:Nat->Prop,Row t w (Fh C H) G A c xs/\∀b,G b->Bk H k b:=
 ⟨λb=>b∈obl A,Row.own (L.hold k _ h) λ_ h=>h,λ_ N=>⟨_,h,N⟩⟩
def AL.ixs (k kn:Nat){t:Ty}{A:Option Addr}{c:Nat}{xs:List t.den}{x y:Operand}{i:Int}{kd:IntKind}{v:t.den}{e tt:TypeId}(N:ix xs i=some v)
  (h:t.ok v->tele (lv t) λps=>∀b o,AL r P ops Q rest C ((d,.pointer (some ⟨b,o,none⟩))::l) (hcat (kx (kn+1) (rs t v ps)) ((kn,.el none b o (cl t v ps))::H)))
  (L:hk H k=some (.sh (.slice t) [.slice A xs.length c] xs):=by rfl) (O:ev l x=some (.slice A xs.length c):=by rfl) (U:ev l y=some (.int kd i):=by rfl) (V:P.underlying tt=some (.slice e):=by rfl) (W:szB P e=some t.size:=by kernel_rfl)
  (hd:Nat.ble (d+1) C.n=true:=by rfl) (hn:nok H kn (1+lv t)=true:=by kernel_rfl):AL r P ops Q (⟨some d,.indexAddr tt x y,T,pos,af,none⟩::rest) C l H:=
 AL.ixc (ko:=none) (rowS L) (λ_ h=>by cases h) O U N V W (λho=>Qdl (λps h b o _=>h b _) (h ho)) hd λps hl=>by rw[Qdf t v ps hl];exact hn
def AL.ixl (k kn:Nat){t:Ty}{A:Option Addr}{c:Nat}{xs:List t.den}{x y:Operand}{i:Int}{kd:IntKind}{v:t.den}{e tt:TypeId}(N:ix xs i=some v)
  (h:t.ok v->tele (lv t) λps=>∀b o,AL r P ops Q rest C ((d,.pointer (some ⟨b,o,none⟩))::l) (hcat (kx (kn+1) (rs t v ps)) ((kn,.el none b o (cl t v ps))::H)))
  (L:hk H k=some (.ln t A c xs):=by rfl) (O:ev l x=some (.slice A xs.length c):=by rfl) (U:ev l y=some (.int kd i):=by rfl) (V:P.underlying tt=some (.slice e):=by rfl) (W:szB P e=some t.size:=by kernel_rfl)
  (hd:Nat.ble (d+1) C.n=true:=by rfl) (hn:nok H kn (1+lv t)=true:=by kernel_rfl):AL r P ops Q (⟨some d,.indexAddr tt x y,T,pos,af,none⟩::rest) C l H:=
 AL.ixc (ko:=none) (rowL L) (λ_ h=>by cases h) O U N V W (λho=>Qdl (λps h b o _=>h b _) (h ho)) hd λps hl=>by rw[Qdf t v ps hl];exact hn
def AL.box (k:Nat){e:TypeId}{x:Operand}{v:Value}{cs:List Value}(h: ∀g,AL r P ops Q rest C ((d,.pointer (some ⟨g,0,none⟩))::l) ((k,.blk g e cs)::H))
  (N:ev l x=some v:=by rfl) (O:v.cells=cs.toArray:=by rfl) (U:Nat.ble (d+1) C.n=true:=by rfl) (V:hk H k=none:=by kernel_rfl):AL r P ops Q (⟨some d,.box e x,T,pos,af,none⟩::rest) C l H:=λa w W hh=>
 Z.st_box W U N O λg w' a' hg hs hb L hf'=>h g a' w' hf' (hh.new V L (λb hb'=>by simp only[Res.bl,Qz]at hb';omega) (λj hj=>by cases hj) λ_ _ _ _ _=>hb)
def AL.alloc (k:Nat){e:TypeId}{z:Value}{cs:List Value}(N: ∀w,(zeroValue e).run P w=.ok z w)(h: ∀g,AL r P ops Q rest C ((d,.pointer (some ⟨g,0,none⟩))::l) ((k,.blk g e cs)::H))
  (O:z.cells=cs.toArray:=by rfl) (U:Nat.ble (d+1) C.n=true:=by rfl) (V:hk H k=none:=by kernel_rfl):AL r P ops Q (⟨some d,.alloc e,T,pos,af,none⟩::rest) C l H:=λa w W hh=>
 Z.st_alloc W U N O λg w' a' hg hs hb L hf'=>h g a' w' hf' (hh.new V L (λb hb'=>by simp only[Res.bl,Qz]at hb';omega) (λj hj=>by cases hj) λ_ _ _ _ _=>hb)
def AL.store (k:Nat)(js:List Nat){t bt:TypeId}{x y:Operand}{g o m:Nat}{cs new cs':List Value}{v:Value}(h:AL r P ops Q rest C l ((k,.blk g bt cs')::ded js H))
  (N:hk H k=some (.blk g bt cs):=by rfl) (W:ev l x=some (.pointer (some ⟨g,o,none⟩)):=by rfl) (hy:ev l y=some v:=by rfl) (hS:szB P t=some m:=by kernel_rfl)
  (hv:v.cells=new.toArray:=by rfl) (hm:new.length=m:=by rfl) (ho:Nat.ble (o+m) cs.length=true:=by rfl) (h1:new.all (λu=>u.oneCell')=true:=by rfl) (hc:cs.take o++new++cs.drop (o+m)=cs':=by rfl) (O:hng [k] js H=true:=by kernel_rfl):
  AL r P ops Q (⟨none,.store t x y,T,pos,af,none⟩::rest) C l H:=λa w hf V=>
 Z.st_store hf (V.hold k _ N) W hy (Qai hS) hv hm ho (λu hu=>Wx.1 h1 u hu) hc λw' a' hs hb' U hf'=>
  h a' w' hf' (Hp.dd (V.upd U (λb L=>⟨_,N,L⟩) (λb L=>.inl ⟨_,N,L⟩) (λj O=>by cases O) λ_ _ _ _ _ _ _=>hb') O)
def Dat (H:List (Nat×Res)):(t:Ty)->List Value->t.den->Prop
 | .int k,cs,x=>cs=[.int k x]/\k.has x
 | .byte,cs,x=>cs=[.int .u8 (x.toNat:Int)]
 | .bool,cs,x=>cs=[.bool x]
 | .str,cs,x=>cs=[.string x]/\x.size<=maxLen
 | .slice e,cs,xs=>(∃k,hk H k=some (.sh (.slice e) cs xs))\/(cs=[.slice none 0 0]/\xs=[])
 | .pair a b,cs,x=>Dat H a (cs.take a.size) x.1/\Dat H b (cs.drop a.size) x.2
def Dat.rep {w:World}(L:Hp C H w): ∀(t:Ty) {cs:List Value} {x:t.den},Dat H t cs x->t.rep w (Fh C H) cs x
 | .int _,_,_,h=>h
 | .byte,_,_,h=>h
 | .bool,_,_,h=>h
 | .str,_,_,h=>h
 | .slice e,cs,xs,h=>by
  rcases h with⟨k,h⟩|⟨N,O⟩
  exact L.hold k _ h;subst N;subst O;exact rep_nil e
 | .pair a b,cs,x,h=>⟨_,_,(Wr a.size cs).symm,Dat.rep L a h.1,Dat.rep L b h.2⟩
def Dats (H:List (Nat×Res))(t:Ty):List Value->List t.den->Prop
 |cs,[]=>cs=[]
 |cs,x::xs=>Dat H t (cs.take t.size) x/\Dats H t (cs.drop t.size) xs
def Dats.all {w:World}(O:Hp C H w){t:Ty}: ∀{cs:List Value} {xs:List t.den},Dats H t cs xs->cs.length=xs.length*t.size/\(∀u∈cs,u.oneCell'=true)/\∀(i:Nat) (x:t.den),xs[i]?=some x->t.rep w (Fh C H) ((cs.drop (i*t.size)).take t.size) x
 |cs,[],h=>by
  have h:cs=[]:=h;subst h;exact⟨by simp,by simp,λi x L=>by simp at L⟩
 |cs,x::xs,h=>by
  obtain⟨W,h2⟩:=h;obtain⟨U,h4,h5⟩:=Dats.all O h2;have N:=Dat.rep O t W;have hl:=Qeq t N;rw[Qj]at hl;rw[Qk]at U;have hlen:cs.length=(xs.length+1)*t.size:=by rw[Nat.succ_mul,<-U];omega
  refine⟨hlen,λu V=>?_,λi y L=>?_⟩;rw[<-Wr t.size cs,Wb]at V;exact V.elim (Qcx t N u) (h4 u);cases i with
  |zero=>
   simp only[Xd,Qr]at L;subst L;rw[Nat.zero_mul,Xm];exact N
  |succ i=>
   rw[List.getElem?_cons_succ]at L;have:=h5 i y L;rw[Q9]at this;rw[Nat.succ_mul,Xr];exact this
def AL.bsl (k:Nat){ty:Ty}{t e:TypeId}{len sz:Nat}{z:Value}{parts:List (Nat×Operand)}{vs:List (Nat×Value)}{cs:List Value}(xs:List ty.den)(hD:Dats H ty cs xs)
  (h: ∀g,AL r P ops Q rest C ((d,.slice (some ⟨g,0,none⟩) len len)::l) ((k,.own ty e (some ⟨g,0,none⟩) len xs)::H))
  (hz: ∀w,(zeroValue e).run P w=.ok z w) (hS: ∀w,(sizeOf e).run P w=.ok sz w) (N:xs.length=len:=by rfl) (O:ty.size=sz:=by rfl)
  (hp:evp l parts=some vs:=by rfl) (ht:P.underlying t=some (.slice e):=by rfl) (V:Nat.ble (len*sz) 16777216=true:=by rfl) (h0:Nat.ble 1 (len*sz)=true:=by rfl)
  (hc:Instr.fill (λi=>some (i*sz,sz)) ((Array.range (len*sz)).map (z.cells[· %z.cells.size]!)) vs=some cs.toArray:=by kernel_rfl)
  (hd:Nat.ble (d+1) C.n=true:=by rfl) (hn:hk H k=none:=by kernel_rfl):AL r P ops Q (⟨some d,.buildSlice t len parts.toArray,T,pos,af,none⟩::rest) C l H:=λa w hf W=>by
 subst N;subst O;refine Z.st_bslice hf hd ht hS hz hp V h0 hc λg w' a' hg hs' U L hf'=>h g a' w' hf' (W.new hn L (λb hb'=>?_) (λj hj=>by cases hj) λF B h1 _ _=>?_);simp only[Res.bl,obl,Qz]at hb';omega;obtain⟨d1,d2,d3⟩:=Dats.all W hD;refine Own.made (B:=0) U (Xe _) d1 ?_ d2 λi x hi=>rep_to (d3 i x hi) L λb U N=>⟨by simp,h1 b U N⟩;have:=Qn V;have h2:xs.length<=xs.length*ty.size:=Xb _ (Qat ty);simp only[maxLen];omega
def AL.bs0 (k:Nat)(ty:Ty){t e:TypeId}(h: ∀g,AL r P ops Q rest C ((d,.slice (some ⟨g,0,none⟩) 0 0)::l) ((k,.own ty e (some ⟨g,0,none⟩) 0 [])::H))
  (N: ∀w,(sizeOf e).run P w=.ok ty.size w) (O:P.underlying t=some (.slice e):=by rfl) (U:Nat.ble (d+1) C.n=true:=by rfl) (V:hk H k=none:=by kernel_rfl):AL r P ops Q (⟨some d,.buildSlice t 0 #[],T,pos,af,none⟩::rest) C l H:=λa w W hh=>
 Z.st_bslice0 W U O N λg w' a' hg hs' hb L hf'=>h g a' w' hf' (hh.new V L (λb hb'=>by simp only[Res.bl,obl,Qz]at hb';omega) (λj hj=>by cases hj) λF B h1 _ _=>Own.made (t:=ty) (xs:=[]) (B:=0) hb (Xe _) (by simp) (by simp[maxLen]) (by simp) (λi x hi=>by simp at hi))
def Hp.frz {w:World}(N:Hp C H w){k:Nat}{t:Ty}{e:TypeId}{A:Option Addr}{c:Nat}{xs:List t.den}(h:hk H k=some (.own t e A c xs)):Hp C ((k,.sh (.slice t) [.slice A xs.length c] xs)::drp k H) w:=
 N.upd (S:=[]) (Ch.refl w) (by simp) (by simp[Res.bl]) (λj O=>by cases O) λF B U V _ _ _=>by
  have W:Own t e 0 w (Fh C H) A c xs:=N.hold k _ h;obtain⟨cells,hr,o1,o2⟩:=W;have hO':Own t e 0 w F A c xs:=⟨cells,hr,o1,λi x hi=>rep_as (o2 i x hi) λb L hl=>U b L hl⟩;exact hO'.rep (λ_ h=>h) λb L=>V b ⟨_,h,L⟩ (by simp[Res.bl])
end
def Row.cells {t:Ty}{w:World}{F G:Nat->Prop}{A:Option Addr}{c:Nat}{xs:List t.den}(h:Row t w F G A c xs): ∃cells:List Value,cells.length=xs.length*t.size/\(∀u∈cells,u.oneCell'=true)/\(xs.length=0\/∃ad,A=some ad/\∀j u,cells[j]?=some u->w.cell? (ad.add j)=some u)/\
  ∀(i:Nat) (x:t.den),xs[i]?=some x->t.rep w F ((cells.drop (i*t.size)).take t.size) x:=by
 obtain⟨h2,h3,cells,O,L,h6⟩:=h;refine⟨cells,O,λu N=>?_,?_,h6⟩;obtain⟨j,U,rfl⟩:=Ww N;have V:=Qat t;have W:j / t.size<xs.length:=Nat.div_lt_of_lt_mul (by rw[Xp,<-O];exact U);have hr:=h6 (j / t.size) _ (Qf W);refine Qcx t hr _ (Qi (i:=j%t.size) ?_);rw[Qu (Nat.mod_lt _ V),Qv,Xp,Nat.div_add_mod];exact Qf U;rcases L with L|⟨b,o,rfl,hb,hcell⟩
 exact .inl L;exact .inr ⟨_,rfl,λj u N=>by rw[Addr.add_lit];exact hcell j u N⟩
section
variable {P:Program}{t:Ty}{e:TypeId}{B:Nat}{w:World}{F G:Nat->Prop}{A:Option Addr}{c:Nat}{xs:List t.den}
def run_appendR {tt ty:TypeId}{i:TypeInfo}{z:Value}{bytes:Nat}(ht:P.underlying tt=some (.slice e))(L:P.info? e=some i)(hz:i.zero=some z)(hsize:i.size=t.size)(hby:i.bytes=bytes)
  (hzs:z.cells.size=t.size) (hown:Own t e B w F A c xs) {A2:Option Addr} {c2:Nat} {ys:List t.den} (hr:Row t w F G A2 c2 ys) (h63:(xs.length+ys.length)*bytes<=140737488355328)
  (hbp:0<bytes) (hA: ∀b,F b->b∉obl A) (hB:B<=w.heap.size):
  ∃A' c' w',(Builtin.append_ #[tt,tt] ty #[.slice A xs.length c,.slice A2 ys.length c2]).run P w=.ok (.slice A' (xs.length+ys.length) c') w'/\Own t e B w' F A' c' (xs++ys)/\Ch (obl A) w w'/\
   (∀k,k∈obl A'->k∈obl A\/k=w.heap.size):=by
 obtain⟨cells,hrow,h1,h2⟩:=hown;obtain⟨news,hnl,V,N,hn3⟩:=hr.cells;have hsz:=Qat t;have hbig:xs.length+ys.length<=maxLen:=by
  have:xs.length+ys.length<=(xs.length+ys.length)*bytes:=Xb _ hbp;simp only[maxLen];omega
 by_cases W:ys.length=0;have hy:ys=[]:=Qt W;subst hy;have hrun:(Builtin.append_ #[tt,tt] ty #[.slice A xs.length c,.slice A2 0 c2]).run P w=.ok (.slice A xs.length c) w:=by
  rcases hrow.2 with⟨O,hn⟩|⟨g,cap,cur,O,_,_,hnc,_⟩
  injection O with hA' hn' hc
  subst hA';subst hc;cases A2<;>simp[Builtin.append_,run_underlying ht,sizeOf,typeInfo,L,Builtin.lenOf,Builtin.firstCells,hn,loadCells,loadCellsFrom];injection O with hA' hn' hc
  subst hA';subst hc;cases A2<;>simp[Builtin.append_,run_underlying ht,sizeOf,typeInfo,L,Builtin.lenOf,Builtin.firstCells,hnc,storeCells,loadCells,loadCellsFrom]
 refine⟨A,c,w,by simpa using hrun,⟨cells,by simpa using hrow,h1,by simpa using h2⟩,Ch.refl' _ _,λk hk=>.inl hk⟩;rcases N with N|⟨ad,rfl,hcell⟩
 exact absurd N W;obtain⟨v',w',hrun,h3,h4,_,h5⟩:=run_append_own_at (P:=P) w B tt ty e i z t.size bytes ht L hz hsize hby hzs hsz _ xs.length cells hrow ad ys.length c2 news hnl hcell V hbig h63 hB;have hform: ∃A' c',v'=.slice A' (xs.length+ys.length) c':=by
  rcases h3.2 with⟨O,hn⟩|⟨g,cap,cur,O,_⟩
  exact⟨none,0,by rw[O,show xs.length+ys.length=0 from by omega]⟩;exact⟨_,_,O⟩
 obtain⟨A',c',rfl⟩:=hform;have U:Ch (obl A) w w':=by have:=Ch.of_grown h4;rwa[ownBlock_slice]at this
 refine⟨A',c',w',hrun,⟨cells++news,?_,?_,?_⟩,U,λk hk=>?_⟩;rw[Qb];exact h3;intro u hu;rcases Wb.1 hu with hu|hu
 exact h1 u hu;exact V u hu;exact Qbf hrow.1 (λi x L=>rep_ch U hA t (h2 i x L)) (λi x L=>rep_ch U hA t (hn3 i x L));rcases h5 with h5|h5
 left;have:obl A'=obl A:=by rw[<-ownBlock_slice A' (xs.length+ys.length) c',h5,ownBlock_slice]
 rwa[<-this];right;have:obl A'=[w.heap.size]:=by rw[<-ownBlock_slice A' (xs.length+ys.length) c',h5];rfl
 rw[this]at hk;simpa using hk
def Own.take (h:Own t e B w F A c xs){k:Nat}(hk:k<=xs.length):Own t e B w F A c (xs.take k):=by
 obtain⟨cells,hr,h1,h2⟩:=h;have N:(xs.take k).length=k:=by rw[Qj];omega
 have hmul:k*t.size<=xs.length*t.size:=Wh _ hk;refine⟨cells.take (k*t.size),⟨by rw[Qj,hr.1,N];omega,?_⟩,λu hu=>h1 u (List.mem_of_mem_take hu),λi x hi=>?_⟩;rcases hr.2 with⟨O,hn⟩|⟨g,cap,cur,O,hb,hg,hnc,U,V,htake⟩
 left;injection O with hA' _ W
 subst hA';subst W;exact⟨by rw[N];congr 1;omega,by omega⟩;right;injection O with hA' _ W
 subst hA';subst W;refine⟨g,c,cur,rfl,hb,hg,by omega,U,V,?_⟩;rw[N,<-htake,List.take_take,W8 hmul];have L:i<k:=by
  have:=(Qd.1 hi).1;omega
 have hx:xs[i]?=some x:=by rwa[Qu L]at hi
 have:=h2 i x hx;have hm:(i+1)*t.size<=k*t.size:=Wh _ L;rw[Nat.add_mul,Nat.one_mul]at hm;rw[Xg,List.take_take,W8 (by omega)];exact this
end
section
variable {r:Option Nat}{P:Program}{ops:Array Oper}{Q:Exit->Act->World->Prop}{rest lst:List Oper}{C:Cx}{l:List (Nat×Value)}{H:List (Nat×Res)}{d:Nat}{op:Op}{T:TypeId}{pos:String}{af:Array Edge}
def AL.app {k:Nat}(js:List Nat){t:Ty}{tt e:TypeId}{x y:Operand}{i:TypeInfo}{z:Value}{bytes m n1 n2:Nat}{A A2:Option Addr}{c c2:Nat}{xs ys:List t.den}{kp':(Nat->Prop)->Prop}(hrow: ∀w,Hp C H w->∃G:Nat->Prop,Row t w (Fh C H) G A2 c2 ys/\kp' G)
  (hinf:P.info? e=some i/\i.zero=some z/\i.size=m/\i.bytes=bytes/\z.cells.size=m) (hl:(xs.length+ys.length)*bytes<=140737488355328)
  (h: ∀A' c',AL r P ops Q rest C ((d,.slice A' (xs++ys).length c')::l) ((k,.own t e A' c' (xs++ys))::ded js H))
  (N:hk H k=some (.own t e A c xs):=by rfl) (hx:ev l x=some (.slice A n1 c):=by rfl) (hy:ev l y=some (.slice A2 n2 c2):=by rfl) (hn1:n1=xs.length:=by rfl) (hn2:n2=ys.length:=by rfl) (hm:m=t.size:=by rfl) (U:Nat.ble 1 bytes=true:=by rfl)
  (ht:P.underlying tt=some (.slice e):=by rfl) (hd:Nat.ble (d+1) C.n=true:=by rfl) (hj:hng [k] js H=true:=by kernel_rfl):AL r P ops Q (⟨some d,.call {callee:=.builtin .append,args:=#[x,y],argTypes:=#[tt,tt]},T,pos,af,none⟩::rest) C l H:=λa w hf hh=>by
 subst hn1;subst hn2;subst hm;obtain⟨O,hz,hsize,V,W⟩:=hinf;obtain⟨G,hR,_⟩:=hrow w hh;have hO:Own t e 0 w (Fh C H) A c xs:=hh.hold k _ N;obtain⟨A',c',w',hrun,h1,h2,h3⟩:=run_appendR (P:=P) (ty:=T) ht O hz hsize V W hO hR hl (Qn U) (λb L hbA=>L.1 k ⟨_,N,hbA⟩) (Xe _);refine Z.valw (w':=w') (v:=.slice A' (xs++ys).length c') hf hd ?_ λa' hf'=>h A' c' a' w' hf' (Hp.dd (hh.upd h2 (λb L=>⟨_,N,L⟩) (λb L=>?_) (λj hj=>by cases hj) λF B hF _ _ _ hB=>?_) hj);rw[Qb];simp only[execOp,resolve,invoke,builtin,Sem.run_bind,Sem.run_pure,Result.andThen_ok,Wd,Wc,Xk,hf.eval hx,hf.eval hy,hrun];rcases h3 b L with h4|h4
 exact .inl ⟨_,N,h4⟩;exact .inr ⟨by omega,(h1.lt b L).2⟩;obtain⟨cells,o1,o2,o3⟩:=h1;obtain⟨cells0,p1,p2,p3⟩:=hO;obtain⟨cells2,q1,q2,q3,q4⟩:=hR.cells;have hFo: ∀b,Fh C H b->b∉obl A:=λb L hbA=>L.1 k ⟨_,N,hbA⟩;have h1':Own t e 0 w' (Fh C H) A' c' (xs++ys):=⟨cells,o1,o2,o3⟩;have hOi:Own t e 0 w (λb=>Fh C H b/\b<w.heap.size) A c xs:=⟨cells0,p1,p2,λi x O=>Qal t (p3 i x O)⟩;have hRi:Row t w (λb=>Fh C H b/\b<w.heap.size) (λ_=>True) A2 c2 ys:=by
  obtain⟨r1,r2,cs,r3,r4,r5⟩:=hR;refine⟨r1,r2,cs,r3,?_,λi x O=>Qal t (r5 i x O)⟩;rcases r4 with r4|⟨b,o,r4,_,r6⟩
  exact .inl r4;exact .inr ⟨b,o,r4,trivial,r6⟩
 obtain⟨A3,c3,w3,hrun3,h13,h23,_⟩:=run_appendR (P:=P) (ty:=T) ht O hz hsize V W hOi hRi hl (Qn U) (λb L=>hFo b L.1) (Xe _);rw[hrun]at hrun3;injection hrun3 with e1 e2
 injection e1 with e1 _ e3
 subst e1;subst e2;subst e3;exact h13.more λb L=>hF b L.1 L.2
def AL.cut (k kn:Nat){t:Ty}{tt e:TypeId}{x lo hi:Operand}{A:Option Addr}{c:Nat}{xs:List t.den}{k1 k2:IntKind}{p q:Int}{u v:Nat}(hp:p=(u:Int))(hq:q=(v:Int))(h1:u<=v)(h2:v<=xs.length)
  (h: ∀A' c',AL r P ops Q rest C ((d,.slice A' ((xs.take v).drop u).length c')::l) ((kn,.sh (.slice t) [.slice A' ((xs.take v).drop u).length c'] ((xs.take v).drop u))::H))
  (O:hk H k=some (.sh (.slice t) [.slice A xs.length c] xs):=by rfl) (hx:ev l x=some (.slice A xs.length c):=by rfl) (U:ev l lo=some (.int k1 p):=by rfl) (V:ev l hi=some (.int k2 q):=by rfl) (hS:szB P e=some t.size:=by kernel_rfl)
  (ht:P.underlying tt=some (.slice e):=by rfl) (hd:Nat.ble (d+1) C.n=true:=by rfl) (hn:hk H kn=none:=by kernel_rfl):AL r P ops Q (⟨some d,.slice tt x (some lo) (some hi) none,T,pos,af,none⟩::rest) C l H:=λa w N hh=>by
 have hr:(Ty.slice t).rep w (Fh C H) [.slice A xs.length c] xs:=hh.hold k _ O;have hlen:=rep_slice_len hr;have hlen2:((xs.take v).drop u).length=v-u:=by rw[Qk,Qj];omega
 refine Z.val (v:=.slice (cutA A c u t.size) (v-u) (c-u)) N hd (r_slice_lh ht (Qai hS) (N.eval hx) (N.eval U) (N.eval V) hp hq h1 (by omega)) λa' hf'=>?_;have L:(Ty.slice t).rep w (Fh C H) [.slice (cutA A c u t.size) (v-u) (c-u)] ((xs.take v).drop u):=by
  refine rep_drop (Qbi hr h2) (by rw[Qj];omega) (by omega) (by omega) λW ad hA=>?_;rw[Qj]at W;unfold cutA;rw[Qc (by omega),hA];rfl
 rw[<-hlen2]at L hf';exact h _ _ a' w hf' (hh.add hn rfl (λj hj=>by cases hj) (Qal _ L))
def AL.cuth (k kn:Nat){t:Ty}{tt e:TypeId}{x hi:Operand}{A:Option Addr}{c:Nat}{xs:List t.den}{k2:IntKind}{q:Int}{v:Nat}(hq:q=(v:Int))(h2:v<=xs.length)
  (h: ∀c',AL r P ops Q rest C ((d,.slice A (xs.take v).length c')::l) ((kn,.sh (.slice t) [.slice A (xs.take v).length c'] (xs.take v))::H))
  (N:hk H k=some (.sh (.slice t) [.slice A xs.length c] xs):=by rfl) (hx:ev l x=some (.slice A xs.length c):=by rfl) (O:ev l hi=some (.int k2 q):=by rfl) (hS:szB P e=some t.size:=by kernel_rfl)
  (ht:P.underlying tt=some (.slice e):=by rfl) (hd:Nat.ble (d+1) C.n=true:=by rfl) (hn:hk H kn=none:=by kernel_rfl):AL r P ops Q (⟨some d,.slice tt x none (some hi) none,T,pos,af,none⟩::rest) C l H:=λa w U hh=>by
 have hr:(Ty.slice t).rep w (Fh C H) [.slice A xs.length c] xs:=hh.hold k _ N;have hlen:=rep_slice_len hr;have L:(xs.take v).length=v:=by rw[Qj];omega
 refine Z.val (v:=.slice A v c) U hd (Qef ht (Qai hS) (U.eval hx) (U.eval O) hq (by omega)) λa' hf'=>?_;have V:=Qbi hr h2;rw[<-L]at hf';have W:(Ty.slice t).rep w (Fh C H) [.slice A (xs.take v).length c] (xs.take v):=by rw[L];exact V
 exact h _ a' w hf' (hh.add hn rfl (λj hj=>by cases hj) (Qal _ W))
section
variable {κ:Type}[DecidableEq κ]{enc:κ->Value}{kt et tt:TypeId}{t:Ty}{agg:Bool}{b:Nat}{m:List (κ×t.den)}
def put_dat {w:World}{x:t.den}{cs:List Value}(V:Hp C H w)(W:t.rep w (Fh C H) cs x)(kn:Nat)(hn:nok H kn (lv t)=true): ∃ps:Lf,ps.length=lv t/\cs=cl t x ps/\Hp C (hcat (kx kn (rs t x ps)) H) w:=by
 obtain⟨ps,U,hc,L⟩:=rep_cl (B:=Bk H) t (Qal t W);exact⟨ps,U,hc,V.adds (by rw[Qdf t x ps U];exact hn) λN O=>⟨(L N O).2.1,(L N O).2.2,(L N O).1⟩⟩
end
def Ct (P:Program)(f:FuncId)(vs:List Value)(H:List (Nat×Res))(S:List Nat)(R:Value->List (Nat×Res)->Prop):Prop:=
 ∀(w:World) (F:Nat->Prop),Hp ⟨0,[],w,S,F⟩ H w->Calls P f vs.toArray w λe w'=>∃v H',e=.returned v/\R v H'/\Hp ⟨0,[],w,S,F⟩ H' w'
def Ct.enter {f:FuncId}{fn:Func}{c:Code}{vs:List Value}{n:Nat}{S:List Nat}{R:Value->List (Nat×Res)->Prop}(O:P.funcs[f]?=some fn)(U:fn.body=some c)(V:fn.ntmps=n)(W:Nat.ble vs.length n=true)
  (h: ∀w F,AX none P (bodyPost P fn λe w'=>∃v H',e=.returned v/\R v H'/\Hp ⟨0,[],w,S,F⟩ H' w') [] c ⟨n,[],w,S,F⟩ (argl vs 0) H):Ct P f vs H S R:=λw F L=>
 Z.enter O U V (Qn W) λa N=>h w F a w N ⟨L.ch,L.hold,L.bnd,L.dis,L.ref⟩
def AX.ret {fn:Func}{K:List Kx}{w0:World}{S:List Nat}{F:Nat->Prop}{n:Nat}{R:Value->List (Nat×Res)->Prop}(ps:List (Nat×Nat))(v:Value)(hres: ∀a w,Fr a n [] l->Hp ⟨n,[],w0,S,F⟩ H w->(results fn a.tmps).run P w=.ok v w)(U:R v (A.ren H ps))(V:nod (ps.map (·.1))=true:=by rfl)(W:nod (ps.map (·.2))=true:=by rfl):
  AX r P (bodyPost P fn λe w'=>∃v H',e=.returned v/\R v H'/\Hp ⟨0,[],w0,S,F⟩ H' w') K .ret ⟨n,[],w0,S,F⟩ l H:=AX.ret0 λa w N O=>by
 have L:=O.ren ps V W;exact Z.retv N (hres a w N O) ⟨v,_,rfl,U,⟨L.ch,L.hold,L.bnd,L.dis,L.ref⟩⟩
def AE.ret {fn:Func}{w0:World}{S:List Nat}{F:Nat->Prop}{n:Nat}{R:Value->List (Nat×Res)->Prop}(ps:List (Nat×Nat))(v:Value)(hres: ∀a w,Fr a n [] l->Hp ⟨n,[],w0,S,F⟩ H w->(results fn a.tmps).run P w=.ok v w)(U:R v (A.ren H ps))(V:nod (ps.map (·.1))=true:=by rfl)(W:nod (ps.map (·.2))=true:=by rfl):
  AE r P (bodyPost P fn λe w'=>∃v H',e=.returned v/\R v H'/\Hp ⟨0,[],w0,S,F⟩ H' w') [] .normal ⟨n,[],w0,S,F⟩ l H:=λa w N O=>by
 have L:=O.ren ps V W;exact Z.endv N (hres a w N O) ⟨v,_,rfl,U,⟨L.ch,L.hold,L.bnd,L.dis,L.ref⟩⟩
end
inductive Sub (H:List (Nat×Res)):List (Nat×Res)->List (Nat×Nat)->List Nat->Prop
 |nil:Sub H [] [] []
 |s (k:Nat) {k0:Nat} {r:Res} {H0:List (Nat×Res)} {ms:List (Nat×Nat)} {ls:List Nat} (h:Sub H H0 ms ls) (h1:hk H k=some r:=by rfl) (hb:r.bl=[]:=by rfl) (hr:r.ref=none:=by rfl):Sub H ((k0,r)::H0) ms ls
 |o (k:Nat) {k0:Nat} {t:Ty} {e:TypeId} {A:Option Addr} {c:Nat} {xs:List t.den} {H0:List (Nat×Res)} {ms:List (Nat×Nat)} {ls:List Nat} (h:Sub H H0 ms ls) (h1:hk H k=some (.own t e A c xs):=by rfl):Sub H ((k0,.ln t A c xs)::H0) ms (k::ls)
 |l (k:Nat) {k0:Nat} {t:Ty} {A:Option Addr} {c:Nat} {xs:List t.den} {H0:List (Nat×Res)} {ms:List (Nat×Nat)} {ls:List Nat} (h:Sub H H0 ms ls) (h1:hk H k=some (.sh (.slice t) [.slice A xs.length c] xs):=by rfl):Sub H ((k0,.ln t A c xs)::H0) ms ls
 |nl {k0:Nat} {t:Ty} {H0:List (Nat×Res)} {ms:List (Nat×Nat)} {ls:List Nat} (h:Sub H H0 ms ls):Sub H ((k0,.ln t none 0 [])::H0) ms ls
 |ns {k0:Nat} {t:Ty} {H0:List (Nat×Res)} {ms:List (Nat×Nat)} {ls:List Nat} (h:Sub H H0 ms ls):Sub H ((k0,.sh (.slice t) [.slice none 0 0] [])::H0) ms ls
 |b (k:Nat) {k0:Nat} {g:Nat} {e:TypeId} {cs:List Value} {H0:List (Nat×Res)} {ms:List (Nat×Nat)} {ls:List Nat} (h:Sub H H0 ms ls) (h1:hk H k=some (.blk g e cs):=by rfl):Sub H ((k0,.el none g 0 cs)::H0) ms (k::ls)
 |lm (k:Nat) {k0:Nat} {κ:Type} {enc:κ->Value} {t:Ty} {agg:Bool} {b:Nat} {m:List (κ×t.den)} {H0:List (Nat×Res)} {ms:List (Nat×Nat)} {ls:List Nat} (h:Sub H H0 ms ls) (h1:hk H k=some (.mp κ enc t agg b m):=by rfl):Sub H ((k0,.lmp κ enc t agg b m)::H0) ms (k::ls)
 |m (k:Nat) {k0:Nat} {r:Res} {H0:List (Nat×Res)} {ms:List (Nat×Nat)} {ls:List Nat} (h:Sub H H0 ms ls) (h1:hk H k=some r:=by rfl) (hr:r.ref=none:=by rfl):Sub H ((k0,r)::H0) ((k0,k)::ms) ls
def blks (H:List (Nat×Res)):List (Nat×Nat)->List Nat
 | []=>[]
 |(_,k)::ms=>match hk H k with
  |some r=>r.bl++blks H ms
  |none=>blks H ms
def Qch {H:List (Nat×Res)}{b:Nat}: ∀{ms:List (Nat×Nat)},b∈blks H ms↔∃p,p∈ms/\Bk H p.2 b
 | []=>by simp[blks]
 |(i,k)::ms=>by
  unfold blks;cases U:hk H k with
  |none=>
   simp only[];rw[Qch];exact⟨λ⟨p,L,N⟩=>⟨p,Qp _ L,N⟩,λ⟨p,L,N⟩=>by
    rcases Qq.1 L with rfl|L
    obtain⟨r,O,_⟩:=N;rw[U]at O;cases O;exact⟨p,L,N⟩⟩
  |some r=>
   simp only[Wb];rw[Qch];constructor;rintro(h|⟨p,L,N⟩);exact⟨(i,k),Qx ..,r,U,h⟩;exact⟨p,Qp _ L,N⟩;rintro⟨p,L,N⟩;rcases Qq.1 L with rfl|L
   obtain⟨W,O,V⟩:=N;rw[U]at O;injection O with O;subst O;exact .inl V
   exact .inr ⟨p,L,N⟩
def Sub.hp {C:Cx}{H:List (Nat×Res)}{w:World}(hh:Hp C H w){H0:List (Nat×Res)}{ms:List (Nat×Nat)}{ls:List Nat}(h:Sub H H0 ms ls)(h1:nod (H0.map (·.1))=true)(h2:nod (ms.map (·.2))=true)(h3:ls.all (λk=> !(ms.map (·.2)).any (Nat.beq k))=true):
  Hp ⟨0,[],w,blks H ms,Fh C H⟩ H0 w:=by
 have hvis: ∀{H0:List (Nat×Res)} {k:Nat} {r:Res},hk H0 k=some r->(k,r)∈H0:=by
  intro H0;induction H0 with
  |nil=>intro k r h;cases h
  |cons p q O=>
   obtain⟨d,u⟩:=p;intro k r h;rw[Qaa]at h;split at h;rename_i e;subst e;injection h with h;subst h;exact Qx ..
   exact Qp _ (O h)
 have hmoved: ∀{H0:List (Nat×Res)} {ms:List (Nat×Nat)} {ls:List Nat},Sub H H0 ms ls->∀k r,(k,r)∈H0->r.ref=none/\∀b,b∈r.bl->∃j,(k,j)∈ms/\hk H j=some r:=by
  intro H0 ms ls h;induction h with
  |nil=>intro k r L;cases L
  |s k _ h1 N hr O=>
   intro k r L;rcases Qq.1 L with e|L
   injection e with U V;subst U;subst V;exact⟨hr,λb hb2=>by rw[N]at hb2;cases hb2⟩
   exact O k r L
  |m k _ h1 hr O=>
   intro k r L;rcases Qq.1 L with e|L
   injection e with U V;subst U;subst V;exact⟨hr,λb hb2=>⟨_,Qx ..,h1⟩⟩
   obtain⟨W,h5⟩:=O k r L;exact⟨W,λb N=>by obtain⟨j,h6,h7⟩:=h5 b N;exact⟨j,Qp _ h6,h7⟩⟩
  |_=>
   rename_i O;intro k r L;rcases Qq.1 L with e|L
   injection e with U V;subst U;subst V;exact⟨rfl,λb hb2=>by cases hb2⟩
   exact O k r L
 have hbk: ∀k b,Bk H0 k b->∃j,(k,j)∈ms/\Bk H j b:=λk b ⟨r,W,h5⟩=>by
  obtain⟨j,h6,h7⟩:=(hmoved h k r (hvis W)).2 b h5;exact⟨j,h6,r,h7,h5⟩
 have hnb: ∀b,(∀k,¬Bk H k b)->∀k,¬Bk H0 k b:=λb hB k hk=>by obtain⟨j,_,W⟩:=hbk k b hk;exact hB j W
 have hF: ∀b,Fh C H b->Fh ⟨0,[],w,blks H ms,Fh C H⟩ H0 b:=λb N=>⟨hnb b N.1,.inl N⟩;have hholds: ∀{H1:List (Nat×Res)} {ms1:List (Nat×Nat)} {ls1:List Nat},Sub H H1 ms1 ls1->(∀k,k∈ls1->∀p,p∈ms->p.2≠k)->∀k r,(k,r)∈H1->r.holds w (Fh ⟨0,[],w,blks H ms,Fh C H⟩ H0) (Bk H0):=by
  intro H1 ms1 ls1 h;have go: ∀k r,hk H k=some r->r.ref=none->r.holds w (Fh ⟨0,[],w,blks H ms,Fh C H⟩ H0) (Bk H0):=λk r W h5=>
   Res.to (hh.hold k r W) (S:=[]) (Ch.refl w) (λb N _=>⟨by simp,hF b N⟩) (λb N _=>⟨by simp,hnb b N⟩) (λi b hi _=>by rw[h5]at hi;cases hi) (by simp)
  induction h with
  |nil=>intro _ k r L;cases L
  |s k _ h1 N hr O=>
   intro hl k r L;rcases Qq.1 L with e|L
   injection e with U V;subst U;subst V;exact go _ _ h1 hr
   exact O hl k r L
  |m k _ h1 hr O=>
   intro hl k r L;rcases Qq.1 L with e|L
   injection e with U V;subst U;subst V;exact go _ _ h1 hr
   exact O hl k r L
  |o k _ h1 O=>
   intro hl k' r L;rcases Qq.1 L with e|L
   injection e with U V;subst U;subst V
   obtain⟨G,W,h5⟩:=rowO h1 w hh;refine Row.to W (S:=[]) (Ch.refl w) (λb N _=>⟨by simp,hF b N⟩) λb N _=>⟨by simp,λk2 hk2=>?_⟩;obtain⟨j,h6,h7⟩:=hbk k2 b hk2;exact hl k (Qx ..) _ h6 (hh.dis j k b h7 (h5 b N));exact O (λk hk=>hl k (Qp _ hk)) k' r L
  |b k _ h1 O=>
   intro hl k' r L;rcases Qq.1 L with e|L
   injection e with U V;subst U;subst V
   have hB:Blk w _ _ _:=hh.hold k _ h1;refine⟨λj u hu=>?_,hB.lt,λk2 hk2=>?_⟩;rw[Addr.add_lit,Nat.zero_add,hB.cell];exact hu;obtain⟨j,h6,h7⟩:=hbk k2 _ hk2;exact hl k (Qx ..) _ h6 (hh.dis j k _ h7 ⟨_,h1,by simp[Res.bl]⟩);exact O (λk hk=>hl k (Qp _ hk)) k' r L
  |lm k _ h1 O=>
   intro hl k' r L;rcases Qq.1 L with e|L
   injection e with U V;subst U;subst V
   have hB:Mt _ _ _ w (Fh C H) _ _:=hh.hold k _ h1;refine⟨Mt.to hB (S:=[]) (Ch.refl w) (by simp) λb N _=>⟨by simp,hF b N⟩,λk2 hk2=>?_⟩;obtain⟨j,h6,h7⟩:=hbk k2 _ hk2;exact hl k (Qx ..) _ h6 (hh.dis j k _ h7 ⟨_,h1,by simp[Res.bl]⟩);exact O (λk hk=>hl k (Qp _ hk)) k' r L
  |l k _ h1 O=>
   intro hl k' r L;rcases Qq.1 L with e|L
   injection e with U V;subst U;subst V
   obtain⟨G,W,h5⟩:=rowS h1 w hh;exact Row.to W (S:=[]) (Ch.refl w) (λb N _=>⟨by simp,hF b N⟩) λb N _=>⟨by simp,hnb b (h5 b N)⟩;exact O hl k' r L
  |nl _ O=>
   intro hl k' r L;rcases Qq.1 L with e|L
   injection e with U V;subst U;subst V
   exact⟨Q4 _,by simp[maxLen],[],by simp,.inl rfl,λi x hi=>by simp at hi⟩;exact O hl k' r L
  |ns _ O=>
   intro hl k' r L;rcases Qq.1 L with e|L
   injection e with U V;subst U;subst V;exact rep_nil _
   exact O hl k' r L
 have hls: ∀k,k∈ls->∀p,p∈ms->p.2≠k:=λk hk p hp e=>by
  have W:=Wx.1 h3 k hk;simp only[Bool.not_eq_true',List.any_map,List.any_eq_false]at W;exact W p hp (by simp[Function.comp,e])
 refine⟨Ch.refl' _ _,λk r hk1=>hholds h hls k r (hvis hk1),λk b N=>?_,λk k' b N hb'=>?_,λk r j hk1 hr=>?_⟩;obtain⟨j,W,h5⟩:=hbk k b N;exact⟨.inr (Qch.2 ⟨_,W,h5⟩),(hh.bnd j b h5).2⟩;obtain⟨j,W,h5⟩:=hbk k b N;obtain⟨j',h6,h7⟩:=hbk k' b hb';exact Qev (f:=λp:Nat×Nat=>p.2) (g:=λp:Nat×Nat=>p.1) h2 (k,j) (k',j') W h6 (hh.dis j j' b h5 h7);rw[(hmoved h k r (hvis hk1)).1]at hr;cases hr
def kill:List Nat->List (Nat×Res)->List (Nat×Res)
 | [],H=>H
 |k::ks,H=>(k,.dead)::drp k (kill ks H)
def Qct {H:List (Nat×Res)}: ∀{ks:List Nat} {j:Nat} {r:Res},hk (kill ks H) j=some r->r=.dead\/(hk H j=some r/\j∉ks/\∀k,k∈ks->r.ref≠some k)
 | [],j,r,h=>.inr ⟨h,by simp,by simp⟩
 |k::ks,j,r,h=>by
  unfold kill at h;rw[Qaa]at h;split at h;injection h with h;exact .inl h.symm
  rename_i L;rcases Qbs k _ j r h with N|⟨N,W⟩
  exact .inl N;rcases Qct N with O|⟨O,h4,h5⟩
  exact .inl O;refine .inr ⟨O,λU=>?_,λi V=>?_⟩;rcases Qq.1 U with e|U
  exact L e.symm;exact h4 U;rcases Qq.1 V with rfl|V
  exact W;exact h5 i V
def Qcn {k:Nat}: ∀{H:List (Nat×Res)} {j:Nat} {r:Res},hk H j=some r->r.ref≠some k->hk (drp k H) j=some r
 | [],_,_,h,_=>by cases h
 |(d,u)::q,j,r,L,N=>by
  unfold drp;rw[Qaa]at L ⊢;by_cases O:d=j;rw[Qe O]at L ⊢;injection L with L
  subst L;cases U:u.ref with
  |none=>rfl
  |some i=>
   simp only[];have:Nat.beq i k=false:=by cases V:Nat.beq i k with
    |false=>rfl
    |true=>exact absurd (by rw[U,Q2 V]) N
   rw[this];rfl
  rw[Qc O]at L ⊢;exact Qcn L N
def Qdd {H:List (Nat×Res)}: ∀{ks:List Nat} {j:Nat} {r:Res},hk H j=some r->j∉ks->(∀k,k∈ks->r.ref≠some k)->hk (kill ks H) j=some r
 | [],_,_,h,_,_=>h
 |k::ks,j,r,h,L,N=>by
  unfold kill;rw[Qaa,Qc (λe=>L (by rw[e];exact Qx ..))];exact Qcn (Qdd h (λO=>L (Qp _ O)) λi U=>N i (Qp _ U)) (N k (Qx ..))
def sft (n:Nat):List (Nat×Res)->List (Nat×Res)
 | []=>[]
 |(k,r)::H=>(k+n,r)::sft n H
def Qeh {n:Nat}{H0:List (Nat×Res)}: ∀{H:List (Nat×Res)} {j:Nat} {r:Res},hk (hcat (sft n H) H0) j=some r->(∃k,j=k+n/\hk H k=some r)\/(hk H0 j=some r/\∀k,j=k+n->hk H k=none)
 | [],j,r,h=>.inr ⟨h,λ_ _=>rfl⟩
 |(d,u)::H,j,r,h=>by
  replace h:hk ((d+n,u)::hcat (sft n H) H0) j=some r:=h;rw[Qaa]at h;split at h;rename_i e;injection h with h;subst h;exact .inl ⟨d,e.symm,by rw[Qaa,Qe rfl]⟩
  rename_i L;rcases Qeh h with⟨k,N,O⟩|⟨N,O⟩
  exact .inl ⟨k,N,by rw[Qaa,Qc (λe=>L (by rw[e,N]))];exact O⟩;exact .inr ⟨N,λk hk=>by rw[Qaa,Qc (λe=>L (by rw[e,hk]))];exact O k hk⟩
def outs:List (Nat×Res)->Bool
 | []=>true
 |(_,r)::H=>(match r with| .ln _ _ _ _=>false| .el _ _ _ _=>false| .mit _ _ _ _ _ _=>false| .lmp _ _ _ _ _ _=>false|_=>true)&&outs H
def Qbt: ∀{H:List (Nat×Res)} {k:Nat} {r:Res},outs H=true->hk H k=some r->(∀t A c xs,r≠ .ln t A c xs)/\(∀k b o cs,r≠ .el k b o cs)/\r.ref=none
 | [],_,_,_,h=>by cases h
 |(d,u)::H,k,r,L,h=>by
  simp only[outs,Qm]at L;rw[Qaa]at h;split at h;injection h with h;subst h
  cases u<;>simp_all [Res.ref];exact Qbt L.2 h
def outs_lmp: ∀{H:List (Nat×Res)} {k:Nat} {κ:Type} {enc:κ->Value} {t:Ty} {agg:Bool} {b:Nat} {m:List (κ×t.den)},outs H=true->hk H k=some (.lmp κ enc t agg b m)->False
 | [],_,_,_,_,_,_,_,_,h=>by cases h
 |(d,u)::H,k,_,_,_,_,_,_,L,h=>by
  simp only[outs,Qm]at L;rw[Qaa]at h;split at h;injection h with h;subst h;exact absurd L.1 (by simp)
  exact outs_lmp L.2 h
def frs (n:Nat)(H:List (Nat×Res)):List (Nat×Res)->Bool
 | []=>true
 |(k,_)::H'=>(match hk H (k+n)with|none=>true|some _=>false)&&frs n H H'
def Hp.back {C:Cx}{H H':List (Nat×Res)}{w w':World}{ms:List (Nat×Nat)}{n:Nat}(h:Hp C H w)(h':Hp ⟨0,[],w,blks H ms,Fh C H⟩ H' w')(ho:outs H'=true)(hf:frs n H H'=true):Hp C (hcat (sft n H') (kill (ms.map (·.2)) H)) w':=by
 have hS: ∀b,b∈blks H ms->∃k,k∈ms.map (·.2)/\Bk H k b:=λb O=>by
  obtain⟨p,N,L⟩:=Qch.1 O;exact⟨p.2,Xl.2 ⟨p,N,rfl⟩,L⟩
 have hbk: ∀j b,Bk (hcat (sft n H') (kill (ms.map (·.2)) H)) j b->(∃k,j=k+n/\Bk H' k b)\/((∀k,j=k+n->hk H' k=none)/\Bk H j b/\j∉ms.map (·.2)):=λj b ⟨r,N,L⟩=>by
  rcases Qeh N with⟨k,V,U⟩|⟨V,U⟩
  exact .inl ⟨k,V,r,U,L⟩;rcases Qct V with rfl|⟨h5,h6,_⟩
  cases L;exact .inr ⟨U,⟨r,h5,L⟩,h6⟩
 have hnew: ∀k b,Bk H' k b->(w.heap.size<=b\/b∈blks H ms)/\b<w'.heap.size:=λk b O=>h'.bnd k b O;have hold: ∀b,(∀k,¬Bk H k b)->b<w.heap.size->b∉blks H ms/\∀j,¬Bk (hcat (sft n H') (kill (ms.map (·.2)) H)) j b:=λb hB W=>by
  refine⟨λO=>by obtain⟨k,_,N⟩:=hS b O;exact hB k N,λj hj=>?_⟩;rcases hbk j b hj with⟨k,_,N⟩|⟨_,N,_⟩
  rcases(hnew k b N).1 with L|L
  omega;obtain⟨k,_,V⟩:=hS b L;exact hB k V;exact hB j N
 have hch:=h'.ch;have hsz:w.heap.size<=w'.heap.size:=hch.size;have hrefk: ∀j r i,hk H j=some r->r.ref=some i->i∉ms.map (·.2)->∀b,Bk H i b->Bk (hcat (sft n H') (kill (ms.map (·.2)) H)) i b:=λj r i hj hr hi b O=>by
  obtain⟨r2,N,L⟩:=O;have V:=(h.ref j r i hj hr).2 r2 N;refine⟨r2,?_,L⟩;have U:hk (kill (ms.map (·.2)) H) i=some r2:=Qdd N hi λk _=>by rw[V];simp
  have h5: ∀{H':List (Nat×Res)},frs n H H'=true->hk (hcat (sft n H') (kill (ms.map (·.2)) H)) i=some r2:=by
   intro H';induction H' with
   |nil=>intro _;exact U
   |cons p q ih=>
    obtain⟨d,u⟩:=p;intro hf;simp only[frs,Qm]at hf;show hk ((d+n,u)::hcat (sft n q) _) i=some r2;rw[Qaa,Qc (λe=>by subst e;rw[N]at hf;exact absurd hf.1 (by simp))];exact ih hf.2
  exact h5 hf
 refine⟨?_,λj r hj=>?_,λj b hj=>?_,λj j' b hj hj'=>?_,λj r i hj hri=>?_⟩;have hc0:=h.ch;refine⟨hch.os.trans hc0.os,hch.tape.trans hc0.tape,hch.output.trans hc0.output,Q7 hc0.size hch.size,λb O hn=>?_⟩;have hb2:b∉blks H ms:=λhbS=>by
  obtain⟨k,_,N⟩:=hS b hbS;rcases(h.bnd k b N).1 with L|L
  omega;exact hn L
 rw[hch.block b (Q3 O hc0.size) hb2];exact hc0.block b O hn;rcases Qeh hj with⟨k,rfl,N⟩|⟨N,_⟩
 obtain⟨o1,o2,o3⟩:=Qbt ho N;have hh:=h'.hold k r N;have hF: ∀b,Fh ⟨0,[],w,blks H ms,Fh C H⟩ H' b->b<w'.heap.size->Fh C (hcat (sft n H') (kill (ms.map (·.2)) H)) b:=λb O W=>by
  refine⟨λj hj=>?_,?_⟩;rcases hbk j b hj with⟨k,_,L⟩|⟨_,L,V⟩
  exact O.1 k L;rcases O.2 with U|U|U
  exact U.1 j L;have:=(h.bnd j b L).2;have U:w.heap.size<=b:=U;omega;obtain⟨k,h5,h6⟩:=hS b U;exact V (by rw[h.dis j k b L h6];exact h5);rcases O.2 with U|U|U
  exact U.2;exact .inr (.inl (Q7 h.ch.size U));obtain⟨k,_,h6⟩:=hS b U;exact .inr (h.bnd k b h6).1
 cases r with
 |ln t A c xs=>exact absurd rfl (o1 t A c xs)
 |el k b o cs=>exact absurd rfl (o2 k b o cs)
 |mit k g b n seen la=>cases o3
 |dead=>trivial
 |sh t cs x=>exact rep_to hh (S:=[]) (Ch.refl w') λb O W=>⟨by simp,hF b O W⟩
 |own t e A c xs=>exact Own.to hh (S:=[]) (Ch.refl w') (by simp) λb O W=>⟨by simp,hF b O W⟩
 |blk g e cs=>exact hh
 |mp κ enc t agg b m=>exact Mt.to hh (S:=[]) (Ch.refl w') (by simp) λb O W=>⟨by simp,hF b O W⟩
 |si g s p=>exact hh
 |ob g p=>exact hh
 |lmp κ enc t agg b m=>exact(outs_lmp ho N).elim
 |mr κ enc t e b As m=>exact Mr.to hh (S:=[]) (Ch.refl w') (by simp) λb O W=>⟨by simp,hF b O W⟩
 |gn bs p hp=>exact hp hh (S:=[]) (Ch.refl w') (by simp) λb O W=>⟨by simp,hF b O W⟩
 rcases Qct N with rfl|⟨L,V,U⟩
 trivial;refine Res.to (h.hold j r L) hch (λb O W=>⟨(hold b O.1 W).1,(hold b O.1 W).2,O.2⟩) (λb O W=>hold b O W) (λi b hi hB=>⟨λhbS=>?_,?_⟩) λb O hbS=>?_;obtain⟨k,h5,h6⟩:=hS b hbS;exact U k h5 (by rw[hi,h.dis i k b hB h6]);exact hrefk j r i L hi (λhm=>U i hm hi) b hB;obtain⟨k,h5,h6⟩:=hS b hbS;exact V (by rw[h.dis j k b ⟨r,L,O⟩ h6];exact h5);rcases hbk j b hj with⟨k,_,N⟩|⟨_,N,_⟩
 obtain⟨L,V⟩:=hnew k b N;refine⟨?_,V⟩;rcases L with L|L
 exact .inl (Q7 h.ch.size L);obtain⟨k,_,h6⟩:=hS b L;exact(h.bnd k b h6).1;exact⟨(h.bnd j b N).1,Q3 (h.bnd j b N).2 hsz⟩;have cross: ∀k j b,Bk H' k b->Bk H j b->j∉ms.map (·.2)->False:=λk j b N L V=>by
  rcases(hnew k b N).1 with U|U
  have:=(h.bnd j b L).2;omega;obtain⟨i,h5,h6⟩:=hS b U;exact V (by rw[h.dis j i b L h6];exact h5)
 rcases hbk j b hj with⟨k,rfl,N⟩|⟨_,N,V⟩<;>rcases hbk j' b hj' with⟨k',rfl,L⟩|⟨_,L,U⟩
 rw[h'.dis k k' b N L];exact(cross k j' b N L U).elim;exact(cross k' j b L N V).elim;exact h.dis j j' b N L;rcases Qeh hj with⟨k,rfl,N⟩|⟨N,_⟩
 rw[(Qbt ho N).2.2]at hri;cases hri;rcases Qct N with rfl|⟨L,V,U⟩
 cases hri;obtain⟨h5,h6⟩:=h.ref j r i L hri;refine⟨h5,λr2 h7=>?_⟩;rcases Qeh h7 with⟨k,rfl,h8⟩|⟨h8,_⟩
 exact(Qbt ho h8).2.2;rcases Qct h8 with rfl|⟨h9,_⟩
 rfl;exact h6 r2 h9
section
variable {r:Option Nat}{P:Program}{ops:Array Oper}{Q:Exit->Act->World->Prop}{rest lst:List Oper}{C:Cx}{l:List (Nat×Value)}{H:List (Nat×Res)}{d:Nat}{T:TypeId}{pos:String}{af:Array Edge}
def Qdk {H:List (Nat×Res)}: ∀(ks:List Nat) (j:Nat),hk (kill ks H) j=bif ks.any (Nat.beq j)then some .dead else(hk H j).map λv=>bif rin ks v.ref then .dead else v
 | [],j=>by
  show hk H j=(hk H j).map _;cases hk H j with
  |none=>rfl
  |some v=>cases O:v.ref<;>simp[rin,O]
 |k::ks,j=>by
  show hk ((k,.dead)::drp k (kill ks H)) j=_;rw[Qaa,Qbq,Qdk ks j,List.any_cons];by_cases L:k=j;subst L;simp;have N:Nat.beq j k=false:=by cases U:Nat.beq j k with
   |false=>rfl
   |true=>exact absurd (Q2 U).symm L
  rw[Qc L,N];revert N;intro _;cases ks.any (Nat.beq j)<;>cases O:hk H j<;>try rfl
  rename_i v;cases V:v.ref with
  |none=>simp[rin,V]
  |some i=>simp only[cond_false,Bool.false_or,W1,rin,V,List.any_cons,List.any_nil,Bool.or_false];cases U:ks.any (Nat.beq i)<;>cases W:Nat.beq i k<;>simp_all [rin,Res.ref]
def kld (js:List Nat)(H:List (Nat×Res))(ks:List Nat):List (Nat×Res):=ded ks (ded js H)
def hk_kld {H:List (Nat×Res)}{ks js:List Nat}(h:hng ks js H=true)(j:Nat):hk (kld js H ks) j=hk (kill ks H) j\/(hk (kld js H ks) j=some .dead/\hk (kill ks H) j=none):=by
 rw[kld,Qel,Qel,Qdk];cases ks.any (Nat.beq j)with
 |true=>exact .inl rfl
 |false=>exact hng_at h j
def Qdu: ∀{A H H':List (Nat×Res)},(∀j,hk H' j=hk H j\/(hk H' j=some .dead/\hk H j=none))->∀j,hk (hcat A H') j=hk (hcat A H) j\/(hk (hcat A H') j=some .dead/\hk (hcat A H) j=none)
 | [],_,_,h,j=>h j
 |(d,u)::A,H,H',h,j=>by
  show hk ((d,u)::hcat A H') j=hk ((d,u)::hcat A H) j\/(hk ((d,u)::hcat A H') j=some .dead/\hk ((d,u)::hcat A H) j=none);rw[Qaa,Qaa];by_cases L:d=j;rw[Qe L,Qe L];exact .inl rfl;rw[Qc L,Qc L];exact Qdu (A:=A) h j
def AL.call (n:Nat)(js:List Nat){f:FuncId}{c:Operand}{xs:List Operand}{vs vs' first cap:List Value}{ts:Array TypeId}{H0:List (Nat×Res)}{ms:List (Nat×Nat)}{ls:List Nat}{S:List Nat}{R:Value->List (Nat×Res)->Prop}
  (L: ∀args w,(callFunc f args).run P w=.ok (.enter f args) w) (N:Ct P f vs' H0 S R) (W:Sub H H0 ms ls)
  (h: ∀v H',R v H'->(outs H'&&frs n H H')=true/\AL r P ops Q rest C ((d,v)::l) (hcat (sft n H') (kld js H (ms.map (·.2)))))
  (hc:ev l c=some (.func (.func f) first.toArray cap.toArray):=by rfl) (hx:evs l xs=some vs:=by rfl) (hv:first++vs++cap=vs':=by rfl) (hS:blks H ms=S:=by rfl) (h1:nod (H0.map (·.1))=true:=by rfl) (h2:nod (ms.map (·.2))=true:=by rfl) (h3:ls.all (λk=> !(ms.map (·.2)).any (Nat.beq k))=true:=by rfl) (hd:Nat.ble (d+1) C.n=true:=by rfl) (hj:hng (ms.map (·.2)) js H=true:=by kernel_rfl):
  AL r P ops Q (⟨some d,.call {callee:=.value c,args:=xs.toArray,argTypes:=ts},T,pos,af,none⟩::rest) C l H:=λa w U V=>by
 subst hS;subst hv;refine Z.call1 U hd (r_callv L U (first:=first) (cap:=cap) (vs:=vs) (xs:=xs) hc hx) (N w (Fh C H) (W.hp V h1 h2 h3)) λe w' ⟨v,H',he,hR,hh'⟩=>⟨v,he,λa' hf'=>?_⟩;obtain⟨O,h5⟩:=h v H' hR;rw[Qm]at O;exact h5 a' w' hf' ((V.back hh' O.1 O.2).ext (Qdu (hk_kld hj)))
end
def pk_kont {r:Option Nat}{P:Program}{Y:Exit->Act->World->Prop}(hp:Pq Y): ∀{K:List Kx},Pq (kont r P Y K)
 | []=>hp
 | .c _::K=>λc a d v w h=>pk_kont hp (K:=K) c a d v w h
 | .b _::K=>λc a d v w h=>pk_kont hp (K:=K) c a d v w h
 | .m _::K=>λc a d v w h=>pk_kont hp (K:=K) c a d v w h
 | .s::K=>λc a d v w h=>pk_kont hp (K:=K) c a d v w h
section
variable {r:Option Nat}{P:Program}{ops:Array Oper}{Q:Exit->Act->World->Prop}{S S':World->Prop}{m:Nat}
def gn (ops:Array Oper)(li:Array Bool)(m:Nat):Bool:=(ops[m]?).isSome&&li.getD m false
def Hem (r:Option Nat)(P:Program)(ops:Array Oper)(Q:Exit->Act->World->Prop)(S:World->Prop)(m:Nat):Nat->Array Bool->Act->World->Prop
 |0,listed,a,w=>Region.ready .any ops listed=[]/\Q .normal a w
 |f+1,listed,a,w=>(Region.ready .any ops listed=[]->Q .normal a w)/\
  ∀i∈Region.ready .any ops listed,wpOpIn (FW r) 0 P ops Q i (λa' w'=>(gn ops (listed.setIfInBounds i true) m=false->S w')/\Hem r P ops Q S m f (listed.setIfInBounds i true) a' w') a w
def Hem.any: ∀(f:Nat) (listed:Array Bool) (a:Act) (w:World),Hem r P ops Q S m f listed a w->wpAnyIn (FW r) 0 P .any ops Q f listed a w
 |0,_,_,_,h=>h
 |f+1,_,_,_,h=>⟨h.1,λi L=>wpOpIn_mono (λa' w' h'=>Hem.any f _ a' w' h'.2) (h.2 i L)⟩
def bonf (ops:Array Oper)(i:Nat):Nat->Nat->Bool
 |0,_=>false
 |f+1,m=>match ops[m]? with
  |none=>false
  |some o=>(o.after.any λe=>Region.binds .any e&&Nat.beq e.on i)||o.after.any λe=>Region.binds .any e&&bonf ops i f e.on
def bon (ops:Array Oper)(m i:Nat):Bool:=match ops[m]? with
 |none=>true
 |some _=> !(Nat.beq i m)&&bonf ops i 12 m
def Clo (ops:Array Oper)(li:Array Bool):Prop:=∀k o,ops[k]?=some o->li.getD k false=true->∀e∈o.after,Region.binds .any e=true->li.getD e.on false=true
def cloB (ops:Array Oper)(li:Array Bool):Bool:=(List.range ops.size).all λk=>match ops[k]? with
 |none=>true
 |some o=> !(li.getD k false)||o.after.all λe=> !(Region.binds .any e)||li.getD e.on false
def clo_of {ops:Array Oper}{li:Array Bool}(h:cloB ops li=true):Clo ops li:=λk o hk L e N O=>by
 have:=Wx.1 h k (List.mem_range.2 (Qw.1 hk).1);rw[hk]at this;simp only[L,Bool.not_true,Bool.false_or]at this;have U:=(Array.all_eq_true_iff_forall_mem.1 this) e N;simpa[O] using U
def Qcv {li:Array Bool}{j k:Nat}(h:li.getD k false=true):(li.setIfInBounds j true).getD k false=true:=by
 by_cases e:j=k;subst e;by_cases L:j<li.size;simp[L];simp[Wy (Nat.le_of_not_lt L)]at h;rw[getD_set_ne false e];exact h
def Clo.step {ops:Array Oper}{li:Array Bool}{j:Nat}(h:Clo ops li)(W:j∈Region.ready .any ops li):Clo ops (li.setIfInBounds j true):=λk o hk O e U V=>by
 by_cases N:j=k;subst N;obtain⟨_,oj,L,hall⟩:=mem_ready.1 W;rw[hk]at L;injection L with L;subst L
 exact Qcv (hall e U V);rw[getD_set_ne false N]at O;exact Qcv (h k o hk O e U V)
def Qcq {ops:Array Oper}{li:Array Bool}{i:Nat}(V:Clo ops li): ∀(f m:Nat) {o:Oper},ops[m]?=some o->(∀e∈o.after,Region.binds .any e=true->li.getD e.on false=true)->bonf ops i f m=true->li.getD i false=true
 |0,_,_,_,_,h=>by cases h
 |f+1,m,o,hm,W,h=>by
  unfold bonf at h;rw[hm]at h;simp only[Bool.or_eq_true,Array.any_eq_true']at h;rcases h with⟨e,O,L⟩|⟨e,O,L⟩
  rw[Qm]at L;rw[<-Q2 L.2];exact W e O L.1;rw[Qm]at L;have N:=L.2;cases f with
  |zero=>cases N
  |succ f=>
   cases U:ops[e.on]? with
   |none=>unfold bonf at N;rw[U]at N;cases N
   |some o'=>exact Qcq V (f+1) e.on U (V e.on o' U (W e O L.1)) N
def gn_ne {li:Array Bool}{i:Nat}(h:i≠m):gn ops (li.setIfInBounds i true) m=gn ops li m:=by unfold gn;rw[getD_set_ne false h]
def Qdn {li:Array Bool}{j:Nat}(h:gn ops (li.setIfInBounds j true) m=false):gn ops li m=false:=by
 cases L:gn ops li m with
 |false=>rfl
 |true=>
  unfold gn at h L;rw[Qm]at L;rw[L.1,Qcv L.2]at h;cases h
def bon_ne {i:Nat}{oi:Oper}(L:ops[i]?=some oi)(h:bon ops m i=true):i≠m:=λe=>by
 subst e;unfold bon at h;rw[L]at h;simp only[Qm,Nat.beq_refl,Bool.not_true,Wz,false_and]at h
def bon_gn {li:Array Bool}{i:Nat}(W:Clo ops li)(O:bon ops m i=true)(hr:i∈Region.ready .any ops li):gn ops li m=false:=by
 cases L:gn ops li m with
 |false=>rfl
 |true=>
  unfold gn at L;rw[Qm]at L;unfold bon at O;cases U:ops[m]? with
  |none=>rw[U]at L;cases L.1
  |some om=>
   rw[U]at O;simp only[Qm]at O;have V:=Qcq W 12 m U (W m om U L.2) O.2;have h0:=(mem_ready.1 hr).1;by_cases N:i<li.size;simp[N]at h0 V;rw[h0]at V;cases V;simp[Wy (Nat.le_of_not_lt N)]at V
def Hem.first {T:World->Prop}{i:Nat}{oi:Oper}{v:Value}(hn:Qbm ops=true)(W:ops[i]?=some oi)(hs:Region.noSelect ops=true)(hne:i≠m)(N:(bon ops m i=true/\∀w,S w->T w)\/∀w,T w)(hQ: ∀c a w,Q (.panic c) (a.put oi.dst v) w->Q (.panic c) a w): ∀(f:Nat) (listed:Array Bool) (a:Act) (w:World),Clo ops listed->
  (∀j oj,ops[j]?=some oj->j≠i->listed.getD j true=false->(∀e∈oj.after,Region.binds .any e=true->e.on≠i)->oi.apart ops oj=true)->i∈Region.ready .any ops listed->YieldsIf P ops T oi v a->(gn ops listed m=false->S w)->
  Hem r P ops Q S m f (listed.setIfInBounds i true) (a.put oi.dst v) w->Hem r P ops Q S m (f+1) listed a w
 |0,listed,a,w,O,_,U,hy,hS,H=>⟨λh=>(by rw[h]at U;cases U),λj hj=>by
   have hT:T w:=by
    rcases N with N|N
    exact N.2 w (hS (bon_gn O N.1 U));exact N w
   by_cases L:j=i;subst L;exact Hel.op (Qbe hn W) W hy hT ⟨λh=>hS (Qdn h),H⟩;have:=ready_mono hj L;rw[H.1]at this;cases this⟩
 |f+1,listed,a,w,O,hfree,U,hy,hS,H=>⟨λh=>(by rw[h]at U;cases U),λj hj=>by
   have hT:T w:=by
    rcases N with N|N
    exact N.2 w (hS (bon_gn O N.1 U));exact N w
   by_cases L:j=i;subst L;exact Hel.op (Qbe hn W) W hy hT ⟨λh=>hS (Qdn h),H⟩;have h1:=H.2 j (ready_mono hj L);obtain⟨hun,oj,V,hall⟩:=mem_ready.1 hj;have hno: ∀e∈oj.after,Region.binds .any e=true->e.on≠i:=λe he N heq=>by
    have hl:=hall e he N;have h0:=(mem_ready.1 U).1;rw[heq]at hl;by_cases hsz:i<listed.size;simp[hsz]at h0 hl;rw[h0]at hl;cases hl;simp[Wy (Nat.le_of_not_lt hsz)]at hl
   have h2:=Hel.put (Qbe hn V) V (hfree j oj V L hun hno) (λcs b=>Region.noSelect_spec hs i oi cs b W) (λcs b=>Region.noSelect_spec hs j oj cs b V) hQ hy h1;refine wpOpIn_mono (λa' w' h3=>?_) h2;have hS':gn ops (listed.setIfInBounds j true) m=false->S w':=λh=>h3.2.1 (by rw[Array.setIfInBounds_comm _ _ (Ne.symm L),gn_ne hne];exact h);refine⟨hS',Hem.first hn W hs hne N hQ f _ a' w' (O.step hj) (λk ok hk hki hkun hkno=>hfree k ok hk hki ?_ hkno) (ready_mono U (Ne.symm L)) h3.1 hS' ?_⟩;by_cases hjk:j=k;subst hjk;exact hun;rwa[getD_set_ne true hjk]at hkun;rw[Array.setIfInBounds_comm _ _ L];exact h3.2.2⟩
def Hem.str (L: ∀w,S' w->S w): ∀(f:Nat) (li:Array Bool) (a:Act) (w:World),Hem r P ops Q S' m f li a w->Hem r P ops Q S m f li a w
 |0,_,_,_,h=>h
 |f+1,li,a,w,h=>⟨h.1,λi N=>wpOpIn_mono (λa' w' h'=>⟨λO=>L w' (h'.1 O),Hem.str L f _ a' w' h'.2⟩) (h.2 i N)⟩
def HZ (r:Option Nat)(P:Program)(ops:Array Oper)(Q:Exit->Act->World->Prop)(S:World->Prop)(m fuel:Nat)(listed:Array Bool)(i:Nat):Exit->Act->World->Prop
 | .normal,a,w=>(gn ops (listed.setIfInBounds i true) m=false->S w)/\Hem r P ops Q S m fuel (listed.setIfInBounds i true) a w
 |e,a,w=>Q e a w
def Hem.list {a:Act}{w:World}{fuel:Nat}{listed:Array Bool}{i:Nat}{o:Oper}(U:ops[i]?=some o)(h:WL r P ops (HZ r P ops Q S m fuel listed i) [o] a w):wpOpIn (FW r) 0 P ops Q i (λa' w'=>(gn ops (listed.setIfInBounds i true) m=false->S w')/\Hem r P ops Q S m fuel (listed.setIfInBounds i true) a' w') a w:=by
 unfold wpOpIn;rw[U];simp only[];unfold WL wpListIn at h;by_cases O:Region.wanted o (yielded ops a.tmps)=true;rw[Qe O]at h ⊢;refine⟨h.1,?_⟩;have h:=h.2;generalize (o.semAt (FW r).round a.eval).run P w=res at h ⊢;cases res with
 |ok x w'=>
  cases x with
  |enter f args=>exact⟨h.1,CallsIn.mono h.2 λe w'' L=>by cases e<;>first|exact L|exact L.elim λ_ N=>N.elim λ_ N=>⟨_,_,N⟩⟩
  |row row args=>exact⟨h.1,RowsIn.mono h.2 λ_ _ L=>L⟩
  |round l f tmps assign body=>exact⟨h.1,RoundIn.mono h.2 λe w'' L=>by cases e<;>first|exact L|exact L.elim λ_ N=>N.elim λ_ N=>⟨_,_,N⟩⟩
  |_=>exact h
 |halt x w'=>cases x<;>exact h
 rw[Qc O]at h ⊢;exact h
section
variable {K:Kn}{w:World}{n:Nat}{ds:List Deferred}
def dqm_walk {li':Array Bool}{f:Nat}(V:(Region.noSelect ops&&Qbm ops)=true)(hQ: ∀c a d v w,Q (.panic c) (Act.put a d v) w->Q (.panic c) a w){bb:Nat->Bool}(N: ∀i,bb i=true->∀o,ops[i]?=some o->i≠m/\((bon ops m i=true/\∀w,S w->K.ok w)\/∀w,K.ok w)):
  ∀{is:List (Nat×Hint)} {li:Array Bool} {s s':QS} {a:Act},(gn ops li m=false->S w)->Clo ops li->is.all (λp=>bb p.1)=true->dqs P K n ops is li s=some (li',s')->(∀p,p∈s'.c->p)->(∀p,p∈s'.q->p.1=p.2)->s.ok a n ds->(∀a',s'.ok a' n ds->Hem r P ops Q S m f li' a' w)->Hem r P ops Q S m (f+is.length) li a w
 | [],_,s,s',a,_,_,_,hq,_,_,hs,h=>by simp only[dqs,Qr,Prod.mk.injEq]at hq;obtain⟨W,h2⟩:=hq;subst W;subst h2;exact h a hs
 |(i,g)::is,li,s,s',a,hS,O,hb,hq,hc,he,hs0,h=>by
  have hn':=V;rw[Qm]at V;rw[List.all_cons,Qm]at hb;unfold dqs at hq;split at hq;rename_i o hi;split at hq;rename_i L;rw[Qm]at L;split at hq;rename_i s1 W;have U:=dqs_le hq;obtain⟨d,v,hd,k1,k2,k3⟩:=o_b0 hs0 W (λp hp=>hc p (U.c p hp)) (λp hp=>he p (U.q p hp));have hrest:Hem r P ops Q S m (f+is.length) (li.setIfInBounds i true) (a.put (some d) v) w:=dqm_walk hn' hQ N (λhg=>hS (Qdn hg)) (O.step (by simpa using L.2)) hb.2 hq hc he k1 h;obtain⟨hne,hb1⟩:=N i hb.1 o hi;refine Hem.first (T:=K.ok) V.2 hi V.1 hne hb1 (λc a w=>hQ c a _ v w) _ li a w O (Region.free_spec hi L.1) (by simpa using L.2) ?_ hS (by rw[hd];exact hrest);rcases k3 with⟨hw,hv⟩|⟨hw,rfl⟩
  exact .inl ⟨hw,hv⟩;exact .inr ⟨hw,rfl⟩;cases hq;cases hq;cases hq
end
variable {C:Cx}{l:List (Nat×Value)}{H Hq:List (Nat×Res)}{f:Nat}{li:List Bool}
abbrev AH (r:Option Nat) (P:Program) (ops:Array Oper) (Q:Exit->Act->World->Prop) (Hq:List (Nat×Res)) (m f:Nat) (li:List Bool) (C:Cx) (l:List (Nat×Value)) (H:List (Nat×Res)):Prop:=
 ∀a w,Fr a C.n C.ds l->Hp C H w->Hem r P ops Q (Hp C Hq) m f li.toArray a w
def Hp.drew {w w':World}(h:Hp C H w)(N:Ch [] w w'):Hp C H w':=by
 refine⟨?_,λk r O=>?_,λk b V=>?_,h.dis,h.ref⟩;have L:=h.ch;exact⟨N.os.trans L.os,N.tape.trans L.tape,N.output.trans L.output,Q7 L.size N.size,λb hb' W=>by rw[N.block b (Q3 hb' L.size) (by simp)];exact L.block b hb' W⟩;exact Res.to (h.hold k r O) N (λb hF _=>⟨by simp,hF⟩) (λb U _=>⟨by simp,U⟩) (λi b _ U=>⟨by simp,U⟩) (by simp);exact⟨(h.bnd k b V).1,Q3 (h.bnd k b V).2 N.size⟩
def AX.dr {Y:Exit->Act->World->Prop}{K:List Kx}{id:Nat}{lo:List Oper}(N:P.follows .mixedOrders=true)(m f:Nat)(li:List Bool)(h:AH r P lo.toArray (kont r P Y K) [] m f li C l H)(L:lo.toArray.size=f:=by rfl)(O:(Array.replicate lo.toArray.size false).toList=li:=by kernel_rfl):
  AX r P Y K (.region id lo.toArray true) C l H:=λa w U V=>by
 subst L;subst O;have:=h a _ U (Hp.drew V (Ch.drew w));rw[Q0]at this;exact wpIn_region_any N (Hem.any _ _ _ _ this)
def AH.str (gs:List Nat){Hq':List (Nat×Res)}(h:AH r P ops Q Hq' m f li C l H)(e:kpH Hq' gs gs=Hq:=by kernel_rfl):AH r P ops Q Hq m f li C l H:=λa w L N=>
 Hem.str (λw h=>h.cov gs e) _ _ a w (h a w L N)
def AH.q (hQ:Pq Q)(gs qs bs es:List Nat)(li':List Bool)(f:Nat)(is:List (Nat×Hint))(ks:List Nat)(cs:List Prop)(nl:List (Nat×Value)){g:Nat}(hc:conj cs)(h:AH r P ops Q (kpH H qs qs) m f li' C (cat nl l) H)
  (hg:g=f+is.length:=by rfl) (hb:is.all (λp=>bon ops m p.1)=true:=by kernel_rfl) (U:cloB ops li.toArray=true:=by kernel_rfl) (hn:(Region.noSelect ops&&Qbm ops)=true:=by kernel_rfl)
  (hq:((dqs P ⟨knb (kpH H qs qs) bs,kne (kpH H qs qs) es⟩ C.n ops is li.toArray (q0 l)).bind λx=>(qfin l ks x.2).map λy=>(x.1.toList,y))=some (li',cs,nl):=by kernel_rfl)
  (O:(dqs P ⟨knb (kpH H qs qs) bs,kne (kpH H qs qs) es⟩ C.n ops is li.toArray (q0 l)).map (λs=>s.2.q.map Prod.fst)=(dqs P ⟨knb (kpH H qs qs) bs,kne (kpH H qs qs) es⟩ C.n ops is li.toArray (q0 l)).map (λs=>s.2.q.map Prod.snd):=by kernel_rfl)
  (e:kpH (kpH H qs qs) gs gs=Hq:=by kernel_rfl):AH r P ops Q Hq m g li C l H:=AH.str gs (e:=e) λa w hf hh=>by
 subst hg;cases N:dqs P ⟨knb (kpH H qs qs) bs,kne (kpH H qs qs) es⟩ C.n ops is li.toArray (q0 l)with
 |none=>rw[N]at hq;cases hq
 |some x=>
  obtain⟨li1,s'⟩:=x;rw[N]at hq O;have hq:((qfin l ks s').map λy=>(li1.toList,y))=some (li',cs,nl):=hq;have O:s'.q.map Prod.fst=s'.q.map Prod.snd:=by injection O
  cases L:qfin l ks s' with
  |none=>rw[L]at hq;cases hq
  |some y=>
   obtain⟨cs1,nl1⟩:=y;rw[L]at hq;simp only[W1,Qr,Prod.mk.injEq]at hq;obtain⟨h1,h2,h3⟩:=hq;subst h1;subst h2;subst h3;have V:s'.c=cs1:=by unfold qfin at L;split at L;(injection L with L;injection L);cases L
   exact dqm_walk hn hQ (bb:=λi=>bon ops m i) (λi hi o ho=>⟨bon_ne ho hi,.inl ⟨hi,λw' h'=>o_b2 h' bs es⟩⟩) (λ_=>hh.keep qs) (clo_of U) hb N (by rw[V];exact Qdx hc) (Qcs O) (o_b1 hf) λa' W=>by
    have:=h a' w (qfin_fr W (dqs_inv (q0_inv l) N) L).1 hh;rwa[Q0]at this
def AH.v (hQ:Pq Q)(gs qs:List Nat)(i:Nat)(li':List Bool){d:Nat}{op:Op}{T:TypeId}{pos:String}{af:Array Edge}{v:Value}(N:ops[i]?=some ⟨some d,op,T,pos,af,none⟩)(hr: ∀a w,Fr a C.n C.ds l->Hp C (kpH H qs qs) w->(execOp a.eval ⟨some d,op,T,pos,af,none⟩).run P w=.ok (.value v) w)
  (h:AH r P ops Q (kpH H qs qs) m f li' C ((d,v)::l) H) (V:bon ops m i=true:=by kernel_rfl) (O:cloB ops li.toArray=true:=by kernel_rfl) (hl:(li.toArray.setIfInBounds i true).toList=li':=by kernel_rfl) (hd:Nat.ble (d+1) C.n=true:=by rfl) (U:(Region.noSelect ops&&Qbm ops)=true:=by kernel_rfl)
  (L:(Region.free .any ops li.toArray i&&(Region.ready .any ops li.toArray).contains i)=true:=by kernel_rfl) (e:kpH (kpH H qs qs) gs gs=Hq:=by kernel_rfl):AH r P ops Q Hq m (f+1) li C l H:=AH.str gs (e:=e) λa w W hh=>by
 rw[Qm]at U L;refine Hem.first (T:=Hp C (kpH H qs qs)) U.2 N U.1 (bon_ne N V) (.inl ⟨V,λ_ h=>h⟩) (λc a w=>hQ c a _ _ w) f li.toArray a w (clo_of O) (Region.free_spec N L.1) (by simpa using L.2) (.inl ⟨Qbp,λw' h'=>hr a w' W h'⟩) (λ_=>hh.keep qs) ?_;have:=h _ w (W.put (Qn hd) v) hh;rw[<-hl,Q0]at this;exact this
def AH.vg (hQ:Pq Q)(gs qs:List Nat)(i:Nat)(li':List Bool){d j dj:Nat}{b:Bool}{op:Op}{T:TypeId}{pos:String}{af:Array Edge}{v:Value}(N:ops[i]?=some ⟨some d,op,T,pos,af,some (j,b)⟩)(hr: ∀a w,Fr a C.n C.ds l->Hp C (kpH H qs qs) w->(execOp a.eval ⟨some d,op,T,pos,af,none⟩).run P w=.ok (.value v) w)
  (h:AH r P ops Q (kpH H qs qs) m f li' C ((d,v)::l) H) (hj:(ops[j]?).bind (·.dst)=some dj:=by rfl) (O:lk l dj=some (.bool b):=by rfl) (hb:bon ops m i=true:=by kernel_rfl) (U:cloB ops li.toArray=true:=by kernel_rfl) (hl:(li.toArray.setIfInBounds i true).toList=li':=by kernel_rfl) (hd:Nat.ble (d+1) C.n=true:=by rfl) (V:(Region.noSelect ops&&Qbm ops)=true:=by kernel_rfl)
  (L:(Region.free .any ops li.toArray i&&(Region.ready .any ops li.toArray).contains i)=true:=by kernel_rfl) (e:kpH (kpH H qs qs) gs gs=Hq:=by kernel_rfl):AH r P ops Q Hq m (f+1) li C l H:=AH.str gs (e:=e) λa w W hh=>by
 rw[Qm]at V L;refine Hem.first (T:=Hp C (kpH H qs qs)) V.2 N V.1 (bon_ne N hb) (.inl ⟨hb,λ_ h=>h⟩) (λc a w=>hQ c a _ _ w) f li.toArray a w (clo_of U) (Region.free_spec N L.1) (by simpa using L.2) (.inl ⟨Qbw W hj O,λw' h'=>hr a w' W h'⟩) (λ_=>hh.keep qs) ?_;have:=h _ w (W.put (Qn hd) v) hh;rw[<-hl,Q0]at this;exact this
def AH.one (i:Nat){o:Oper}(h:AL r P ops (HZ r P ops Q (Hp C Hq) m f li.toArray i) [o] C l H)(U:ops[i]?=some o:=by rfl)(L:Region.ready .any ops li.toArray=[i]:=by kernel_rfl):AH r P ops Q Hq m (f+1) li C l H:=λa w V W=>
 ⟨λN=>(by rw[L]at N;cases N),λj O=>by rw[L,Qz]at O;subst O;exact Hem.list U (h a w V W)⟩
def AH.two (i j:Nat){oi oj:Oper}(V:AL r P ops (HZ r P ops Q (Hp C Hq) m f li.toArray i) [oi] C l H)(W:AL r P ops (HZ r P ops Q (Hp C Hq) m f li.toArray j) [oj] C l H)(hi:ops[i]?=some oi:=by rfl)(hj:ops[j]?=some oj:=by rfl)(L:Region.ready .any ops li.toArray=[i,j]:=by kernel_rfl):
  AH r P ops Q Hq m (f+1) li C l H:=λa w N O=>
 ⟨λU=>(by rw[L]at U;cases U),λk hk=>by
  rw[L]at hk;simp only[Qq,W5,or_false]at hk;rcases hk with rfl|rfl
  exact Hem.list hi (V a w N O);exact Hem.list hj (W a w N O)⟩
def AH.nx {i:Nat}(li':List Bool)(gs:List Nat)(h:AH r P ops Q Hq m f li' C l H)(e:kpH H gs gs=Hq:=by kernel_rfl)(N:(li.toArray.setIfInBounds i true).toList=li':=by kernel_rfl):AL r P ops (HZ r P ops Q (Hp C Hq) m f li.toArray i) [] C l H:=λa w O L=>by
 refine Z.done ?_;show(_->Hp C Hq w)/\_;have:=h a w O L;rw[<-N,Q0]at this;exact⟨λ_=>L.cov gs e,this⟩
def AH.nm {i:Nat}(li':List Bool)(h:AH r P ops Q Hq m f li' C l H)(L:(li.toArray.setIfInBounds i true).toList=li':=by kernel_rfl)(N:gn ops li'.toArray m=true:=by kernel_rfl):AL r P ops (HZ r P ops Q (Hp C Hq) m f li.toArray i) [] C l H:=λa w O U=>by
 refine Z.done ?_;show(_->Hp C Hq w)/\_;have:=h a w O U;rw[<-L,Q0]at this;rw[<-L,Q0]at N;exact⟨λh=>(by rw[N]at h;cases h),this⟩
def AH.done {Y:Exit->Act->World->Prop}{K:List Kx}(h:AE r P Y K .normal C l H)(L:Region.ready .any ops li.toArray=[]:=by kernel_rfl):AH r P ops (kont r P Y K) Hq m f li C l H:=λa w N O=>by
 cases f with
 |zero=>exact⟨L,h a w N O⟩
 |succ f=>exact⟨λ_=>h a w N O,by rw[L];simp⟩
def cov {X:Act->World->Prop}{l':List (Nat×Value)}{H':List (Nat×Res)}(gs:List Nat)(h: ∀a w,Fr a C.n C.ds l'->Hp C H' w->X a w)(L:kp l (l'.map (·.1))=l':=by kernel_rfl)(N:kpH H gs gs=H':=by kernel_rfl): ∀a w,Fr a C.n C.ds l->Hp C H w->X a w:=λa w O U=>h a w (Fr.cov O L) (U.cov gs N)
end
def peek {C:Cx}{H:List (Nat×Res)}{w:World}(hh:Hp C H w)(k kn:Nat){t:Ty}{A:Option Addr}{c:Nat}{xs:List t.den}{i:Int}{v:t.den}(hi:ix xs i=some v)(hrow: ∀w,Hp C H w->∃G:Nat->Prop,Row t w (Fh C H) G A c xs/\∀b,G b->∀k,¬Bk H k b)(U:nok H kn (1+lv t)=true):
  ∃ps:Lf,ps.length=lv t/\t.ok v/\∃b o,A=some ⟨b,o,none⟩/\Hp C (hcat (kx (kn+1) (rs t v ps)) ((kn,.el none b (o+i.toNat*t.size) (cl t v ps))::H)) w:=by
 obtain⟨k,rfl,hv⟩:=Qby hi;obtain⟨G,hR,hG⟩:=hrow w hh;obtain⟨b,o,es,hA,hb,V,hc,hr⟩:=hR.at hv;obtain⟨ps,hl,rfl,W⟩:=rep_cl (B:=Bk H) t (Qal t hr);have O:hk H kn=none:=Qbx U (Q4 _) (by omega);have h1:Hp C ((kn,.el none b (o+k*t.size) (cl t v ps))::H) w:=hh.add O rfl (λj L=>by cases L) ⟨hc,V,hG b hb⟩;have hnn: ∀n k',nok H k' n=true->(∀j,k'<=j->j<k'+n->j≠kn)->nok ((kn,.el none b (o+k*t.size) (cl t v ps))::H) k' n=true:=by
  intro n;induction n with
  |zero=>intro _ _ _;rfl
  |succ n ih=>
   intro k' h2 h3;simp only[nok,Qm]at h2 ⊢;refine⟨?_,ih (k'+1) h2.2 λj h4 h5=>h3 j (by omega) (by omega)⟩;rw[Qaa,Qc (Ne.symm (h3 k' (Q4 _) (by omega)))];exact h2.1
 have hn2:nok H (kn+1) (rs t v ps).length=true:=by
  rw[Qdf t v ps hl];rw[Xr 1]at U;simp only[nok,Qm]at U;exact U.2
 refine⟨ps,hl,rep_ok t hr,b,o,hA,?_⟩;rw[Xj];refine h1.adds (hnn _ _ hn2 λj h4 _=>by omega) λr2 h4=>?_;obtain⟨h5,h6,h7⟩:=W r2 h4;have N: ∀j b',Bk ((kn,.el none b (o+k*t.size) (cl t v ps))::H) j b'↔Bk H j b':=λj b'=>by
  by_cases L:j=kn;subst L;rw[Bk.cons_eq];exact⟨λh=>by simp[Res.bl]at h,λ⟨_,h8,_⟩=>by rw[O]at h8;cases h8⟩;exact Bk.cons_ne L
 exact⟨h6,h7,Res.to h5 (S:=[]) (Ch.refl w) (λb' hF _=>⟨by simp,⟨λj L=>hF.1.1 j ((N j b').1 L),hF.1.2⟩,hF.2⟩) (λb' hB _=>⟨by simp,λj L=>hB j ((N j b').1 L)⟩) (λi b' _ hB=>⟨by simp,(N i b').2 hB⟩) (by simp)⟩
def Hp.blk {C:Cx}{H:List (Nat×Res)}{w:World}{g:Nat}{e:TypeId}{cs:List Value}(L:Hp C H w)(k:Nat)(h:hk H k=some (.blk g e cs):=by rfl):Blk w g e cs:=L.hold k _ h
def FU:Nat:=340282366920938463463374607431768211456
def gd {α:Type}(p:Prop)[Decidable p](x:Option α):Option α:=if p then x else none
def gd_some {α:Type}{p:Prop}[Decidable p]{x:Option α}{y:α}(h:gd p x=some y):p/\x=some y:=by
 unfold gd at h;split at h;exact⟨‹p›,h⟩;cases h
def bd_some {α β:Type}{x:Option α}{f:α->Option β}{y:β}(h:x.bind f=some y): ∃v,x=some v/\f v=some y:=Xf.1 h
def no0 {α:Type}{y:α}{p:Prop}(h:(none:Option α)=some y):p:=by cases h
def ix_nat {α:Type}(xs:List α)(k:Nat):ix xs (k:Int)=xs[k]?:=by unfold ix;rw[Qc (by omega),Xj]
def o_bT {α:Type}{xs:List α}{i:Int}{x:α}(h:ix xs i=some x):0<=i/\i<xs.length:=by
 obtain⟨k,rfl,L⟩:=Qby h;have:=(Qd.1 L).1;omega
instance (k:IntKind) (n:Int):Decidable (k.has n):=by unfold IntKind.has;infer_instance
def hasl (k:IntKind)(n:Int)(h:decide (k.has n)=true):k.has n:=Wu h
def has_len {α:Type}{xs:List α}(h:xs.length<=maxLen):IntKind.i64.has (xs.length:Int):=Z.i64_has (by simp only[maxLen]at h;omega)
def has_nat {n:Nat}(h:n<=maxLen):IntKind.i64.has (n:Int):=Z.i64_has (by simp only[maxLen]at h;omega)
def has_min {k:IntKind}{a b:Int}(L:k.has a)(N:k.has b):k.has (min a b):=by
 rcases Int.le_total a b with h|h
 rw[Int.min_eq_left h];exact L;rw[Int.min_eq_right h];exact N
section
variable {X:Act->World->Prop}{C:Cx}{l:List (Nat×Value)}{H:List (Nat×Res)}
def nil (k:Nat)(t:Ty)(e:TypeId)(h: ∀a w,Fr a C.n C.ds l->Hp C ((k,.own t e none 0 [])::H) w->X a w)(L:hk H k=none:=by kernel_rfl): ∀a w,Fr a C.n C.ds l->Hp C H w->X a w:=λa w N O=>
 h a w N (O.add L rfl (λj U=>by cases U) (Own.nil t e 0 w _))
def snil (k:Nat)(t:Ty)(h: ∀a w,Fr a C.n C.ds l->Hp C ((k,.sh (.slice t) [.slice none 0 0] [])::H) w->X a w)(L:hk H k=none:=by kernel_rfl): ∀a w,Fr a C.n C.ds l->Hp C H w->X a w:=λa w N O=>
 h a w N (O.add L rfl (λj U=>by cases U) (rep_nil t))
def frz (k:Nat)(js:List Nat){t:Ty}{e:TypeId}{A:Option Addr}{c:Nat}{xs:List t.den}(h: ∀a w,Fr a C.n C.ds l->Hp C ((k,.sh (.slice t) [.slice A xs.length c] xs)::ded js H) w->X a w)(L:hk H k=some (.own t e A c xs):=by rfl)(N:hng [k] js H=true:=by kernel_rfl): ∀a w,Fr a C.n C.ds l->Hp C H w->X a w:=λa w O U=>h a w O (Hp.dd (U.frz L) N)
def dup (k V:Nat){r:Res}(h: ∀a w,Fr a C.n C.ds l->Hp C ((V,r)::H) w->X a w)(O:hk H k=some r:=by rfl)(L:r.bl=[]:=by rfl)(hr:r.ref=none:=by rfl)(hn:hk H V=none:=by kernel_rfl): ∀a w,Fr a C.n C.ds l->Hp C H w->X a w:=λa w hf W=>
 h a w hf (W.add hn L (λj hj=>by rw[hr]at hj;cases hj) (by
  have N:=W.hold k r O;cases r with
  |sh t cs x=>exact Qal t N
  |ln t A c xs=>
   obtain⟨r1,r2,cs,r3,r4,r5⟩:=N;exact⟨r1,r2,cs,r3,r4,λi x U=>Qal t (r5 i x U)⟩
  |el k b o cs=>exact N
  |dead=>trivial
  |own t e A c xs=>
   obtain⟨cells,o1,o2,o3⟩:=N;exact⟨cells,o1,o2,λi x U=>Qal t (o3 i x U)⟩
  |blk g e cs=>cases L
  |mp κ enc t agg b m=>cases L
  |mit k g b n seen la=>cases L
  |ob g p=>cases L
  |lmp κ enc t agg b m=>
   obtain⟨⟨es,c1,c2,c3⟩,h2⟩:=N;exact⟨⟨es,c1,c2,λi p hp=>by obtain⟨cs,c4,c5⟩:=c3 i p hp;exact⟨cs,c4,Qal t c5⟩⟩,h2⟩
  |mr κ enc t e b As m=>cases L
  |gn bs p hp=>exact hp N (S:=[]) (Ch.refl w) (by simp) λb L hl=>⟨by simp,L,hl⟩
  |si g s p=>cases L))
def oks (k:Nat){t:Ty}{A:Option Addr}{c:Nat}{xs:List t.den}(h:(Ty.slice t).ok xs->∀a w,Fr a C.n C.ds l->Hp C H w->X a w)(L:hk H k=some (.sh (.slice t) [.slice A xs.length c] xs):=by rfl): ∀a w,Fr a C.n C.ds l->Hp C H w->X a w:=λa w O N=>
 h (rep_ok _ (N.hold k _ L)) a w O N
def okl (k:Nat){t:Ty}{A:Option Addr}{c:Nat}{xs:List t.den}(h:(Ty.slice t).ok xs->∀a w,Fr a C.n C.ds l->Hp C H w->X a w)(L:hk H k=some (.ln t A c xs):=by rfl): ∀a w,Fr a C.n C.ds l->Hp C H w->X a w:=λa w U O=>by
 obtain⟨G,N,_⟩:=rowL L w O;exact h ⟨Q7 N.1 N.2.1,N.ok⟩ a w U O
def oko (k:Nat){t:Ty}{e:TypeId}{A:Option Addr}{c:Nat}{xs:List t.den}(h:(Ty.slice t).ok xs->∀a w,Fr a C.n C.ds l->Hp C H w->X a w)(L:hk H k=some (.own t e A c xs):=by rfl): ∀a w,Fr a C.n C.ds l->Hp C H w->X a w:=λa w U O=>by
 obtain⟨G,N,_⟩:=rowO L w O;exact h ⟨Q7 N.1 N.2.1,N.ok⟩ a w U O
def Hp.mv {w:World}(O:Hp C H w){k k2:Nat}{r:Res}(h1:hk H k=some r)(hne:k2≠k)(h2: ∀u,hk H k2=some u->u=.dead)(hr:r.ref=none):Hp C ((k2,r)::(k,.dead)::drp k H) w:=by
 have hd:Hp C ((k,.dead)::drp k H) w:=O.upd (S:=[]) (Ch.refl w) (by simp) (by simp[Res.bl]) (λj L=>by cases L) λ_ _ _ _ _ _ _=>trivial;have W: ∀j b,Bk ((k2,r)::(k,.dead)::drp k H) j b->(j=k2/\b∈r.bl)\/(j≠k2/\j≠k/\Bk H j b):=λj b ⟨r2,N,h4⟩=>by
  rw[Qaa]at N;split at N;rename_i e;injection N with N;subst N;exact .inl ⟨e.symm,h4⟩
  rename_i hn;rw[Qaa]at N;split at N;injection N with N;subst N;cases h4
  rename_i hn2;rcases Qbs k H j r2 N with rfl|⟨U,_⟩
  cases h4;exact .inr ⟨Ne.symm hn,Ne.symm hn2,r2,U,h4⟩
 have hnb: ∀b,(∀j,¬Bk H j b)->∀j,¬Bk ((k2,r)::(k,.dead)::drp k H) j b:=λb hB j L=>by
  rcases W j b L with⟨_,N⟩|⟨_,_,N⟩
  exact hB k ⟨r,h1,N⟩;exact hB j N
 refine⟨O.ch,λj r2 L=>?_,λj b L=>?_,λj j' b L hj'=>?_,λj r2 i L hri=>?_⟩;rw[Qaa]at L;split at L;injection L with L;subst L
 exact Res.to (O.hold k r h1) (S:=[]) (Ch.refl w) (λb hF _=>⟨by simp,hnb b hF.1,hF.2⟩) (λb hB _=>⟨by simp,hnb b hB⟩) (λi b hi _=>by rw[hr]at hi;cases hi) (by simp);rename_i hn;rw[Qaa]at L;split at L;injection L with L;subst L;trivial
 rename_i hn2;rcases Qbs k H j r2 L with rfl|⟨U,h6⟩
 trivial;refine Res.to (O.hold j r2 U) (S:=[]) (Ch.refl w) (λb hF _=>⟨by simp,hnb b hF.1,hF.2⟩) (λb hB _=>⟨by simp,hnb b hB⟩) (λi b hi hB=>⟨by simp,?_⟩) (by simp);obtain⟨r3,V,h8⟩:=hB;have hik:i≠k:=λe=>h6 (by rw[hi,e]);have hik2:i≠k2:=λe=>by subst e;rw[h2 _ V]at h8;cases h8
 refine⟨r3,?_,h8⟩;rw[Qaa,Qc (Ne.symm hik2),Qaa,Qc (Ne.symm hik)];exact Qcn V (by rw[(O.ref j r2 i U hi).2 r3 V];simp);rcases W j b L with⟨_,N⟩|⟨_,_,N⟩
 exact O.bnd k b ⟨r,h1,N⟩;exact O.bnd j b N;rcases W j b L with⟨N,h4⟩|⟨_,N,h4⟩<;>rcases W j' b hj' with⟨U,h6⟩|⟨_,U,h6⟩
 rw[N,U];exact absurd (O.dis k j' b ⟨r,h1,h4⟩ h6) (Ne.symm U);exact absurd (O.dis k j b ⟨r,h1,h6⟩ h4) (Ne.symm N);exact O.dis j j' b h4 h6;rw[Qaa]at L;split at L;injection L with L;subst L;rw[hr]at hri;cases hri
 rename_i hn;obtain⟨U,h6⟩:=hd.ref j r2 i L hri;refine⟨U,λr3 V=>?_⟩;rw[Qaa]at V;split at V;injection V with V;subst V;exact hr
 exact h6 r3 V
def mv (k O:Nat)(js:List Nat){r:Res}(h: ∀a w,Fr a C.n C.ds l->Hp C ((O,r)::(k,.dead)::ded js H) w->X a w)(L:hk H k=some r:=by rfl)(V:r.ref=none:=by rfl)(N:hk H O=none:=by kernel_rfl)(W:hng [k] js H=true:=by kernel_rfl): ∀a w,Fr a C.n C.ds l->Hp C H w->X a w:=λa w hf hh=>h a w hf (Hp.dd2 (hh.mv L (λe=>by subst e;rw[L]at N;cases N) (λu U=>by rw[N]at U;cases U) V) W)
def gone (H:List (Nat×Res))(k:Nat):Bool:=match hk H k with
 |none=>true
 |some .dead=>true
 |_=>false
def mvd (k N:Nat)(js:List Nat){r:Res}(h: ∀a w,Fr a C.n C.ds l->Hp C ((N,r)::(k,.dead)::ded js H) w->X a w)(O:hk H k=some r:=by rfl)(V:r.ref=none:=by rfl)(L:Nat.beq N k=false:=by rfl)(U:gone H N=true:=by kernel_rfl)(W:hng [k] js H=true:=by kernel_rfl): ∀a w,Fr a C.n C.ds l->Hp C H w->X a w:=λa w hf hh=>h a w hf (Hp.dd2 (hh.mv O (λe=>by rw[e,Nat.beq_refl]at L;cases L) (λu hu=>by
 unfold gone at U;rw[hu]at U;cases u<;>first|rfl|cases U) V) W)
end
section
variable {r:Option Nat}{P:Program}{ops:Array Oper}{Q:Exit->Act->World->Prop}{C:Cx}{l:List (Nat×Value)}{H Hq:List (Nat×Res)}{m f:Nat}{li:List Bool}
def AH.cnp {ρ:Type}{A B R:Option ρ}{j:Nat}{p:Prop}[Decidable p](O:lk l j=some (.bool (decide p)))(L:(if p then A else B)=R)(V:p->A=R->AH r P ops Q Hq m f li C ((j,.bool true)::l) H)(W: ¬p->B=R->AH r P ops Q Hq m f li C ((j,.bool false)::l) H):AH r P ops Q Hq m f li C l H:=λa w N U=>by
 by_cases hp:p;rw[Qe hp]at L;exact V hp L a w (N.cons N (by rw[O,Wf hp])) U;rw[Qc hp]at L;exact W hp L a w (N.cons N (by rw[O,W2 hp])) U
def AH.pks (k kn:Nat){t:Ty}{A:Option Addr}{c:Nat}{xs:List t.den}{i:Int}{v:t.den}(O:ix xs i=some v)(h:t.ok v->tele (lv t) λps=>∀b o,A=some ⟨b,o,none⟩->AH r P ops Q Hq m f li C l (hcat (kx (kn+1) (rs t v ps)) ((kn,.el none b (o+i.toNat*t.size) (cl t v ps))::H)))
  (L:hk H k=some (.sh (.slice t) [.slice A xs.length c] xs):=by rfl) (U:nok H kn (1+lv t)=true:=by kernel_rfl):AH r P ops Q Hq m f li C l H:=λa w V W=>by
 obtain⟨ps,hl,N,b,o,hA,h2⟩:=peek W k kn O (rowS L) U;exact Qcm (h N) ps hl b o hA a w V h2
def AH.pkl (k kn:Nat){t:Ty}{A:Option Addr}{c:Nat}{xs:List t.den}{i:Int}{v:t.den}(O:ix xs i=some v)(h:t.ok v->tele (lv t) λps=>∀b o,A=some ⟨b,o,none⟩->AH r P ops Q Hq m f li C l (hcat (kx (kn+1) (rs t v ps)) ((kn,.el none b (o+i.toNat*t.size) (cl t v ps))::H)))
  (L:hk H k=some (.ln t A c xs):=by rfl) (U:nok H kn (1+lv t)=true:=by kernel_rfl):AH r P ops Q Hq m f li C l H:=λa w V W=>by
 obtain⟨ps,hl,N,b,o,hA,h2⟩:=peek W k kn O (rowL L) U;exact Qcm (h N) ps hl b o hA a w V h2
def r_ixa {a:Act}{w:World}{d:Option Tmp}{T:TypeId}{pos:String}{af:Array Edge}{n:Nat}{ds:List Deferred}{tt e:TypeId}{x y:Operand}{A:Option Addr}{b o c:Nat}{t:Ty}{xs:List t.den}{i:Int}{kd:IntKind}{v:t.den}(N:ix xs i=some v)(O:A=some ⟨b,o,none⟩)(L:Fr a n ds l)
  (U:ev l x=some (.slice A xs.length c):=by rfl) (V:ev l y=some (.int kd i):=by rfl) (W:P.underlying tt=some (.slice e):=by rfl) (hs:szB P e=some t.size:=by kernel_rfl):(execOp a.eval ⟨d,.indexAddr tt x y,T,pos,af,none⟩).run P w=.ok (.value (.pointer (some ⟨b,o+i.toNat*t.size,none⟩))) w:=by
 obtain⟨k,rfl,hv⟩:=Qby N;have:=r_indexAddrA (P:=P) (w:=w) (d:=d) (T:=T) (pos:=pos) (af:=af) (gd:=none) W (Qai hs) (L.eval U) O (L.eval V) rfl (Qd.1 hv).1;rw[Addr.add_lit]at this;exact this
end
def lt {α β:Type}(x:α)(f:α->Option β):Option β:=f x
def om {α β:Type}(x:Option α)(a:Option β)(f:α->Option β):Option β:=match x with
 |none=>a
 |some p=>f p
def om_n {α β:Type}{x:Option α}{a:Option β}{f:α->Option β}(h:x=none):om x a f=a:=by rw[h];rfl
def om_s {α β:Type}{x:Option α}{a:Option β}{f:α->Option β}{p:α}(h:x=some p):om x a f=f p:=by rw[h];rfl
section
variable {P:Program}{w:World}
def Qeb {g b m:Nat}{seen:List Nat}{es:List (Value×Value)}{ty:TypeId}(hr:Rg w g b m seen)(hm:MapC w b es):
  ((∀i,i<m->i∈seen)/\(Instr.next (.pointer (some ⟨g,0,none⟩)) false ty).run P w=.ok (.tuple #[.bool false]) w)\/
  ∃i k v w',i<m/\i∉seen/\es[i]?=some (k,v)/\(Instr.next (.pointer (some ⟨g,0,none⟩)) false ty).run P w=.ok (.tuple #[.bool true,k,v]) w'/\Ch [g] w w'/\w'.heap.size=w.heap.size/\Rg w' g b m (i::seen)/\Lst w' g b k v:=by
 obtain⟨U,arr,clock,since,sb,hb,hlen,hg,hsc,hold,V,hseen⟩:=hr;obtain⟨arr',clock',hb',hes,_,_⟩:=hm;rw[hb]at hb';injection hb' with hb';injection hb' with hb' _
 have hb':=List.toArray_inj hb';subst hb';have hgl:=(Qw.1 hg).1;have hgetg:(getObj g).run P w=.ok (.mapIter (some b) since sb.toArray since) w:=by simp[getObj,Sem.run,hg]
 have hgetb:(getObj b).run P w=.ok (.map arr.toArray clock) w:=by simp[getObj,Sem.run,hb]
 have htest:=next_test_false sb.toArray arr.toArray since since (by simpa using hold) (Q4 _);obtain⟨L,hL⟩: ∃L,L=arr.toArray.filter λe=> !sb.toArray.contains e.born:=⟨_,rfl⟩;have hLm: ∀e,e∈L.toList↔e∈arr/\e.born∉sb:=λe=>by rw[hL];simp
 have e1:L.filter (λx=>decide (x.born<since))=L:=Array.filter_eq_self.2 (λx hx=>by have:=(hLm x).1 (by simpa using hx);simpa using hold x this.1);have e2:L.filter (λx=>decide (x.born≥since))=#[]:=by
  rw[Array.filter_eq_empty_iff];intro x hx;have:=hold x ((hLm x).1 (by simpa using hx)).1;simp;omega
 by_cases h0:L.size=0
 ·left
  have hLe:L=#[]:=Array.eq_empty_of_size_eq_zero h0;refine⟨λi O=>?_,?_⟩;obtain⟨e,he⟩: ∃e,arr[i]?=some e:=⟨_,Qf (by omega)⟩;refine(hseen i e he).1 (Classical.byContradiction λhn=>?_);have:=(hLm e).2 ⟨Qi he,hn⟩;rw[hLe]at this;simp at this
  ·simp only[Instr.next,Sem.run_bind,hgetg,Result.andThen_ok,hgetb,htest,Wz,Xs,<-hL,e1,e2,Array.append_empty]
   rw[hLe];simp[Question.forced]
 ·right
  have hie:L.isEmpty=false:=by simp[Array.isEmpty,h0]
  have hj: ∃j,j<L.size/\∃N:World,(choose (.mapNext L.size)).run P w=.ok j N/\(N=w\/N=w.drew):=by
   rw[run_choose_drew];by_cases hfo:(Question.mapNext L.size).forced=true;rw[Qe hfo];exact⟨0,by omega,w,rfl,.inl rfl⟩;rw[Qc hfo];exact⟨_,Nat.mod_lt _ (by omega),_,rfl,.inr rfl⟩
  obtain⟨j,W,N,hch,hw1⟩:=hj;obtain⟨e,he⟩: ∃e,L[j]?=some e:=⟨_,Array.getElem?_eq_getElem W⟩;have heL:e∈L.toList:=by have:=Qi (l:=L.toList) (i:=j) (by rw[Xn];exact he);exact this
  obtain⟨hea,hen⟩:=(hLm e).1 heL;obtain⟨i,O⟩:=List.mem_iff_getElem?.1 hea;have hil:=(Qd.1 O).1;have hheap:N.heap=w.heap:=by rcases hw1 with rfl|rfl<;>rfl
  have hc1:Ch [] w N:=by rcases hw1 with rfl|rfl;exact Ch.refl _;exact Ch.drew _
  have hset:(setObj g (.mapIter (some b) since (sb.toArray.push e.born) clock)).run P N=.ok () (N.putObj g (.mapIter (some b) since (sb.toArray.push e.born) clock)):=by
   simp[setObj,Sem.run,World.putObj,hheap,hg]
  refine⟨i,e.key,e.val,N.putObj g (.mapIter (some b) since (sb.toArray.push e.born) clock),by omega,λhs=>hen ((hseen i e O).2 hs),by rw[<-hes,Xi,O];rfl,?_,hc1.then (Ch.putObj N g _),by simp[hheap],⟨U,arr,clock,since,sb++[e.born],?_,hlen,?_,hsc,hold,V,?_⟩,?_⟩
  ·simp only[Instr.next,Sem.run_bind,hgetg,Result.andThen_ok,hgetb,htest,Wz,Xs,<-hL,e1,e2,hie,Array.append_empty,Array.empty_append,Array.size_map,hch,Array.getElem?_map,he,W1,hset,Sem.run_pure]
  rw[World.putObj_heap_other (λh=>U h.symm),hheap];exact hb;rw[World.putObj_heap_same (by rw[hheap];exact hgl)];subst hsc;simp;intro i' e' he';rw[Wb,Qz,Qq,hseen i' e' he'];constructor;rintro(h|h);exact .inr h;left;have hi'l:=(Qd.1 he').1;have:=(List.getElem_inj V (i:=i') (j:=i) (h₀:=by simpa using hi'l) (h₁:=by simpa using hil)).1 (by
   simp only[List.getElem_map];rw[(Qd.1 he').2,(Qd.1 O).2];exact h)
  exact this;rintro(h|h);right;subst h;rw[O]at he';injection he' with he';rw[he']
  exact .inl h;have h1:=World.putObj_heap_same (w:=N) (r:=g) (o:=.mapIter (some b) since (sb.toArray.push e.born) clock) (by rw[hheap];exact hgl);have h2:(N.putObj g (.mapIter (some b) since (sb.toArray.push e.born) clock)).heap[b]?=some (.map arr.toArray clock):=by rw[World.putObj_heap_other (λh=>U h.symm),hheap];exact hb
  have hf:arr.find? (·.born==e.born)=some e:=by
   cases hfi:arr.find? (·.born==e.born)with
   |none=>have:=List.find?_eq_none.1 hfi e hea;simp at this
   |some e2=>
    have h3:=List.find?_some hfi;obtain⟨j,hj⟩:=List.mem_iff_getElem?.1 (List.mem_of_find?_eq_some hfi);have W:=(Qd.1 hj).1;have:=(List.getElem_inj V (i:=j) (j:=i) (h₀:=by simpa using W) (h₁:=by simpa using hil)).1 (by
     simp only[List.getElem_map];rw[(Qd.1 hj).2,(Qd.1 O).2];simpa using h3)
    subst this;rw[O]at hj;exact hj.symm
  exact⟨since,clock,e.born,sb.toArray,arr,e,h1,h2,hf,rfl,rfl⟩
end
section
variable {r:Option Nat}{P:Program}{ops:Array Oper}{Q:Exit->Act->World->Prop}{rest lst:List Oper}{C:Cx}{l:List (Nat×Value)}{H:List (Nat×Res)}{d:Nat}{op:Op}{T:TypeId}{pos:String}{af:Array Edge}
variable {κ:Type}[DecidableEq κ]{enc:κ->Value}{kt et tt:TypeId}{t:Ty}{agg:Bool}{b:Nat}{m:List (κ×t.den)}
omit [DecidableEq κ]in
def AL.nxm (k ki kn:Nat){x:Operand}{g:Nat}{seen:List Nat}{la:Option (Value×Value)}
  (h1:(∀i,i<m.length->i∈seen)->AL r P ops Q rest C ((d,.tuple #[.bool false])::l) H)
  (h2: ∀i p,m[i]?=some p->i∉seen->t.ok p.2->tele (lv t) λps=>AL r P ops Q rest C ((d,.tuple #[.bool true,enc p.1,vof agg (cl t p.2 ps)])::l) (hcat (kx kn (rs t p.2 ps)) ((ki,.mit k g b m.length (i::seen) (some (enc p.1,vof agg (cl t p.2 ps))))::H)))
  (N:hk H k=some (.mp κ enc t agg b m):=by rfl) (L:hk H ki=some (.mit k g b m.length seen la):=by rfl) (hx:ev l x=some (.pointer (some ⟨g,0,none⟩)):=by rfl) (hd:Nat.ble (d+1) C.n=true:=by rfl)
  (hn: ∀s la,nok ((ki,.mit k g b m.length s la)::H) kn (lv t)=true:=by intro _ _;kernel_rfl) (O:hng [ki] [] H=true:=by kernel_rfl):AL r P ops Q (⟨some d,.next x false,T,pos,af,none⟩::rest) C l H:=λa w V W=>by
 have hkk:k≠ki:=λe=>by subst e;rw[N]at L;injection L with L;cases L
 obtain⟨es,hmc,hl,h3⟩:Mt enc t agg w (Fh C H) b m:=W.hold k _ N;rcases Qeb (P:=P) (ty:=T) (W.hold ki _ L).1 hmc with⟨h4,h5⟩|⟨i,kv,v,w',i1,i2,i3,i4,i5,i6,i7,i8⟩
 refine Z.val V hd ?_ λa' hf'=>h1 h4 a' w hf' W;simp only[execOp,V.eval hx,Sem.run_bind,h5,Result.andThen_ok,Sem.run_pure];obtain⟨p,hp⟩: ∃p,m[i]?=some p:=⟨_,Qf i1⟩;obtain⟨cs,h6,h7⟩:=h3 i p hp;rw[h6]at i3;injection i3 with i3;injection i3 with e1 e2
 subst e1;subst e2;have hup: ∀la,(∀kv,la=some kv->Lst w' g b kv.1 kv.2)->Hp C ((ki,.mit k g b m.length (i::seen) la)::H) w':=λla hla=>Hp.dd (js:=[]) (W.upd i5 (λb' hb'=>⟨_,L,by simpa[Res.bl] using hb'⟩) (λb' hb'=>.inl ⟨_,L,hb'⟩) (λj O=>by
   simp only[Res.ref,Qr]at O;subst O;exact⟨hkk,λr hr=>by rw[N]at hr;injection hr with hr;subst hr;rfl⟩) λF B _ _ _ hB _=>⟨i7,hB k b rfl ⟨_,N,by simp[Res.bl]⟩,hla⟩) O
 have hr': ∀la,t.rep w' (Fh C ((ki,.mit k g b m.length (i::seen) la)::H)) cs p.2:=λla=>by
  refine rep_to h7 i5 λb' hb' hl'=>⟨λhm=>hb'.1 ki ⟨_,L,by simpa[Res.bl] using hm⟩,⟨λj O=>?_,hb'.2⟩⟩;by_cases U:j=ki;subst U;have h0:=Bk.cons_eq.1 O;exact hb'.1 j ⟨_,L,h0⟩;obtain⟨r2,h8,h9⟩:=(Bk.cons_ne U).1 O;exact hb'.1 j ⟨r2,h8,h9⟩
 have hok:=rep_ok t h7;obtain⟨ps,hl2,rfl,h9⟩:=put_dat (hup (some (enc p.1,vof agg cs)) (λkv h=>by injection h with h;subst h;exact i8)) (hr' _) kn (hn _ _);refine Z.valw V hd ?_ λa' hf'=>Qcm (h2 i p hp i2 hok) ps hl2 a' w' hf' h9;simp only[execOp,V.eval hx,Sem.run_bind,i4,Result.andThen_ok,Sem.run_pure]
end
section
variable {r:Option Nat}{P:Program}{ops:Array Oper}{Q:Exit->Act->World->Prop}{rest lst:List Oper}{C:Cx}{l:List (Nat×Value)}{H:List (Nat×Res)}{d:Nat}{op:Op}{T:TypeId}{pos:String}{af:Array Edge}
def r_indexArr {a:Act}{w:World}{dd:Option Tmp}{gd:Option (Nat×Bool)}{tt e:TypeId}{n sz g o:Nat}{x y:Operand}{i:Int}{kd:IntKind}(L:P.underlying tt=some (.array n e))(N: ∀w,(sizeOf e).run P w=.ok sz w)(O:a.eval x=.pointer (some ⟨g,o,none⟩))(U:a.eval y=.int kd i)(V:0<=i)(W:i<n):
  (execOp a.eval ⟨dd,.indexAddr tt x y,T,pos,af,gd⟩).run P w=.ok (.value (.pointer (some ⟨g,o+i.toNat*sz,none⟩))) w:=by
 have:=Addr.add_lit g o (i.toNat*sz);simp[execOp,Instr.indexAt,O,U,asIntOf,run_underlying L,N,V,W,Instr.sureAddr,this]
def has_ix {k:IntKind}{vals:List Int}{i v:Int}(L:ix vals i=some v)(h: ∀x,x∈vals->k.has x):k.has v:=by
 obtain⟨j,_,N⟩:=Qby L;exact h v (Qi N)
def AL.ixb (k kn:Nat){τ:Type}(f:τ->Value)(vals:List τ){tt e bt:TypeId}{n g o:Nat}{cs:List Value}{x y:Operand}{i:Int}{kd:IntKind}{v:τ}(L:ix vals i=some v)
  (h:AL r P ops Q rest C ((d,.pointer (some ⟨g,o+i.toNat*1,none⟩))::l) ((kn,.el (some k) g (o+i.toNat*1) [f v])::H))
  (U:hk H k=some (.blk g bt cs):=by rfl) (hx:ev l x=some (.pointer (some ⟨g,o,none⟩)):=by rfl) (hy:ev l y=some (.int kd i):=by rfl) (ht:P.underlying tt=some (.array n e):=by rfl) (hS:szB P e=some 1:=by kernel_rfl) (hl:vals.length=n:=by rfl) (V:(cs.drop o).take n=vals.map f:=by rfl)
  (hd:Nat.ble (d+1) C.n=true:=by rfl) (hn:hk H kn=none:=by kernel_rfl):AL r P ops Q (⟨some d,.indexAddr tt x y,T,pos,af,none⟩::rest) C l H:=λa w W hh=>by
 subst hl;have N:=o_bT L;obtain⟨j,rfl,hj⟩:=Qby L;have hB:Blk w g bt cs:=hh.hold k _ U;refine Z.val W hd (r_indexArr ht (Qai hS) (W.eval hx) (W.eval hy) N.1 N.2) λa' hf'=>h a' w hf' (hh.add hn rfl (λi L r O=>by
   simp only[Res.ref,Qr]at L;subst L;rw[U]at O;injection O with O;subst O;rfl) ⟨λq u hu=>?_,hB.lt,⟨_,U,by simp[Res.bl]⟩⟩)
 cases q with
 |succ q=>simp at hu
 |zero=>
  simp only[Xd,Qr]at hu;subst hu;rw[Addr.add_lit,Xq,hB.cell,Xj,Xc];have hlt:=(Qd.1 hj).1;have h3:((cs.drop o).take vals.length)[j]?=some (f v):=by rw[V,Xi,hj];rfl
  rw[Qu hlt,Qv]at h3;exact h3
end
section
variable {P:Program}{C:Cx}{l:List (Nat×Value)}{H:List (Nat×Res)}
def Row.none {t:Ty}{w:World}{F G:Nat->Prop}{A:Option Addr}{c:Nat}{xs:List t.den}(h:Row t w F G A c xs)(N:A.isNone=true):xs=[]:=by
 obtain⟨_,_,_,_,L,_⟩:=h;rcases L with L|⟨b,o,rfl,_⟩
 exact Qt L;cases N
def nilL {X:Act->World->Prop}(k:Nat){t:Ty}{A:Option Addr}{c:Nat}{xs:List t.den}(O:A.isNone=true)(h:xs=[]->∀a w,Fr a C.n C.ds l->Hp C H w->X a w)(L:hk H k=some (.ln t A c xs):=by rfl): ∀a w,Fr a C.n C.ds l->Hp C H w->X a w:=λa w U N=>by
 obtain⟨G,V,_⟩:=rowL L w N;exact h (Row.none V O) a w U N
def AX.cnn {r:Option Nat}{Y:Exit->Act->World->Prop}{K:List Kx}{c:Operand}{x y:Code}{b:Bool}(O:ev l c=some (.bool b))(U:b=true->AX r P Y K x C l H)(V:b=false->AX r P Y K y C l H):AX r P Y K (.cond c x y) C l H:=λa w L N=>Z.cond L O (λh=>U h a w L N) (λh=>V h a w L N)
end
section
variable {r:Option Nat}{P:Program}{ops:Array Oper}{Q:Exit->Act->World->Prop}{rest:List Oper}{C:Cx}{l:List (Nat×Value)}{H:List (Nat×Res)}{d:Nat}{T:TypeId}{pos:String}{af:Array Edge}
def AL.cutl (k kn:Nat){t:Ty}{tt e:TypeId}{x lo:Operand}{A:Option Addr}{c:Nat}{xs:List t.den}{k1:IntKind}{p:Int}{u:Nat}(hp:p=(u:Int))(h1:u<=xs.length)
  (h: ∀A' c',AL r P ops Q rest C ((d,.slice A' (xs.drop u).length c')::l) ((kn,.sh (.slice t) [.slice A' (xs.drop u).length c'] (xs.drop u))::H))
  (N:hk H k=some (.sh (.slice t) [.slice A xs.length c] xs):=by rfl) (hx:ev l x=some (.slice A xs.length c):=by rfl) (O:ev l lo=some (.int k1 p):=by rfl) (hS:szB P e=some t.size:=by kernel_rfl)
  (ht:P.underlying tt=some (.slice e):=by rfl) (hd:Nat.ble (d+1) C.n=true:=by rfl) (hn:hk H kn=none:=by kernel_rfl):AL r P ops Q (⟨some d,.slice tt x (some lo) none none,T,pos,af,none⟩::rest) C l H:=λa w U V=>by
 have W:(Ty.slice t).rep w (Fh C H) [.slice A xs.length c] xs:=V.hold k _ N;have hlen:=rep_slice_len W;have hlen2:(xs.drop u).length=xs.length-u:=by rw[Qk]
 refine Z.val (v:=.slice (cutA A c u t.size) (xs.length-u) (c-u)) U hd (r_slice_l ht (Qai hS) (U.eval hx) (U.eval O) hp (by omega)) λa' hf'=>?_;have L:(Ty.slice t).rep w (Fh C H) [.slice (cutA A c u t.size) (xs.length-u) (c-u)] (xs.drop u):=by
  refine rep_drop W h1 (by omega) (by omega) λhlt ad hA=>?_;unfold cutA;rw[Qc (by omega),hA];rfl
 rw[<-hlen2]at L hf';exact h _ _ a' w hf' (V.add hn rfl (λj hj=>by cases hj) (Qal _ L))
end
def szl (b:ByteArray)(h:decide (b.size<=maxLen)=true):b.size<=maxLen:=Wu h
def wrap_has (k:IntKind)(n:Int):k.has (k.wrap n):=by
 cases k<;>simp[IntKind.has,IntKind.min,IntKind.max,IntKind.wrap,IntKind.bits,IntKind.signed]<;>omega
end Go.A
namespace Go.Z
section
variable {P:Program}{a:Act}{w:World}
def resv3 {fn:Func}{r1 r2 r3:ResultVar}{v1 v2 v3:Value}(h:fn.results=#[r1,r2,r3])(L:RV P a.tmps w r1 v1)(N:RV P a.tmps w r2 v2)(O:RV P a.tmps w r3 v3):(results fn a.tmps).run P w=.ok (.tuple #[v1,v2,v3]) w:=by
 cases r1<;>cases r2<;>cases r3<;>simp only[RV,Wa]at L N O;simp[results,h,asAddr,L,N,O];obtain⟨_,U,V⟩:=O;simp[results,h,asAddr,L,N,U,V];obtain⟨_,W,q2⟩:=N;simp[results,h,asAddr,L,W,q2,O];obtain⟨_,W,q2⟩:=N;obtain⟨_,U,V⟩:=O;simp[results,h,asAddr,L,W,q2,U,V];obtain⟨_,p1,q1⟩:=L;simp[results,h,asAddr,p1,q1,N,O];obtain⟨_,p1,q1⟩:=L;obtain⟨_,U,V⟩:=O;simp[results,h,asAddr,p1,q1,N,U,V];obtain⟨_,p1,q1⟩:=L;obtain⟨_,W,q2⟩:=N;simp[results,h,asAddr,p1,q1,W,q2,O];obtain⟨_,p1,q1⟩:=L;obtain⟨_,W,q2⟩:=N;obtain⟨_,U,V⟩:=O;simp[results,h,asAddr,p1,q1,W,q2,U,V]
end
end Go.Z
end
section
namespace Go.A
open Go.RowKit Go.Z
section
variable {P:Program}{Q:Exit->Act->World->Prop}{a:Act}{w:World}{n:Nat}{ds:List Deferred}{l:List (Nat×Value)}
end
def El (t:Ty)(ag:List Value->List Value)(xs:List t.den)(Φ:Nat->World->Nat->Prop):Nat->World->World->List Value->Prop:=λk W0 W args=>
 ∃x cs,xs[k]?=some x/\args=ag cs/\t.rep W (λb=>Φ k W0 b\/W0.heap.size<=b) cs x
section
variable {P:Program}{Y:Exit->Act->World->Prop}{K:List Kx}{C:Cx}{l:List (Nat×Value)}{H:List (Nat×Res)}
end
section
variable {r:Option Nat}{P:Program}{K:List Kx}{l:List (Nat×Value)}{H:List (Nat×Res)}
end
structure Yl (P:Program) (lid:Nat) (J:Nat->World->Prop) (Jx:World->Prop) (Φ:Nat->World->Nat->Prop) (Hc:List (Nat×Res)) (t:Ty) (ag:List Value->List Value) (xs:List t.den):Prop where
 js: ∀k W W',J k W->Ch [] W W'->J k W'
 jx: ∀W W',Jx W->Ch [] W W'->Jx W'
 dat: ∀k W,J k W->Hp ⟨0,[],W,[],Φ k W⟩ Hc W
 y: ∀k W0 W args,k<xs.length->J k W0->Ch [] W0 W->El t ag xs Φ k W0 W args->YieldAt (FW none) 0 P lid args.toArray W λe W'=>(e=.returned (.bool true)/\J (k+1) W')\/(e=.returned (.bool false)/\Jx W')
def Rem {α:Type}(xs:List α)(k:Nat)(rs:List α):Prop:=xs.drop k=rs/\k<=xs.length
def Rem.at {α:Type}{xs rs:List α}{k:Nat}{x:α}(h:Rem xs k (x::rs)):xs[k]?=some x:=by
 have L:=h.1;have:(xs.drop k)[0]?=some x:=by rw[L];rfl
 rw[Qv]at this;simpa using this
def Rem.next {α:Type}{xs rs:List α}{k:Nat}{x:α}(h:Rem xs k (x::rs)):Rem xs (k+1) rs:=by
 refine⟨?_,?_⟩;rw[<-Q9,h.1];rfl;exact(Qd.1 h.at).1
section
variable {P:Program}{lid:Nat}{J:Nat->World->Prop}{Jx:World->Prop}{Φ:Nat->World->Nat->Prop}{Hc:List (Nat×Res)}{t:Ty}{ag:List Value->List Value}{xs:List t.den}{n:Nat}
end
section
variable {r:Option Nat}{P:Program}{Y:Exit->Act->World->Prop}{K:List Kx}{C:Cx}{l:List (Nat×Value)}{H:List (Nat×Res)}{ι:Type}{Cf:ι->Cx}
end
section
variable {P:Program}{kt et tt:TypeId}{κ:Type}[DecidableEq κ]{enc:κ->Value}{w:World}{b:Nat}
end
section
variable {P:Program}{kt et tt st ty:TypeId}{κ:Type}[DecidableEq κ]{enc:κ->Value}{w:World}{b:Nat}{t:Ty}{e:TypeId}{F G:Nat->Prop}{As:List (Option Addr×Nat)}{m:List (κ×List t.den)}
end
section
variable {r:Option Nat}{P:Program}{ops:Array Oper}{Q:Exit->Act->World->Prop}{rest:List Oper}{C:Cx}{l:List (Nat×Value)}{H:List (Nat×Res)}
end
def mb:Nat->Nat->List Bool
 |0,_=>[]
 |n+1,m=>Nat.beq (m%2) 1::mb n (m / 2)
def nxs:Nat->Option Code->List Kx->Option (Option Code×List Kx)
 |0,c,K=>some (c,K)
 |n+1,some (.seq x y),K=>nxs n (some x) (.c y::K)
 |n+1,some (.block id c),K=>nxs n (some c) (.b id::K)
 |n+1,some .skip,K=>nxs n none K
 |n+1,some (.label _),K=>nxs n none K
 |n+1,some (.exit id),K=>match popx id K with
  |some K'=>nxs n none K'
  |none=>none
 |n+1,none,.c y::K=>nxs n (some y) K
 |n+1,none,.b _::K=>nxs n none K
 |n+1,none,.s::K=>nxs n none K
 |_+1,_,_=>none
section
variable {r:Option Nat}{P:Program}{Y:Exit->Act->World->Prop}{C:Cx}{l:List (Nat×Value)}{H:List (Nat×Res)}{K K':List Kx}{c c':Code}
def GX (r:Option Nat)(P:Program)(Y:Exit->Act->World->Prop)(C:Cx)(l:List (Nat×Value))(H:List (Nat×Res)):Option Code->List Kx->Prop
 |some c,K=>AX r P Y K c C l H
 |none,K=>AE r P Y K .normal C l H
def o_bv: ∀{n:Nat} {c c':Option Code} {K K':List Kx},nxs n c K=some (c',K')->GX r P Y C l H c' K'->GX r P Y C l H c K:=by
 intro n;induction n with
 |zero=>intro c c' K K' e h;injection e with e;injection e with O U;subst O;subst U;exact h
 |succ n N=>
  intro c c' K K' e h;unfold nxs at e;split at e;injection e with e;injection e with O U;subst O;subst U;exact h
  rename_i L;cases L;exact AX.seq (N e h);rename_i L;cases L;exact AX.block (N e h);rename_i L;cases L;exact AX.skip (N e h);rename_i L;cases L;exact AX.label (N e h);rename_i L;cases L;split at e;rename_i hp;exact AX.exit hp (N e h);cases e;rename_i L;cases L;exact AE.c (N e h);rename_i L;cases L;exact AE.b (N e h);rename_i L;cases L;exact AE.s (N e h);cases e
def xx (n:Nat)(h:AX r P Y K' c' C l H)(e:nxs n (some c) K=some (some c',K'):=by rfl):AX r P Y K c C l H:=o_bv (c:=some c) (c':=some c') e h
def xe (n:Nat)(h:AE r P Y K' .normal C l H)(e:nxs n (some c) K=some (none,K'):=by rfl):AX r P Y K c C l H:=o_bv (c:=some c) (c':=none) e h
def ex (n:Nat)(h:AX r P Y K' c' C l H)(e:nxs n none K=some (some c',K'):=by rfl):AE r P Y K .normal C l H:=o_bv (c:=none) (c':=some c') e h
def ee (n:Nat)(h:AE r P Y K' .normal C l H)(e:nxs n none K=some (none,K'):=by rfl):AE r P Y K .normal C l H:=o_bv (c:=none) (c':=none) e h
def xl (n:Nat){id:Nat}{lo:List Oper}(h:AL r P lo.toArray (kont r P Y K') lo C l H)(e:nxs n (some c) K=some (some (.region id lo.toArray false),K'):=by rfl):AX r P Y K c C l H:=xx n (AX.reg h) e
def el (n:Nat){id:Nat}{lo:List Oper}(h:AL r P lo.toArray (kont r P Y K') lo C l H)(e:nxs n none K=some (some (.region id lo.toArray false),K'):=by rfl):AE r P Y K .normal C l H:=ex n (AX.reg h) e
def dl (n:Nat){ops:Array Oper}{id:Nat}{lo:List Oper}(h:AL r P lo.toArray (kont r P Y K') lo C l H)(e:nxs n none K=some (some (.region id lo.toArray false),K'):=by rfl):AL r P ops (kont r P Y K) [] C l H:=AL.done (el n h e)
def dx (n:Nat){ops:Array Oper}(h:AX r P Y K' c' C l H)(e:nxs n none K=some (some c',K'):=by rfl):AL r P ops (kont r P Y K) [] C l H:=AL.done (ex n h e)
def de (n:Nat){ops:Array Oper}(h:AE r P Y K' .normal C l H)(e:nxs n none K=some (none,K'):=by rfl):AL r P ops (kont r P Y K) [] C l H:=AL.done (ee n h e)
end
section
variable {r:Option Nat}{P:Program}{ops:Array Oper}{Q:Exit->Act->World->Prop}{lst rest:List Oper}{C:Cx}{l:List (Nat×Value)}{H:List (Nat×Res)}{T:TypeId}{pos:String}{af:Array Edge}
def q0 (bs es:List Nat)(L:List Hint)(nl:List (Nat×Value))(h:AL r P ops Q (lst.drop L.length) C (cat nl l) H)
  (hq:((qs P ⟨knb H bs,kne H es⟩ C.n ops L lst (Z.q0 l)).bind (qfin l (nl.map Prod.fst)))=some ([],nl):=by kernel_rfl)
  (N:(qs P ⟨knb H bs,kne H es⟩ C.n ops L lst (Z.q0 l)).map (λs=>s.q.map Prod.fst)=(qs P ⟨knb H bs,kne H es⟩ C.n ops L lst (Z.q0 l)).map (λs=>s.q.map Prod.snd):=by kernel_rfl):AL r P ops Q lst C l H:=
 AL.q bs es L (nl.map Prod.fst) [] nl trivial h hq N
def q (bs es:List Nat)(L:List Hint)(cs:List Prop)(nl:List (Nat×Value))(N:conj cs)(h:AL r P ops Q (lst.drop L.length) C (cat nl l) H)
  (hq:((qs P ⟨knb H bs,kne H es⟩ C.n ops L lst (Z.q0 l)).bind (qfin l (nl.map Prod.fst)))=some (cs,nl):=by kernel_rfl)
  (O:(qs P ⟨knb H bs,kne H es⟩ C.n ops L lst (Z.q0 l)).map (λs=>s.q.map Prod.fst)=(qs P ⟨knb H bs,kne H es⟩ C.n ops L lst (Z.q0 l)).map (λs=>s.q.map Prod.snd):=by kernel_rfl):AL r P ops Q lst C l H:=
 AL.q bs es L (nl.map Prod.fst) cs nl N h hq O
def sw (k:Nat)(js:List Nat)(new:List Value){t bt:TypeId}{x y:Operand}{g o m:Nat}{cs:List Value}{v:Value}(h:AL r P ops Q rest C l ((k,.blk g bt new)::ded js H))
  (L:hk H k=some (.blk g bt cs):=by rfl) (N:ev l x=some (.pointer (some ⟨g,o,none⟩)):=by rfl) (O:ev l y=some v:=by rfl) (U:szB P t=some m:=by kernel_rfl)
  (V:v.cells=new.toArray:=by rfl) (W:new.length=m:=by rfl) (ho:Nat.ble (o+m) cs.length=true:=by rfl) (h1:new.all (λu=>u.oneCell')=true:=by rfl) (hc:cs.take o++new++cs.drop (o+m)=new:=by rfl) (hj:hng [k] js H=true:=by kernel_rfl):
  AL r P ops Q (⟨none,.store t x y,T,pos,af,none⟩::rest) C l H:=AL.store k js h L N O U V W ho h1 hc hj
end
section
variable {r:Option Nat}{P:Program}{Y:Exit->Act->World->Prop}{K:List Kx}{C:Cx}{l:List (Nat×Value)}{H:List (Nat×Res)}
def j {l':List (Nat×Value)}{H':List (Nat×Res)}{ks L:List Nat}{J:List (Nat×Value)->List (Nat×Res)->Prop}{nl:List (Nat×Value)}{nh:List (Nat×Res)}(N:J nl nh)(O:kp l ((cat nl (kp l' ks)).map (·.1))=cat nl (kp l' ks):=by kernel_rfl)(U:kpH H (nh.map (·.1)++L) (nh.map (·.1)++L)=hcat nh (kpH H' L L):=by kernel_rfl):
  AE r P Y (.m (St C l' H' ks L J)::K) .normal C l H:=AE.j (nh.map (·.1)++L) nl nh N O U
def lp_ (ks L:List Nat)(J:Nat->List (Nat×Value)->List (Nat×Res)->Prop){nl:List (Nat×Value)}{nh:List (Nat×Res)}{x:Code}(N:J FU nl nh)
  (h: ∀f nl nh,J f nl nh->AX r P Y (.m (St C l H ks L λnl nh=>∃f',f'<f/\J f' nl nh)::K) x C (cat nl (kp l ks)) (hcat nh (kpH H L L)))
  (O:kp l ((cat nl (kp l ks)).map (·.1))=cat nl (kp l ks):=by kernel_rfl) (U:kpH H (nh.map (·.1)++L) (nh.map (·.1)++L)=hcat nh (kpH H L L):=by kernel_rfl):AX r P Y K (.loop x) C l H:=
 AX.loop ks L (nh.map (·.1)++L) J FU nl nh N h O U
end
section
variable {r:Option Nat}{P:Program}{ops:Array Oper}{Q:Exit->Act->World->Prop}{Hq:List (Nat×Res)}{m g:Nat}{li:List Bool}{C:Cx}{l:List (Nat×Value)}{H:List (Nat×Res)}
def hq (N:Pq Q)(gs qs bs es:List Nat)(li':List Bool)(f:Nat)(is:List (Nat×Hint))(nl:List (Nat×Value))(h:AH r P ops Q (kpH H qs qs) m f li' C (cat nl l) H)
  (O:g=f+is.length:=by rfl) (U:is.all (λp=>bon ops m p.1)=true:=by kernel_rfl) (L:cloB ops li.toArray=true:=by kernel_rfl) (V:(Region.noSelect ops&&Qbm ops)=true:=by kernel_rfl)
  (hq:((dqs P ⟨knb (kpH H qs qs) bs,kne (kpH H qs qs) es⟩ C.n ops is li.toArray (Z.q0 l)).bind λx=>(qfin l (nl.map Prod.fst) x.2).map λy=>(x.1.toList,y))=some (li',[],nl):=by kernel_rfl)
  (W:(dqs P ⟨knb (kpH H qs qs) bs,kne (kpH H qs qs) es⟩ C.n ops is li.toArray (Z.q0 l)).map (λs=>s.2.q.map Prod.fst)=(dqs P ⟨knb (kpH H qs qs) bs,kne (kpH H qs qs) es⟩ C.n ops is li.toArray (Z.q0 l)).map (λs=>s.2.q.map Prod.snd):=by kernel_rfl)
  (e:kpH (kpH H qs qs) gs gs=Hq:=by kernel_rfl):AH r P ops Q Hq m g li C l H:=AH.q N gs qs bs es li' f is (nl.map Prod.fst) [] nl trivial h O U L V hq W e
end
section
variable {r:Option Nat}{P:Program}{l:List (Nat×Value)}{H:List (Nat×Res)}{fn:Func}{K:List Kx}{w0:World}{S:List Nat}{F:Nat->Prop}{n:Nat}{R:Value->List (Nat×Res)->Prop}
def rt1 (ps:List (Nat×Nat)){t:Nat}{v:Value}(L:R v (A.ren H ps))(N:fn.results=#[.tmp t]:=by rfl)(O:lk l t=some v:=by rfl)(U:nod (ps.map (·.1))=true:=by rfl)(V:nod (ps.map (·.2))=true:=by rfl):
  AX r P (bodyPost P fn λe w'=>∃v H',e=.returned v/\R v H'/\Hp ⟨0,[],w0,S,F⟩ H' w') K .ret ⟨n,[],w0,S,F⟩ l H:=AX.ret ps v (λa w h W=>Z.resv1 N (Z.rv_t h O)) L U V
def rt2 (ps:List (Nat×Nat)){t u:Nat}{v L:Value}(N:R (.tuple #[v,L]) (A.ren H ps))(O:fn.results=#[.tmp t,.tmp u]:=by rfl)(U:lk l t=some v:=by rfl)(V:lk l u=some L:=by rfl)(W:nod (ps.map (·.1))=true:=by rfl)(h2:nod (ps.map (·.2))=true:=by rfl):
  AX r P (bodyPost P fn λe w'=>∃v H',e=.returned v/\R v H'/\Hp ⟨0,[],w0,S,F⟩ H' w') K .ret ⟨n,[],w0,S,F⟩ l H:=AX.ret ps (.tuple #[v,L]) (λa w h hh=>Z.resv2 O (Z.rv_t h U) (Z.rv_t h V)) N W h2
end
def pb {r:Option Nat}{P:Program}{fn:Func}{R:Ending->World->Prop}{K:List Kx}:Pq (kont r P (bodyPost P fn R) K):=pk_kont (Z.Pq.body _ _ _)
section
variable {P:Program}{C:Cx}{l:List (Nat×Value)}{H:List (Nat×Res)}
def cutp {X:Act->World->Prop}(k kn:Nat){t:Ty}{A:Option Addr}{c:Nat}{xs:List t.den}(v:Nat)(W:v<=xs.length)(h: ∀a w,Fr a C.n C.ds l->Hp C ((kn,.sh (.slice t) [.slice A (xs.take v).length c] (xs.take v))::H) w->X a w)
  (L:hk H k=some (.sh (.slice t) [.slice A xs.length c] xs):=by rfl) (hn:hk H kn=none:=by kernel_rfl): ∀a w,Fr a C.n C.ds l->Hp C H w->X a w:=λa w hf V=>by
 have hr:(Ty.slice t).rep w (Fh C H) [.slice A xs.length c] xs:=V.hold k _ L;have N:(xs.take v).length=v:=by rw[Qj];omega
 have O:=Qbi hr W;have U:(Ty.slice t).rep w (Fh C H) [.slice A (xs.take v).length c] (xs.take v):=by rw[N];exact O
 exact h a w hf (V.add hn rfl (λj hj=>by cases hj) (Qal _ U))
def r_cuth (k:Nat){a:Act}{w:World}{t:Ty}{tt e:TypeId}{x U:Operand}{A:Option Addr}{c:Nat}{xs:List t.den}{W:IntKind}{q:Int}{v:Nat}{d:Option Tmp}{T:TypeId}{pos:String}{af:Array Edge}{gd:Option (Nat×Bool)}(V:Fr a C.n C.ds l)(hh:Hp C H w)(hq:q=(v:Int))(h2:v<=xs.length)
  (L:hk H k=some (.sh (.slice t) [.slice A xs.length c] xs):=by rfl) (hx:ev l x=some (.slice A xs.length c):=by rfl) (N:ev l U=some (.int W q):=by rfl) (hS:szB P e=some t.size:=by kernel_rfl)
  (ht:P.underlying tt=some (.slice e):=by rfl):(execOp a.eval ⟨d,.slice tt x none (some U) none,T,pos,af,gd⟩).run P w=.ok (.value (.slice A (xs.take v).length c)) w:=by
 have hr:(Ty.slice t).rep w (Fh C H) [.slice A xs.length c] xs:=hh.hold k _ L;have hlen:=rep_slice_len hr;have O:(xs.take v).length=v:=by rw[Qj];omega
 rw[O];exact Qef ht (Qai hS) (V.eval hx) (V.eval N) hq (by omega)
end
end Go.A
end
section
namespace Go.Z
open Go.RowKit
section
variable {κ:Type}[DecidableEq κ]{α:Type}
end
section
variable {r:Option Nat}{P:Program}{ops:Array Oper}{Q:Exit->Act->World->Prop}{a:Act}{w:World}{rest:List Oper}{n:Nat}{ds:List Deferred}{l:List (Nat×Value)}{d:Nat}{T:TypeId}{pos:String}{af:Array Edge}
variable {κ:Type}[DecidableEq κ]{enc:κ->Value}{kt et tt kt2:TypeId}{t:Ty}{agg:Bool}{F:Nat->Prop}{b:Nat}{m:List (κ×t.den)}
end
end Go.Z
namespace Go.A
open Go.RowKit Go.Z
section
variable {r:Option Nat}{P:Program}{ops:Array Oper}{Q:Exit->Act->World->Prop}{rest lst:List Oper}{C:Cx}{l:List (Nat×Value)}{H:List (Nat×Res)}{d:Nat}{op:Op}{T:TypeId}{pos:String}{af:Array Edge}
variable {κ:Type}[DecidableEq κ]{enc:κ->Value}{kt et tt kt2:TypeId}{t:Ty}{agg:Bool}{b:Nat}{m:List (κ×t.den)}
end
section
variable {r:Option Nat}{P:Program}{ops:Array Oper}{Q:Exit->Act->World->Prop}{rest lst:List Oper}{C:Cx}{l:List (Nat×Value)}{H:List (Nat×Res)}{d:Nat}{op:Op}{T T2:TypeId}{pos pos2:String}{af af2:Array Edge}
end
end Go.A
end
section
namespace Go.Z
open Go.RowKit
section
variable {r:Option Nat}{P:Program}{ops:Array Oper}{Q:Exit->Act->World->Prop}{a:Act}{w:World}{rest:List Oper}{n:Nat}{ds:List Deferred}{l:List (Nat×Value)}{d:Nat}{T:TypeId}{pos:String}{af:Array Edge}
end
end Go.Z
namespace Go.A
open Go.RowKit Go.Z
def pn {α:Type}(A:Option Addr)(xs:List α):Prop:=A.isNone=xs.isEmpty/\xs.length<=1
section
variable {P:Program}{a:Act}{w:World}{d:Option Tmp}{T tt ty e:TypeId}{pos:String}{af:Array Edge}{n:Nat}{ds:List Deferred}{l:List (Nat×Value)}{x y:Operand}{A:Option Addr}
end
section
variable {C:Cx}{l:List (Nat×Value)}{H:List (Nat×Res)}{X:Act->World->Prop}
end
section
variable {r:Option Nat}{P:Program}{ops:Array Oper}{Q:Exit->Act->World->Prop}{rest lst:List Oper}{C:Cx}{l:List (Nat×Value)}{H:List (Nat×Res)}{d:Nat}{T:TypeId}{pos:String}{af:Array Edge}
end
section
variable {r:Option Nat}{P:Program}{ops:Array Oper}{Q:Exit->Act->World->Prop}{rest lst:List Oper}{C:Cx}{l:List (Nat×Value)}{H:List (Nat×Res)}{d:Nat}{T:TypeId}{pos:String}{af:Array Edge}
end
end Go.A
end
section
namespace Go.A
open Go.RowKit Go.Z
def sm {α β:Type}(r:Int ⊕ α)(k:α->Option (Int ⊕ β)):Option (Int ⊕ β):=match r with
 | .inl e=>some (.inl e)
 | .inr x=>k x
def EZ {α:Type}(r:Int ⊕ α):Int->Prop:=λe=>r=.inl e/\IntKind.i64.has e
section
variable {α β:Type}{r:Int ⊕ α}{k:α->Option (Int ⊕ β)}{r0:Int ⊕ β}{x:α}{e:Int}
def sm_l (h:sm r k=some r0): ∀x,EZ r x->EZ r0 x:=λx ⟨L,N⟩=>⟨by subst L;exact(Option.some.inj h).symm,N⟩
def sm_r (h:sm (.inr x) k=some r0):k x=some r0:=h
end
def YP (pv:Int->Value)(w0:World)(S:List Nat)(F:Nat->Prop)(R:Value->List (Nat×Res)->Prop)(E:Int->Prop):Ending->World->Prop:=λe w'=>
 (∃v H',e=.returned v/\R v H'/\Hp ⟨0,[],w0,S,F⟩ H' w')\/∃x,e=.panicked [{v:=pv x,recovered:=false}]/\E x/\Ch S w0 w'
def Cp (P:Program)(pv:Int->Value)(f:FuncId)(vs:List Value)(H:List (Nat×Res))(S:List Nat)(R:Value->List (Nat×Res)->Prop)(E:Int->Prop):Prop:=
 ∀(w:World) (F:Nat->Prop),Hp ⟨0,[],w,S,F⟩ H w->Calls P f vs.toArray w (YP pv w S F R E)
def Cp.enter {P:Program}{pv:Int->Value}{f:FuncId}{fn:Func}{c:Code}{vs:List Value}{H:List (Nat×Res)}{n:Nat}{S:List Nat}{R:Value->List (Nat×Res)->Prop}{E:Int->Prop}(O:P.funcs[f]?=some fn)(U:fn.body=some c)(V:fn.ntmps=n)(W:Nat.ble vs.length n=true)
  (h: ∀w F,AX none P (bodyPost P fn (YP pv w S F R E)) [] c ⟨n,[],w,S,F⟩ (argl vs 0) H):Cp P pv f vs H S R E:=λw F L=>
 Z.enter O U V (Qn W) λa N=>h w F a w N ⟨L.ch,L.hold,L.bnd,L.dis,L.ref⟩
section
variable {r:Option Nat}{P:Program}{K:List Kx}{l:List (Nat×Value)}{H:List (Nat×Res)}{pv:Int->Value}{E:Int->Prop}
def AX.retp {fn:Func}{w0:World}{S:List Nat}{F:Nat->Prop}{n:Nat}{R:Value->List (Nat×Res)->Prop}(ps:List (Nat×Nat))(v:Value)(hres: ∀a w,Fr a n [] l->Hp ⟨n,[],w0,S,F⟩ H w->(results fn a.tmps).run P w=.ok v w)(U:R v (A.ren H ps))(V:nod (ps.map (·.1))=true:=by rfl)(W:nod (ps.map (·.2))=true:=by rfl):
  AX r P (bodyPost P fn (YP pv w0 S F R E)) K .ret ⟨n,[],w0,S,F⟩ l H:=AX.ret0 λa w N O=>by
 have L:=O.ren ps V W;exact Z.retv N (hres a w N O) (.inl ⟨v,_,rfl,U,⟨L.ch,L.hold,L.bnd,L.dis,L.ref⟩⟩)
def AE.retp {fn:Func}{w0:World}{S:List Nat}{F:Nat->Prop}{n:Nat}{R:Value->List (Nat×Res)->Prop}(ps:List (Nat×Nat))(v:Value)(hres: ∀a w,Fr a n [] l->Hp ⟨n,[],w0,S,F⟩ H w->(results fn a.tmps).run P w=.ok v w)(U:R v (A.ren H ps))(V:nod (ps.map (·.1))=true:=by rfl)(W:nod (ps.map (·.2))=true:=by rfl):
  AE r P (bodyPost P fn (YP pv w0 S F R E)) [] .normal ⟨n,[],w0,S,F⟩ l H:=λa w N O=>by
 have L:=O.ren ps V W;exact Z.endv N (hres a w N O) (.inl ⟨v,_,rfl,U,⟨L.ch,L.hold,L.bnd,L.dis,L.ref⟩⟩)
def PQ (Q:Exit->Act->World->Prop)(pv:Int->Value)(C:Cx)(E:Int->Prop):Prop:=∀x a w,a.defers=C.ds->E x->Ch C.S C.w0 w->Q (.panic [{v:=pv x,recovered:=false}]) a w
def kont_pan {Y:Exit->Act->World->Prop}{a:Act}{w:World}{c:List PanicEntry}: ∀{K:List Kx},Y (.panic c) a w->kont r P Y K (.panic c) a w
 | [],h=>h
 | .b _::K,h=>kont_pan (K:=K) h
 | .c _::K,h=>kont_pan (K:=K) h
 | .m _::K,h=>kont_pan (K:=K) h
 | .s::K,h=>kont_pan (K:=K) h
def pq_kont {fn:Func}{w0:World}{S:List Nat}{F:Nat->Prop}{n:Nat}{R:Value->List (Nat×Res)->Prop}:PQ (kont r P (bodyPost P fn (YP pv w0 S F R E)) K) pv ⟨n,[],w0,S,F⟩ E:=λx a w L N O=>
 kont_pan ⟨L,.inr ⟨x,rfl,N,O⟩⟩
end
def hp_pan {C:Cx}{H:List (Nat×Res)}{w w':World}{ms:List (Nat×Nat)}{js:List Nat}(L:Hp C H w)(N:Ch (blks H ms) w w')(O:hng (ms.map (·.2)) js H=true):Hp C (kld js H (ms.map (·.2))) w':=by
 have U:Hp ⟨0,[],w,blks H ms,Fh C H⟩ [] w':=⟨N,λk r h=>(by cases h),λk b ⟨r,h,_⟩=>(by cases h),λk k' b ⟨r,h,_⟩=>(by cases h),λk r j h=>by cases h⟩;exact(L.back (n:=0) U rfl rfl).ext (hk_kld O)
section
variable {r:Option Nat}{P:Program}{ops:Array Oper}{Q:Exit->Act->World->Prop}{rest:List Oper}{C:Cx}{l:List (Nat×Value)}{H:List (Nat×Res)}{d:Nat}{T:TypeId}{pos:String}{af:Array Edge}{pv:Int->Value}
def AL.callP (n:Nat)(js:List Nat){f:FuncId}{c:Operand}{xs:List Operand}{vs vs' first cap:List Value}{ts:Array TypeId}{H0:List (Nat×Res)}{ms:List (Nat×Nat)}{ls:List Nat}{S:List Nat}{R:Value->List (Nat×Res)->Prop}{E:Int->Prop}
  (N: ∀args w,(callFunc f args).run P w=.ok (.enter f args) w) (O:Cp P pv f vs' H0 S R E) (hs:Sub H H0 ms ls)
  (hp: ∀x,E x->∀a w,Fr a C.n C.ds l->Hp C (kld js H (ms.map (·.2))) w->Q (.panic [{v:=pv x,recovered:=false}]) a w)
  (h: ∀v H',R v H'->(outs H'&&frs n H H')=true/\AL r P ops Q rest C ((d,v)::l) (hcat (sft n H') (kld js H (ms.map (·.2)))))
  (hc:ev l c=some (.func (.func f) first.toArray cap.toArray):=by rfl) (hx:evs l xs=some vs:=by rfl) (hv:first++vs++cap=vs':=by rfl) (hS:blks H ms=S:=by rfl) (h1:nod (H0.map (·.1))=true:=by rfl) (h2:nod (ms.map (·.2))=true:=by rfl) (h3:ls.all (λk=> !(ms.map (·.2)).any (Nat.beq k))=true:=by rfl) (hd:Nat.ble (d+1) C.n=true:=by rfl) (hj:hng (ms.map (·.2)) js H=true:=by kernel_rfl):
  AL r P ops Q (⟨some d,.call {callee:=.value c,args:=xs.toArray,argTypes:=ts},T,pos,af,none⟩::rest) C l H:=λa w U V=>by
 subst hS;subst hv;refine Z.call U hd (r_callv N U (first:=first) (cap:=cap) (vs:=vs) (xs:=xs) hc hx) (O w (Fh C H) (hs.hp V h1 h2 h3)) λe w' L=>?_;rcases L with⟨v,H',L,hR,hh'⟩|⟨x,L,hE,W⟩
 refine .inl ⟨v,L,λa' hf'=>?_⟩;obtain⟨h4,h5⟩:=h v H' hR;rw[Qm]at h4;exact h5 a' w' hf' ((V.back hh' h4.1 h4.2).ext (Qdu (hk_kld hj)));exact .inr ⟨_,L,hp x hE a w' U (hp_pan V W hj)⟩
def AL.callp (n:Nat)(js:List Nat){f:FuncId}{c:Operand}{xs:List Operand}{vs vs' first cap:List Value}{ts:Array TypeId}{H0:List (Nat×Res)}{ms:List (Nat×Nat)}{ls:List Nat}{S:List Nat}{R:Value->List (Nat×Res)->Prop}{E E':Int->Prop}
  (L: ∀args w,(callFunc f args).run P w=.ok (.enter f args) w) (N:Cp P pv f vs' H0 S R E) (U:Sub H H0 ms ls) (hq:PQ Q pv C E') (V: ∀x,E x->E' x)
  (h: ∀v H',R v H'->(outs H'&&frs n H H')=true/\AL r P ops Q rest C ((d,v)::l) (hcat (sft n H') (kld js H (ms.map (·.2)))))
  (W:ev l c=some (.func (.func f) first.toArray cap.toArray):=by rfl) (O:evs l xs=some vs:=by rfl) (hv:first++vs++cap=vs':=by rfl) (hS:blks H ms=S:=by rfl) (h1:nod (H0.map (·.1))=true:=by rfl) (h2:nod (ms.map (·.2))=true:=by rfl) (h3:ls.all (λk=> !(ms.map (·.2)).any (Nat.beq k))=true:=by rfl) (hd:Nat.ble (d+1) C.n=true:=by rfl) (hj:hng (ms.map (·.2)) js H=true:=by kernel_rfl):
  AL r P ops Q (⟨some d,.call {callee:=.value c,args:=xs.toArray,argTypes:=ts},T,pos,af,none⟩::rest) C l H:=
 AL.callP n js L N U (λx O a w hf hh=>hq x a w hf.defs (V x O) hh.ch) h W O hv hS h1 h2 h3 hd hj
def AL.pan {E:Int->Prop}{dd:Option Tmp}{x:Operand}{e:Int}{t:TypeId}{u:Value}(hq:PQ Q pv C E)(N:E e)(O:ev l x=some (pv e):=by rfl)(U:pv e=.iface t u:=by rfl):
  AL r P ops Q (⟨dd,.panic x,T,pos,af,none⟩::rest) C l H:=λa w L V=>by
 refine wpListIn_plain rfl λK hK=>⟨λ_ _=>trivial,?_⟩;have W:(Oper.semAt (FW r).round a.eval ⟨dd,.panic x,T,pos,af,none⟩)=execOp a.eval ⟨dd,.panic x,T,pos,af,none⟩:=Oper.semAt_eq _ _ _ (λc h=>by cases h);have h1:(execOp a.eval ⟨dd,.panic x,T,pos,af,none⟩).run P w=.halt (.panic (pv e)) w:=by
  simp[execOp,L.eval O,U,run_panic_iface]
 rw[W,h1];exact hq e a w L.defs N V.ch
end
section
variable {C:Cx}{l:List (Nat×Value)}{H:List (Nat×Res)}{X:Act->World->Prop}
end
section
variable {r:Option Nat}{P:Program}{ops:Array Oper}{Q:Exit->Act->World->Prop}{rest lst:List Oper}{C:Cx}{l:List (Nat×Value)}{H:List (Nat×Res)}{d:Nat}{T:TypeId}{pos:String}{af:Array Edge}
end
def mk_le {xs:List UInt8}(h:xs.length<=maxLen):(ByteArray.mk xs.toArray).size<=maxLen:=by simpa[ByteArray.size] using h
def b8 (x:Int):UInt8:=UInt8.ofNat (x%256).toNat
def b8_wrap (x:Int):IntKind.u8.wrap x=((b8 x).toNat:Int):=by
 have O:=Int.emod_nonneg x (show(256:Int)≠0 by decide);have U:=Int.emod_lt_of_pos x (show(0:Int)<256 by decide);have L:IntKind.u8.wrap x=x%256:=by simp[IntKind.wrap,IntKind.bits,IntKind.signed]
 have N:(b8 x).toNat=(x%256).toNat:=by
  unfold b8;rw[UInt8.toNat_ofNat'];omega
 rw[L,N];omega
def Fz (fz:Nat×Nat)(n:Nat):Prop:=∀j,j<n->¬(fz.1<=j/\j<fz.2)
def Bs (e:TypeId)(c:Nat)(xs:List UInt8):Obj->Prop:=λo=>∃(cur:Array Value) (fz:Nat×Nat),o=.cells cur e fz/\Fz fz c/\cur.size=c/\c<=maxLen/\xs.length<=c/\∀(j:Nat) (b:UInt8),xs[j]?=some b->cur[j]?=some (.int .u8 (b.toNat:Int))
section
variable {r:Option Nat}{P:Program}{ops:Array Oper}{Q:Exit->Act->World->Prop}{rest:List Oper}{C:Cx}{l:List (Nat×Value)}{H:List (Nat×Res)}{d:Nat}{T:TypeId}{pos:String}{af:Array Edge}
def AL.cvt {src dst e:TypeId}{x:Operand}{A:Option Addr}{c n:Nat}{xs:List UInt8}{kp':(Nat->Prop)->Prop}(hrow: ∀w,Hp C H w->∃G:Nat->Prop,Row .byte w (Fh C H) G A c xs/\kp' G)(hlen:n=xs.length)(h:AL r P ops Q rest C ((d,.string ⟨xs.toArray⟩)::l) H)
  (N:ev l x=some (.slice A n c):=by rfl) (O:P.underlying src=some (.slice e):=by rfl) (U:P.underlying e=some (.int .u8):=by rfl) (V:P.underlying dst=some .string:=by rfl) (hd:Nat.ble (d+1) C.n=true:=by rfl):
  AL r P ops Q (⟨some d,.convert src dst x,T,pos,af,none⟩::rest) C l H:=λa w L W=>by
 subst hlen;obtain⟨G,hR,_⟩:=hrow w W;refine Z.val L hd ?_ λa' hf'=>h a' w hf' W;obtain⟨cells,p1,p2,p3,p4⟩:=hR.cells;rcases p3 with h0|⟨ad,rfl,hcell⟩
 have:xs=[]:=Qt h0;subst this;have hl:(execOp a.eval ⟨some d,.convert src dst x,T,pos,af,none⟩).run P w=.ok (.value (.string ⟨([]:List UInt8).toArray⟩)) w:=by
  have hrep:(Ty.slice .byte).rep w no [.slice A 0 c] []:=⟨A,c,[],rfl,Xe _,hR.2.1,rfl,.inl rfl,λi x h=>by simp at h⟩;exact r_b2s O U V (L.eval N) hrep
 exact hl;have:=run_convert_bytes_back (P:=P) w src dst e ad c xs O U V λj hj=>by
  refine hcell j _ ?_;have h4:=p4 j _ (Qf hj);have h5:(cells.drop (j*1)).take 1=[.int .u8 (xs[j].toNat:Int)]:=h4;rw[Xc]at h5;have h6:((cells.drop j).take 1)[0]?=some (.int .u8 (xs[j].toNat:Int)):=by rw[h5];rfl
  rwa[Qu (by omega),Qv,Xq]at h6
 simp[execOp,L.eval N,this]
end
end Go.A
end
section
namespace Go.A
open Go.RowKit Go.Z Go.Shelf Go.Proofs
def Hem.bh {r:Option Nat}{P:Program}{ops:Array Oper}{Q:Exit->Act->World->Prop}{S S':World->Prop}{m m':Nat}: ∀(f:Nat) (li:Array Bool) (a:Act) (w:World),gn ops li m=true->Hem r P ops Q S' m' f li a w->Hem r P ops Q S m f li a w
 |0,_,_,_,_,h=>h
 |f+1,li,a,w,L,h=>⟨h.1,λi O=>wpOpIn_mono (λa' w' h'=>by
   have hg':gn ops (li.setIfInBounds i true) m=true:=by
    cases hq:gn ops (li.setIfInBounds i true) m with
    |true=>rfl
    |false=>rw[Qdn hq]at L;cases L
   exact⟨λN=>(by rw[hg']at N;cases N),Hem.bh f _ a' w' hg' h'.2⟩) (h.2 i O)⟩
def AH.bh {r:Option Nat}{P:Program}{ops:Array Oper}{Q:Exit->Act->World->Prop}{Hq:List (Nat×Res)}{m f:Nat}{li:List Bool}{C:Cx}{l:List (Nat×Value)}{H:List (Nat×Res)}(m':Nat)(h:AH r P ops Q [] m' f li C l H)(L:gn ops li.toArray m=true:=by kernel_rfl):AH r P ops Q Hq m f li C l H:=λa w N O=>
 Hem.bh _ _ a w L (h a w N O)
section
variable {r:Option Nat}{P:Program}{Q:Exit->Act->World->Prop}{C:Cx}{l:List (Nat×Value)}{H:List (Nat×Res)}{ops:Array Oper}{rest:List Oper}{T:TypeId}{pos:String}{af:Array Edge}{d:Nat}
end
end Go.A
end
section
namespace Go.Z
open Go.RowKit Go.Lib
section
variable {P:Program}{a:Act}{w:World}{d:Option Tmp}{T:TypeId}{pos:String}{af:Array Edge}{gd:Option (Nat×Bool)}
end
end Go.Z
namespace Go.A
open Go.RowKit Go.Z
def arr4 {τ:Type}{a b c d y:τ}{i:Int}{Q:Int->Prop}(h:ix [a,b,c,d] i=some y)(L:Q 0)(N:Q 1)(O:Q 2)(U:Q 3):Q i:=by
 obtain⟨p,q⟩:=o_bT h;simp only[Q5,Qo]at q;have:i=0\/i=1\/i=2\/i=3:=by omega
 rcases this with rfl|rfl|rfl|rfl<;>assumption
def ite_has {k:IntKind}{p:Prop}[Decidable p]{x y:Int}(L:k.has x)(N:k.has y):k.has (if p then x else y):=by split<;>assumption
section
variable {r:Option Nat}{P:Program}{ops:Array Oper}{Q:Exit->Act->World->Prop}{rest lst:List Oper}{C:Cx}{l:List (Nat×Value)}{H:List (Nat×Res)}{d:Nat}{T:TypeId}{pos:String}{af:Array Edge}
def AL.stb (k:Nat)(js:List Nat){τ:Type}{vals:List τ}{v0:τ}{t bt:TypeId}{x y:Operand}{g o:Nat}{i:Int}{cs cs':List Value}{v:Value}(hi:ix vals i=some v0)(hc:cs'=cs.set (o+i.toNat*1) v)
  (h:AL r P ops Q rest C l ((k,.blk g bt cs')::ded js H))
  (O:hk H k=some (.blk g bt cs):=by rfl) (hx:ev l x=some (.pointer (some ⟨g,o+i.toNat*1,none⟩)):=by rfl) (hy:ev l y=some v:=by rfl) (hS:szB P t=some 1:=by kernel_rfl)
  (hv:v.cells=[v].toArray:=by rfl) (W:Nat.ble (o+vals.length) cs.length=true:=by rfl) (h1:v.oneCell'=true:=by rfl) (U:hng [k] js H=true:=by kernel_rfl):
  AL r P ops Q (⟨none,.store t x y,T,pos,af,none⟩::rest) C l H:=λa w hf hh=>by
 obtain⟨p,q⟩:=o_bT hi;have W:=Qn W;have N:o+i.toNat*1<cs.length:=by omega
 refine Z.st_store (new:=[v]) (cs':=cs') hf (hh.hold k _ O) hx hy (Qai hS) hv rfl (Nat.ble_eq_true_of_le N) (λu hu=>by simp at hu;subst hu;exact h1) ?_ λw' a' hs hb' V hf'=>
  h a' w' hf' (Hp.dd (hh.upd V (λb L=>⟨_,O,L⟩) (λb L=>.inl ⟨_,O,L⟩) (λj U=>by cases U) λ_ _ _ _ _ _ _=>hb') U)
 rw[hc,List.set_eq_take_append_cons_drop,Qe N,Qh];rfl
def Row.drop {t:Ty}{w:World}{F G:Nat->Prop}{A:Option Addr}{c u:Nat}{xs:List t.den}(h:Row t w F G A c xs)(hu:u<=xs.length):Row t w F G (cutA A c u t.size) (c-u) (xs.drop u):=by
 obtain⟨h2,h3,cells,U,L,h6⟩:=h;refine⟨by rw[Qk];omega,by omega,cells.drop (u*t.size),by rw[Qk,Qk,U,Nat.sub_mul],?_,λi x N=>?_⟩;rw[Qk];by_cases V:xs.length-u=0;exact .inl V;rcases L with L|⟨b,o,rfl,W,hc⟩
 omega;refine .inr ⟨b,o+u*t.size,by unfold cutA;rw[Qc (by omega),W1,Addr.add_lit],W,λj v O=>?_⟩;rw[Qv]at O;rw[Wn];exact hc _ v O;rw[Qv]at N;rw[Q9,<-Nat.add_mul];exact h6 _ x N
end
section
variable {C:Cx}{l:List (Nat×Value)}{H:List (Nat×Res)}{P:Program}
def cutpl {X:Act->World->Prop}(k kn:Nat){t:Ty}{A:Option Addr}{c:Nat}{xs:List t.den}(u:Nat)(V:u<=xs.length)
  (h: ∀A' c',A'=cutA A c u t.size->c'=c-u->∀a w,Fr a C.n C.ds l->Hp C ((kn,.sh (.slice t) [.slice A' (xs.drop u).length c'] (xs.drop u))::H) w->X a w)
  (N:hk H k=some (.sh (.slice t) [.slice A xs.length c] xs):=by rfl) (W:hk H kn=none:=by kernel_rfl): ∀a w,Fr a C.n C.ds l->Hp C H w->X a w:=λa w hf O=>by
 have U:(Ty.slice t).rep w (Fh C H) [.slice A xs.length c] xs:=O.hold k _ N;have hlen:=rep_slice_len U;have hlen2:(xs.drop u).length=xs.length-u:=by rw[Qk]
 have L:(Ty.slice t).rep w (Fh C H) [.slice (cutA A c u t.size) (xs.length-u) (c-u)] (xs.drop u):=by
  refine rep_drop U V (by omega) (by omega) λhlt ad hA=>?_;unfold cutA;rw[Qc (by omega),hA];rfl
 rw[<-hlen2]at L;exact h _ _ rfl rfl a w hf (O.add W rfl (λj hj=>by cases hj) (Qal _ L))
def r_cutl (k:Nat){a:Act}{w:World}{t:Ty}{tt e:TypeId}{x lo:Operand}{A A':Option Addr}{c c':Nat}{xs:List t.den}{k1:IntKind}{p:Int}{u:Nat}{d:Option Tmp}{T:TypeId}{pos:String}{af:Array Edge}{gd:Option (Nat×Bool)}(N:Fr a C.n C.ds l)(hh:Hp C H w)
  (hp:p=(u:Int)) (O:u<=xs.length) (U:A'=cutA A c u t.size) (V:c'=c-u)
  (W:hk H k=some (.sh (.slice t) [.slice A xs.length c] xs):=by rfl) (hx:ev l x=some (.slice A xs.length c):=by rfl) (L:ev l lo=some (.int k1 p):=by rfl) (hS:szB P e=some t.size:=by kernel_rfl)
  (ht:P.underlying tt=some (.slice e):=by rfl):(execOp a.eval ⟨d,.slice tt x (some lo) none none,T,pos,af,gd⟩).run P w=.ok (.value (.slice A' (xs.drop u).length c')) w:=by
 subst U;subst V;rw[Qk];exact r_slice_l ht (Qai hS) (N.eval hx) (N.eval L) hp O
end
end Go.A
end
section
set_option linter.tactic.unusedName false
namespace Go.Dr
open Go
def R {α:Type}(n:Nat):Result α->Prop
 | .ok _ w=>n<=w.drawn
 | .halt _ w=>n<=w.drawn
def ask {α:Type}: ∀(a:Ask α) (w:World),w.drawn<=(w.ask a).2.drawn
 | .done a,w=>Q4 _
 | .ask what range k,w=>by
  unfold World.ask;dsimp only;split;exact ask _ w;exact Q7 (Nat.le_succ _) (ask _ {w with drawn:=w.drawn+1})
def sys (w:World)(c:Sys):w.drawn<=(w.sys c).2.drawn:=by
 unfold World.sys;have h:=ask (Kernel.perform c w.os) w;split;exact Q4 _;rename_i e;rw[e]at h;exact h
def EP {ε α:Type}(P:α->Prop)(x:Except ε α):Prop:=∀a,x=.ok a->P a
def eb {ε α β:Type}{P:β->Prop}{x:Except ε α}{f:α->Except ε β}(h: ∀a,EP P (f a)):EP P (x >>= f):=λb L=>by
 cases x with
 |error e=>cases L
 |ok a=>exact h a b L
def et {α:Type}{P:α->Prop}{e:String}:EP P (MonadExcept.throw e:Except String α):=λ_ h=>by cases h
def ep {ε α:Type}{P:α->Prop}{a:α}(h:P a):EP P (pure a:Except ε α):=λb L=>by injection L with L;subst L;exact h
def vs0 (w:World)(p:Program)(at_:Addr)(u:TypeId)(a:Addr)(v:Value)(b:Bool):EP (λr=>r.1.drawn=w.drawn) (w.viewStore p at_ u a v b):=by
 unfold World.viewStore;dsimp only;repeat' first|exact et|exact ep rfl|(refine eb λ_=>?_)|split|dsimp only
def vs {w w':World}{p:Program}{at_:Addr}{u:TypeId}{a:Addr}{v:Value}{b:Bool}{l:List Addr}(h:w.viewStore p at_ u a v b=.ok (w',l)):w'.drawn=w.drawn:=vs0 w p at_ u a v b _ h
def fs {w w':World}{p:Program}{a:Addr}{v:Value}{b:Bool}{l:List Addr}(h:w.farStore p a v b=.ok (w',l)):w'.drawn=w.drawn:=by
 unfold World.farStore at h;split at h;split at h;rename_i e;injection h with h;subst h;exact vs e
 cases h;cases h
def run {α:Type}(p:Program)(n:Nat): ∀(s:Sem α) (w:World),n<=w.drawn->R n (s.run p w):=by
 intro s;induction s with
 |pure a=>intro w h;exact h
 |load m a k L=>
  intro w h;unfold Sem.run;split;exact L _ w h
  (split)
  exact L _ w h;exact h
 |store m a v k L=>
  intro w h;cases v;all_goals
   unfold Sem.run;first|exact h|skip
  all_goals
   split
   (split)
   exact h;exact L _ h
   (split)
   rename_i e;exact L _ (by rw[fs e];exact h);exact h
 |choose q k L=>
  intro w h;unfold Sem.run;split;exact L _ w h;exact L _ _ (Nat.le_succ_of_le h)
 |sys c k L=>intro w h;unfold Sem.run;exact L _ _ (Q7 h (sys w c))
 |new o k L=>intro w h;unfold Sem.run;exact L _ _ h
 |shape r k L=>intro w h;unfold Sem.run;exact L _ _ h
 |freeze a n k L=>intro w h;unfold Sem.run;refine L _ ?_;unfold World.freeze;((repeat' split)<;>(exact h))
 |frozen a k L=>intro w h;unfold Sem.run;exact L _ _ h
 |getObj r k L=>intro w h;unfold Sem.run;((repeat' split)<;>(first|exact h|exact L _ _ h))
 |setObj r o k L=>intro w h;unfold Sem.run;((repeat' split)<;>(first|exact h|exact L _ h))
 |program k L=>intro w h;unfold Sem.run;exact L _ _ h
 |mark m k L=>intro w h;unfold Sem.run;exact L _ h
 |halt x=>intro w h;exact h
def runT {α:Type}(p:Program)(n:Nat)(s:Sem α)(w:World)(es:Array Event)(h:n<=w.drawn):R n (s.runT p w es).1:=by
 induction s generalizing w es with
 |pure a=>exact h
 |halt x=>exact h
 |choose q k L=>
  unfold Sem.runT;split;exact L _ w _ h;exact L _ _ _ (Nat.le_succ_of_le h)
 |sys c k L=>unfold Sem.runT;exact L _ _ _ (Q7 h (sys w c))
 |freeze a n k L=>unfold Sem.runT;refine L _ _ ?_;unfold World.freeze;((repeat' split)<;>(exact h))
 |store m a v k L=>
  cases v;all_goals
   unfold Sem.runT;first|exact h|skip
  all_goals
   split
   (split)
   exact h;exact L _ _ h
   (split)
   rename_i e;exact L _ _ (by rw[fs e];exact h);exact h
 |_=>
  unfold Sem.runT;repeat' split
  all_goals first|exact h|(rename_i L;exact L _ _ _ h)|(rename_i L;exact L _ _ h)|(rename_i L _;exact L _ _ _ h)|(rename_i L _;exact L _ _ h)|(rename_i L _ _;exact L _ _ _ h)|(rename_i L _ _;exact L _ _ h)|(rename_i L _ _ _;exact L _ _ _ h)|(rename_i L _ _ _;exact L _ _ h)|(rename_i L _ _ _ _;exact L _ _ _ h)|(rename_i L _ _ _ _;exact L _ _ h)|(rename_i L _ _ _ _ _;exact L _ _ _ h)|(rename_i L _ _ _ _ _ _;exact L _ _ _ h)
def G (n:Nat):GStep->Prop
 | .go _ w _| .comm _ _ _ _ w _| .spawn _ _ w _| .count _ w _| .timer _ _ w _| .alone _ _ w _| .newcoro _ _ _ w _| .coroswitch _ _ _ w _| .collect _ w _| .watch _ w _=>n<=w.drawn
 | .ended _ _ _=>True
def after {n:Nat}{es:Array Event}{g:GStep}(h:G n g):G n (g.after es):=by cases g<;>exact h
variable {p:Program}{n:Nat}{w:World}
def ro {α:Type}{s:Sem α}{v:α}{w':World}(e:s.run p w=.ok v w')(h:n<=w.drawn):n<=w'.drawn:=by have:=run p n s w h;rw[e]at this;exact this
def rh {α:Type}{s:Sem α}{v:Halt}{w':World}(e:s.run p w=.halt v w')(h:n<=w.drawn):n<=w'.drawn:=by have:=run p n s w h;rw[e]at this;exact this
def gi {c:Prop}[Decidable c]{a b:GStep}(L:G n a)(N:G n b):G n (if c then a else b):=by split<;>assumption
def rto {α:Type}{s:Sem α}{v:α}{w':World}{es es':Array Event}(e:s.runT p w es=(.ok v w',es'))(h:n<=w.drawn):n<=w'.drawn:=by have:=runT p n s w es h;rw[e]at this;exact this
def rtr {α:Type}{s:Sem α}{r:Result α}{es es':Array Event}(e:s.runT p w es=(r,es'))(h:n<=w.drawn):R n r:=by have:=runT p n s w es h;rw[e]at this;exact this
def rth {α:Type}{s:Sem α}{v:Halt}{w':World}{es es':Array Event}(e:s.runT p w es=(.halt v w',es'))(h:n<=w.drawn):n<=w'.drawn:=by have:=runT p n s w es h;rw[e]at this;exact this
def endThrow (fr:Frame)(m:String)(h:n<=w.drawn):G n (Go.endThrow fr m w):=h
def endPrinting (fr:Frame)(v:Value)(h:n<=w.drawn):G n (Go.endPrinting p fr v w):=by
 unfold Go.endPrinting;dsimp only;split;exact h;trivial
def endWith (fd:Nat)(t:ByteArray)(o:Outcome):G n (Go.endWith w fd t o):=by
 unfold Go.endWith;dsimp only;((repeat' split)<;>(trivial))
def endFatal (fr:Frame)(cs:List Frame)(d:Option Dying)(m:String)(h:n<=w.drawn):G n (Go.endFatal p fr cs d m w):=by
 unfold Go.endFatal;extract_lets;split;rename_i e;exact ro e h;trivial;trivial
def writeOn (fr:Frame)(d:Dying)(f:Fatal)(h:n<=w.drawn):G n (Go.writeOn p fr d f w):=by
 unfold Go.writeOn;extract_lets;split;trivial
 ·extract_lets
  split;all_goals first|trivial|(rename_i e;exact rto e h)|(rename_i e;exact rth e h)
def die (fr:Frame)(d:Dying)(h:n<=w.drawn):G n (Go.die p fr d w):=by
 unfold Go.die;split;exact writeOn _ _ _ h
 ·(split)
  (split)
  exact h;exact endWith _ _ _
  ·extract_lets N
   split;exact h
   (split)
   rename_i e;exact ro e h;trivial
   ·rename_i t recv name _
    have L:=runT p n (invoke (.fn (.method name) #[]) #[.iface t recv]) w #[] h;split;rename_i r es e;rw[e]at L;refine after ?_;split;all_goals first|trivial|exact L|exact endPrinting _ _ L
   trivial
def doReturn (main:Bool)(fr:Frame)(cs:List Frame)(d:Option Dying)(v:Value)(h:n<=w.drawn):G n (Go.doReturn p main fr cs d v w):=by
 unfold Go.doReturn;repeat' split
 all_goals first|trivial|exact h
def callDeferred (fr:Frame)(cs:List Frame)(dy:Option Dying)(d:Deferred)(h:n<=w.drawn):G n (Go.callDeferred p fr cs dy d w):=by
 unfold Go.callDeferred;refine gi trivial ?_
 ·have L:=runT p n (invoke d.target d.args) w #[] h
  split;rename_i r es e;rw[e]at L;extract_lets;refine after ?_;split;all_goals first|trivial|exact L|exact endFatal _ _ _ _ L|exact endThrow _ _ L|(split<;>first|trivial|exact L)
def unwind (main:Bool)(fr:Frame)(cs:List Frame)(dy:Option Dying)(h:n<=w.drawn):G n (Go.unwind p main fr cs dy w):=by
 unfold Go.unwind;split;rename_i block _ _ _;have L:=runT p n (Instr.takeDeferred block) w #[] h;split;rename_i r es e;rw[e]at L;refine after ?_;split;exact L;trivial;exact callDeferred _ _ _ _ h
 (split)
 trivial
 (split)
 trivial
 (split)
 exact h
 (split)
 (split)
 exact h
 (split)
 rename_i e;exact ro e h;trivial;trivial
 (split)
 exact endPrinting _ _ h;trivial
 (split)
 exact doReturn _ _ _ _ _ h;rename_i fn _;have L:=runT p n (results fn fr.tmps) w #[] h;split;rename_i r es e;rw[e]at L;refine after ?_;split;exact doReturn _ _ _ _ _ L;trivial;trivial
def early (fr:Frame)(cs:List Frame)(dy:Option Dying)(g:Nat)(h:n<=w.drawn):G n (Go.early p fr cs dy g w):=by
 unfold Go.early;extract_lets refuse notYet;have N: ∀w:World,n<=w.drawn->G n (notYet w):=λw h=>by
  show G n (match w.heap[g]? with|some (.pending c elem)=>_|_=>_);split;exact h;trivial
 split;exact N w h
 ·(split)
  trivial
  ·extract_lets there
   have L: ∀w:World,n<=w.drawn->G n (there w):=λw h=>h;repeat' split
   all_goals first|trivial|exact N w h|exact L w h|(rename_i e;exact N _ (ro e h))|(rename_i e;exact L _ (ro e h))|(rename_i e _;exact L _ (ro e h))|(rename_i _ e;exact L _ (ro e h))
def oe {α:Type}{o:Option α}{a:GStep}{f:α->GStep}(L:G n a)(N: ∀x,G n (f x)):G n (o.elim a f):=by cases o with
 |none=>exact L
 |some x=>exact N x
def app (listen:Bool)(fr:Frame)(cs:List Frame)(dy:Option Dying)(s:Sem Next)(h:n<=w.drawn):G n (Go.stepG.apply p listen fr cs dy s w):=by
 unfold Go.stepG.apply;extract_lets;have L:R n (if listen=true then s.runT p w #[]else(s.run p w,#[])).1:=by
  split;exact runT p n s w #[] h;exact run p n s w h
 split;rename_i r es e;rw[e]at L;extract_lets;refine after ?_;split;all_goals first|trivial|exact L|exact endFatal _ _ _ _ L|exact endThrow _ _ L|exact early _ _ _ _ L|(split<;>first|trivial|exact L|(exact gi (endThrow _ _ L) L))|exact gi (endThrow _ _ L) L
def oper (listen:Bool)(fr:Frame)(cs:List Frame)(dy:Option Dying)(h:n<=w.drawn):G n (Go.stepG.oper p listen fr cs dy w):=by
 unfold Go.stepG.oper;repeat' split
 all_goals first|trivial|exact app _ _ _ _ _ h
def exec (main listen:Bool)(fr:Frame)(cs:List Frame)(dy:Option Dying)(h:n<=w.drawn):G n (Go.stepG.exec p main listen fr cs dy w):=by
 unfold Go.stepG.exec;extract_lets go tgo lost leave;have O: ∀fr w,n<=w.drawn->G n (go fr w):=λ_ _ h=>h;have L: ∀k,G n (tgo k):=λk=>h;have hlost: ∀k,G n (lost k):=λk=>trivial;have hleave: ∀j,G n (leave j):=λj=>by
  unfold leave;split;refine gi h trivial
  (split)
  rename_i r es e;have N:=rtr e h;refine after ?_;split;exact doReturn _ _ _ _ _ N;trivial
 split;case h_1=>exact hleave none
 case h_2=>exact hleave (some .ret)
 case h_13=>exact oe (hleave (some (.exit _))) L
 case h_14=>exact oe (hleave (some (.goto _))) L
 all_goals first
  |exact L _|trivial|exact app _ _ _ _ _ h|exact hlost _
  |(split<;>first|exact L _|exact hlost _)
  |(refine gi (L _) ?_;split<;>first|trivial|(rename_i e;exact ro e h))
  |(refine gi (oper _ _ _ _ h) ?_;exact h)
  |exact oe (hlost _) λ_=>app _ _ _ _ _ h
  |(split;rename_i r es e;have N:=rtr e h;refine after ?_;split<;>first|trivial|exact N|exact app _ _ _ _ _ N)
def stepG (main listen:Bool)(g:Goroutine)(h:n<=w.drawn):G n (Go.stepG p main g w listen):=by
 unfold Go.stepG;split;split;exact die _ _ h;exact exec _ _ _ _ _ h;exact unwind _ _ _ _ h
def S (n:Nat):Stepped->Prop
 | .next m=>n<=m.world.drawn
 | .ended _ _=>True
def si {c:Prop}[Decidable c]{a b:Stepped}(L:S n a)(N:S n b):S n (if c then a else b):=by split<;>assumption
def si1 {α:Type}{c:Prop}[Decidable c]{a b:Stepped×α}(L:S n a.1)(N:S n b.1):S n (if c then a else b).1:=by split<;>assumption
def waitingAt {rest:Rest}{cs:Array CommCase}{w w':World}(h:Go.waitingAt rest cs w=some w'):w'.drawn=w.drawn:=by
 unfold Go.waitingAt at h;split at h;split at h;injection h with h;subst h;rfl
 cases h;injection h with h;subst h;rfl
def comm (rest:Rest)(gs:Array Goroutine)(i:Nat)(g:Goroutine)(cases:Array CommCase)(b:Bool)(sh:CommShape)(h:n<=w.drawn):S n (communicate p rest gs i g cases b sh w).1:=by
 unfold communicate;extract_lets put;refine si1 trivial ?_;extract_lets ready;refine si1 ?_ ?_;refine si1 ?_ h;split;rename_i e;show n<=World.drawn _;rw[waitingAt e];exact h;trivial;extract_lets pick;split;trivial;rename_i e;have L:=ro e h;extract_lets r;split
 (split)
 rename_i N;exact rh N L;trivial;exact L;exact L;extract_lets v buf;split;exact L
 (split)
 rename_i O;have U:=ro O L;exact U;trivial;exact L;exact L;trivial
def look (gs:Array Goroutine)(rest:Rest)(h:n<=w.drawn):S n (Go.look p gs rest w):=by
 unfold Go.look;split
 (split)
 extract_lets;refine si trivial ?_;extract_lets;split;trivial;extract_lets;split;rename_i e;have L:=ro e h;exact L;trivial;trivial;trivial
def drain (w:World)(c:Nat):(Go.drain w c).2.drawn=w.drawn:=by
 unfold Go.drain;split<;>rfl
def retime (m:Machine)(k:Nat)(t:Timer)(a b:Nat):(Go.retime m k t a b).2.world.drawn=m.world.drawn:=by
 unfold Go.retime;split;rename_i e;split at e;rename_i c _;have:=drain m.world c;rw[e]at this;exact this;injection e with _ e;subst e;rfl
def named (m:Machine)(v:Addr)(f:Nat->Timer->Value×Machine){d:Nat}(L: ∀k t,(f k t).2.world.drawn=d){r:Value×Machine}(e:timerOp.named m v f=.ok r):r.2.world.drawn=d:=by
 unfold timerOp.named at e;split at e;injection e with e;subst e;exact L _ _
 cases e
def opened {m m':Machine}{v:Addr}(e:timerOp.opened m v=some m'):m'.world.drawn=m.world.drawn:=by
 unfold timerOp.opened at e;split at e;split at e;injection e with e;subst e;rfl
 cases e;injection e with e;subst e;rfl
def timer (m:Machine)(op:TimerOp){r:Value×Machine}(e:timerOp m op=.ok r):r.2.world.drawn=m.world.drawn:=by
 unfold timerOp at e;split at e;split at e;injection e with e;subst e;rfl
 split at e;split at e;cases e;injection e with e;subst e;rfl
 cases e;exact named _ _ _ (λ_ _=>retime _ _ _ _ _) e;split at e;rename_i N L;exact(named _ _ _ (λ_ _=>retime _ _ _ _ _) e).trans (opened L);cases e;injection e with e;subst e;rfl
def commr {rest:Rest}{gs:Array Goroutine}{i:Nat}{g:Goroutine}{cases:Array CommCase}{b:Bool}{sh:CommShape}{r:Stepped}{ops:Array MemOp}(e:communicate p rest gs i g cases b sh w=(r,ops))(h:n<=w.drawn):S n r:=by have:=comm (p:=p) rest gs i g cases b sh h;rw[e]at this;exact this
def et1 {fr:Frame}{m:String}{g:GStep}(e:Go.endThrow fr m w=g)(h:n<=w.drawn):G n g:=e▸endThrow fr m h
def runM (m:Machine)(i:Nat)(listen:Bool)(h:n<=m.world.drawn):S n (Go.runT p m i listen).1:=by
 unfold Go.runT;extract_lets rest world;split;extract_lets wake fn pos s ops done;have N: ∀r,(done r).1=r:=λ_=>rfl;have L:G n s:=stepG _ _ _ h;clear_value s;split;trivial
 (split)
 rename_i e;exact commr e L;all_goals first|exact L|exact si trivial L|exact look _ _ L|skip
 rw[N];split;exact L
 (split)
 rename_i e;exact et1 e L;trivial;trivial;rw[N];split;rename_i e;have O:=timer _ _ e;exact Q7 L (Nat.le_of_eq O.symm)
 (split)
 rename_i e;exact et1 e L;trivial;trivial;trivial
def serve (m:Machine)(k:Nat)(h:n<=m.world.drawn):S n (Go.serve p m k):=by
 unfold Go.serve;split;trivial;exact h;extract_lets;split;trivial;exact h
def M (n:Nat):Move->Prop
 | .goroutine m _=>n<=m.world.drawn
 | .machine s _=>S n s
def askOn (m:Machine)(h:n<=m.world.drawn):M n (Go.askOn p m):=by
 unfold Go.askOn;extract_lets mono rs ds pick;have hp: ∀m:Machine,n<=m.world.drawn->M n (pick m):=λm h=>by
  simp only[pick];split;trivial;rename_i e;have L:=ro e h;split;exact L
  (split)
  trivial;rename_i U;exact ro U L
 clear_value pick;split;trivial;rename_i e;have L:=ro e h;extract_lets V;clear_value rs;split;exact serve _ _ L;cases rs with
 |nil=>
  dsimp only;split;exact L
  (split)
  exact L;split<;>trivial
 |cons a l=>
  dsimp only;split;exact hp _ L
  (split)
  trivial;rename_i N;exact hp _ (ro N L);rename_i N;have O:=ro N L;exact O;rename_i N;have O:=ro N L;exact hp _ O
def ask2 (m:Machine)(h:n<=m.world.drawn):M n (Go.ask p m):=by
 unfold Go.ask;split
 (split)
 trivial;rename_i e;have L:=look (p:=p) m.gs m.rest (ro e h);split;rename_i N;rw[N]at L;exact askOn _ L;exact L;rename_i e;exact askOn _ (ro e h);exact askOn _ h
def move (m:Machine)(h:n<=m.world.drawn):M n (Go.move p m):=by
 unfold Go.move;split
 (split)
 exact h;trivial
 (split)
 (split)
 exact h;exact ask2 _ h;exact ask2 _ h
def step (m:Machine)(h:n<=m.world.drawn):S n (Go.step p m):=by
 unfold Go.step stepT;have:=move (p:=p) m h;split;rename_i e;rw[e]at this;exact runM _ _ _ this;rename_i e;rw[e]at this;exact this
end Go.Dr
end
section
namespace Go.A
open Go.RowKit Go.Z Go.Shelf Go.Proofs Go.Sort
section
variable {α:Type}
structure OrdOn (lt:α->α->Bool) (X:List α):Prop where
 asym: ∀x∈X,∀y∈X,lt x y=true->lt y x=false
 tri: ∀x∈X,∀y∈X,lt x y=false->lt y x=false->x=y
 trans: ∀x∈X,∀y∈X,∀z∈X,lt x y=true->lt y z=true->lt x z=true
end
end Go.A
end
section
namespace Go.A
open Go.RowKit Go.Z
structure In1 (T t:Ty) where
 get:T.den->List t.den
 set:T.den->List t.den->T.den
 pos:Nat
 hlt:pos<T.size
 hcl: ∀x ys p q,cl T (set x ys) [q]=(cl T x [p]).set pos (.slice q.1 ys.length q.2)
 hgs: ∀x ys,get (set x ys)=ys
 hss: ∀x a b,set (set x a) b=set x b
 hsg: ∀x,set x (get x)=x
 hrep: ∀(w:World) (F:Nat->Prop) x ys p q,T.rep w F (cl T x [p]) x->(Ty.slice t).rep w F [.slice q.1 ys.length q.2] ys->T.rep w F (cl T (set x ys) [q]) (set x ys)
def rblx (h:Option Nat)(As:Lf):List Nat:=match h with
 |none=>rbl As
 |some i=>rbl (As.set i (none,0))
def NR {T t:Ty}(I:In1 T t)(e ei:TypeId)(A:Option Addr)(c:Nat)(xs:List T.den)(As:Lf)(h:Option Nat)(w:World)(F:Nat->Prop):Prop:=
 ∃cells:List Value,w.ownsRow 0 e T.size (.slice A xs.length c) xs.length cells/\(∀u∈cells,u.oneCell'=true)/\As.length=xs.length/\(obl A++rblx h As).Nodup/\(∀b,b∈obl A++rblx h As->b<w.heap.size)/\
  ∀(i:Nat) (x:T.den) (a:Option Addr×Nat),xs[i]?=some x->As[i]?=some a->(cells.drop (i*T.size)).take T.size=cl T x [a]/\T.rep w F (cl T (I.set x []) [(none,0)]) (I.set x [])/\(h≠some i->Own t ei 0 w F a.1 a.2 (I.get x))
section
variable {T t:Ty}{I:In1 T t}{e ei:TypeId}{A:Option Addr}{c:Nat}{xs:List T.den}{As:Lf}{h:Option Nat}
def NR.rep {w:World}{F:Nat->Prop}(W:NR I e ei A c xs As none w F){F':Nat->Prop}(O: ∀b,F b->F' b)(hB: ∀b,b∈rbl As->F' b):Own T e 0 w F' A c xs:=by
 obtain⟨cells,h1,h2,h3,h4,h5,h6⟩:=W;refine⟨cells,h1,h2,λi x U=>?_⟩;have hi:=(Qd.1 U).1;have V:As[i]?=some As[i]:=Qf (by omega);obtain⟨h7,h8,h9⟩:=h6 i x _ U V;have N:=Own.rep (h9 (by simp)) O λb hb=>hB b (mem_rbl V hb);have L:=I.hrep w F' (I.set x []) (I.get x) (none,0) As[i] (Qbh O T h8) N;rw[I.hss,I.hsg]at L;rw[h7];exact L
end
section
variable {C:Cx}{l:List (Nat×Value)}{H:List (Nat×Res)}{X:Act->World->Prop}{T t:Ty}{e ei:TypeId}{A:Option Addr}{c:Nat}{xs:List T.den}{As:Lf}
end
section
variable {r:Option Nat}{P:Program}{ops:Array Oper}{Q:Exit->Act->World->Prop}{rest lst:List Oper}{C:Cx}{l:List (Nat×Value)}{H:List (Nat×Res)}{d:Nat}{T0:TypeId}{pos:String}{af:Array Edge}{T t:Ty}{e ei:TypeId}{A:Option Addr}{c:Nat}{xs ys:List T.den}{As Bs:Lf}
end
section
variable {r:Option Nat}{P:Program}{ops:Array Oper}{Q:Exit->Act->World->Prop}{C:Cx}{l:List (Nat×Value)}{H Hq:List (Nat×Res)}{m f:Nat}{li:List Bool}
end
end Go.A
end
section
namespace Go.Z
open Go.RowKit Go.Lib
section
variable {P:Program}{a:Act}{w:World}{d:Option Tmp}{T:TypeId}{pos:String}{af:Array Edge}{gd:Option (Nat×Bool)}
def r_sliceA_0 {t e:TypeId}{x:Operand}{n sz g o:Nat}(L:P.underlying t=some (.array n e))(N: ∀w,(sizeOf e).run P w=.ok sz w)(O:a.eval x=.pointer (some ⟨g,o,none⟩)):
  (execOp a.eval ⟨d,.slice t x none none none,T,pos,af,gd⟩).run P w=.ok (.value (.slice (some ⟨g,o,none⟩) n n)) w:=by
 by_cases U:n=0<;>simp[execOp,Instr.sliceAt,run_underlying L,O,Instr.sureAddr,Instr.sliceBounds,Instr.sliceBound,asIntOf,N,U,Addr.add]
end
end Go.Z
namespace Go.A
open Go.RowKit Go.Z
section
variable {C:Cx}{H:List (Nat×Res)}{w:World}
def hp_vbk (k o:Nat)(js:List Nat){t:Ty}(xs:List t.den){g:Nat}{e:TypeId}{cs:List Value}(W:Dats H t ((cs.drop o).take (xs.length*t.size)) xs)(N:Hp C H w)(h:hk H k=some (.blk g e cs):=by rfl)(V:Nat.ble xs.length 100000=true:=by rfl)(O:hng [k] js H=true:=by kernel_rfl):
  Hp C ((k,.sh (.slice t) [.slice (some ⟨g,o,none⟩) xs.length xs.length] xs)::ded js H) w:=by
 have hB:Blk w g e cs:=N.hold k _ h;obtain⟨h1,h2,h3⟩:=Dats.all N W;have V:=Qn V;refine Hp.dd (N.upd (S:=[]) (Ch.refl w) (by simp) (by simp[Res.bl]) (λj O=>by cases O) λF B q1 q2 _ _ _=>?_) O;refine⟨some ⟨g,o,none⟩,xs.length,_,rfl,Q4 _,by simp only[maxLen];omega,h1,.inr ⟨g,o,rfl,q2 g ⟨_,h,by simp[Res.bl]⟩ (by simp[Res.bl]),λj u L=>?_⟩,λi y hi=>rep_as (h3 i y hi) λb hb U=>q1 b hb U⟩;rw[hB.cell];rw[List.getElem?_take]at L;split at L;rw[Qv]at L;exact L;cases L
end
section
variable {r:Option Nat}{P:Program}{ops:Array Oper}{Q:Exit->Act->World->Prop}{rest lst:List Oper}{C:Cx}{l:List (Nat×Value)}{H:List (Nat×Res)}{d:Nat}{T:TypeId}{pos:String}{af:Array Edge}
end
section
variable {r:Option Nat}{P:Program}{ops:Array Oper}{Q:Exit->Act->World->Prop}{C:Cx}{l:List (Nat×Value)}{H Hq:List (Nat×Res)}{m f:Nat}{li:List Bool}
end
section
variable {r:Option Nat}{P:Program}{ops:Array Oper}{Q:Exit->Act->World->Prop}{rest lst:List Oper}{C:Cx}{l:List (Nat×Value)}{H:List (Nat×Res)}{d:Nat}{T:TypeId}{pos:String}{af:Array Edge}
end
end Go.A
end
section
namespace Go.A
open Go.RowKit Go.Z
def LV (P:Program)(fn:Func)(R:Ending->World->Prop)(u:FrameMode)(C:Cx)(l:List (Nat×Value))(H:List (Nat×Res)):Prop:=∀a w,Fr a C.n C.ds l->Hp C H w->Leaves P fn a.tmps R a.defers u w
def Ct.enterD {P:Program}{f:FuncId}{fn:Func}{c:Code}{vs:List Value}{H:List (Nat×Res)}{n:Nat}{S:List Nat}{R:Value->List (Nat×Res)->Prop}(O:P.funcs[f]?=some fn)(U:fn.body=some c)(V:fn.ntmps=n)(W:Nat.ble vs.length n=true)
  (h: ∀w F,AX none P (bodyPostD P fn λe w'=>∃v H',e=.returned v/\R v H'/\Hp ⟨0,[],w,S,F⟩ H' w') [] c ⟨n,[],w,S,F⟩ (argl vs 0) H):Ct P f vs H S R:=λw F L=>
 Z.enterDf O U V (Qn W) λa N=>h w F a w N ⟨L.ch,L.hold,L.bnd,L.dis,L.ref⟩
section
variable {r:Option Nat}{P:Program}{K:List Kx}{C:Cx}{l:List (Nat×Value)}{H:List (Nat×Res)}{fn:Func}{R:Ending->World->Prop}
def AX.retL (h:LV P fn R .returning C l H):AX r P (bodyPostD P fn R) K .ret C l H:=AX.ret0 λa w L N=>h a w L N
def panL {c:List PanicEntry}(h:LV P fn R (.panicking c) C l H): ∀a w,Fr a C.n C.ds l->Hp C H w->kont r P (bodyPostD P fn R) K (.panic c) a w:=λa w L N=>kont_pan (h a w L N)
end
section
variable {P:Program}{fn:Func}{n:Nat}{ds:List Deferred}{w0:World}{S:List Nat}{F:Nat->Prop}{l:List (Nat×Value)}{H:List (Nat×Res)}{pv:Int->Value}
def LV.nil {R:Value->List (Nat×Res)->Prop}(ps:List (Nat×Nat))(v:Value)(hres: ∀a w,Fr a n [] l->Hp ⟨n,[],w0,S,F⟩ H w->(results fn a.tmps).run P w=.ok v w)(U:R v (A.ren H ps))(V:nod (ps.map (·.1))=true:=by rfl)(W:nod (ps.map (·.2))=true:=by rfl):
  LV P fn (λe w'=>∃v H',e=.returned v/\R v H'/\Hp ⟨0,[],w0,S,F⟩ H' w') .returning ⟨n,[],w0,S,F⟩ l H:=λa w N O=>by
 have L:=O.ren ps V W;rw[show a.defers=[]from N.defs];exact⟨v,hres a w N O,v,_,rfl,U,⟨L.ch,L.hold,L.bnd,L.dis,L.ref⟩⟩
def LV.consC {f:FuncId}{vs cap:List Value}{R:Ending->World->Prop}{u u':FrameMode}(W:u≠ .run)(N: ∀args w,(callFunc f args).run P w=.ok (.enter f args) w)
  (hD: ∀w,Hp ⟨n,ds,w0,S,F⟩ H w->CallsD P f (vs++cap).toArray u w λe V w'=>(∃v,e=.returned v)/\settle V=u'/\∃H',LV P fn R u' ⟨n,ds,w0,S,F⟩ l H'/\Hp ⟨n,ds,w0,S,F⟩ H' w'):
  LV P fn R u ⟨n,{target:=.fn (.func f) cap.toArray,args:=vs.toArray}::ds,w0,S,F⟩ l H:=λa w O L=>by
 rw[show a.defers={target:=.fn (.func f) cap.toArray,args:=vs.toArray}::ds from O.defs];refine leaves_cons W (by simp[invoke,N]) ((hD w ⟨L.ch,L.hold,L.bnd,L.dis,L.ref⟩).mono λe V w' ⟨⟨v,he⟩,U,H',h,hh'⟩=>?_);subst he;subst U;exact h {a with defers:=ds} w' ⟨O.size,rfl,O.get⟩ hh'
def LV.cons {f:FuncId}{vs:List Value}{R:Ending->World->Prop}{u u':FrameMode}{H':List (Nat×Res)}(W:u≠ .run)(N: ∀args w,(callFunc f args).run P w=.ok (.enter f args) w)
  (hD: ∀w,Hp ⟨n,ds,w0,S,F⟩ H w->CallsD P f vs.toArray u w λe V w'=>(∃v,e=.returned v)/\settle V=u'/\Hp ⟨n,ds,w0,S,F⟩ H' w') (h:LV P fn R u' ⟨n,ds,w0,S,F⟩ l H'):
  LV P fn R u ⟨n,{target:=.fn (.func f) #[],args:=vs.toArray}::ds,w0,S,F⟩ l H:=λa w O L=>by
 rw[show a.defers={target:=.fn (.func f) #[],args:=vs.toArray}::ds from O.defs];refine leaves_cons W (by simp[invoke,N]) ((hD w ⟨L.ch,L.hold,L.bnd,L.dis,L.ref⟩).mono λe V w' ⟨⟨v,he⟩,U,hh'⟩=>?_);subst he;subst U;exact h {a with defers:=ds} w' ⟨O.size,rfl,O.get⟩ hh'
def hp_one {w:World}{g:Nat}{T:TypeId}{cs:List Value}{F:Nat->Prop}(O:Blk w g T cs)(N:g<w.heap.size):Hp ⟨0,[],w,[g],F⟩ [(0,.blk g T cs)] w:=by
 have L: ∀k r,hk [(0,.blk g T cs)] k=some r->k=0/\r=.blk g T cs:=λk r h=>by
  rw[Qaa]at h;split at h;rename_i e;injection h with h;exact⟨e.symm,h.symm⟩
  cases h
 refine⟨Ch.refl w |>.mono (by simp),λk r h=>?_,λk b ⟨r,h,U⟩=>?_,λk k' b ⟨r,h,_⟩ ⟨r',h',_⟩=>by rw[(L k r h).1,(L k' r' h').1],λk r j h V=>?_⟩;obtain⟨rfl,rfl⟩:=L k r h;exact O;obtain⟨rfl,rfl⟩:=L k r h;obtain rfl:b=g:=by simpa[Res.bl] using U
 exact⟨.inr (by simp),N⟩;obtain⟨rfl,rfl⟩:=L k r h;cases V
end
def CtD (P:Program)(f:FuncId)(vs:List Value)(H:List (Nat×Res))(S:List Nat)(R:Value->List (Nat×Res)->Prop):Prop:=
 ∀(w:World) (F:Nat->Prop),Hp ⟨0,[],w,S,F⟩ H w->CallsD P f vs.toArray .returning w λe u' w'=>u'=.returning/\∃v H',e=.returned v/\R v H'/\Hp ⟨0,[],w,S,F⟩ H' w'
def CtD.enter {P:Program}{f:FuncId}{fn:Func}{c:Code}{vs:List Value}{H:List (Nat×Res)}{n:Nat}{S:List Nat}{R:Value->List (Nat×Res)->Prop}(N:P.funcs[f]?=some fn)(O:fn.body=some c)(U:fn.ntmps=n)(V:Nat.ble vs.length n=true)
  (h: ∀w F,AX none P (bodyPost P fn λe w'=>∃v H',e=.returned v/\R v H'/\Hp ⟨0,[],w,S,F⟩ H' w') [] c ⟨n,[],w,S,F⟩ (argl vs 0) H):CtD P f vs H S R:=λw F L=>by
 subst U;refine callsD_of_wp N O (wpIn_wide.1 (h w F _ w ?_ ⟨L.ch,L.hold,L.bnd,L.dis,L.ref⟩));exact Fr.entry vs _ (Qn V)
section
variable {P:Program}{fn:Func}{n:Nat}{ds:List Deferred}{w0:World}{S0:List Nat}{F:Nat->Prop}{l:List (Nat×Value)}{H:List (Nat×Res)}
def LV.call (m:Nat)(js:List Nat){f:FuncId}{vs' first cap:List Value}{H0:List (Nat×Res)}{ms:List (Nat×Nat)}{ls:List Nat}{S:List Nat}{R:Ending->World->Prop}{R':Value->List (Nat×Res)->Prop}
  (L: ∀args w,(callFunc f args).run P w=.ok (.enter f args) w) (N:CtD P f vs' H0 S R') (V:Sub H H0 ms ls)
  (h: ∀v H',R' v H'->(outs H'&&frs m H H')=true/\LV P fn R .returning ⟨n,ds,w0,S0,F⟩ l (hcat (sft m H') (kld js H (ms.map (·.2)))))
  (W:first++cap=vs':=by rfl) (hS:blks H ms=S:=by rfl) (h1:nod (H0.map (·.1))=true:=by rfl) (h2:nod (ms.map (·.2))=true:=by rfl) (h3:ls.all (λk=> !(ms.map (·.2)).any (Nat.beq k))=true:=by rfl) (hj:hng (ms.map (·.2)) js H=true:=by kernel_rfl):
  LV P fn R .returning ⟨n,{target:=.fn (.func f) cap.toArray,args:=first.toArray}::ds,w0,S0,F⟩ l H:=by
 subst hS;subst W;refine LV.consC (by simp) L (λw U=>(N w (Fh ⟨n,ds,w0,S0,F⟩ H) (V.hp U h1 h2 h3)).mono λe u2 w' ⟨hu,v,H',he,hr,hh'⟩=>⟨⟨_,he⟩,by subst hu;rfl,?_⟩);obtain⟨O,h5⟩:=h v H' hr;rw[Qm]at O;exact⟨_,h5,(U.back hh' O.1 O.2).ext (Qdu (hk_kld hj))⟩
end
section
variable {r:Option Nat}{P:Program}{ops:Array Oper}{Q:Exit->Act->World->Prop}{rest:List Oper}{C:Cx}{l:List (Nat×Value)}{H:List (Nat×Res)}{d:Option Tmp}{T:TypeId}{pos:String}{af:Array Edge}
def AL.dfr {f:FuncId}{xs:List Operand}{vs:List Value}{ts:Array TypeId}(h:AL none P ops Q rest ⟨C.n,{target:=.fn (.func f) #[],args:=vs.toArray}::C.ds,C.w0,C.S,C.F⟩ l H)(O:evs l xs=some vs:=by rfl):
  AL none P ops Q (⟨none,.defer {callee:=.value (.func f),args:=xs.toArray,argTypes:=ts},T,pos,af,none⟩::rest) C l H:=λa w N L=>
 Z.defer N (Z.r_defer N O) λa' hf'=>h a' w hf' ⟨L.ch,L.hold,L.bnd,L.dis,L.ref⟩
def AL.dfrC {f:FuncId}{c:Operand}{xs:List Operand}{vs first cap:List Value}{ts:Array TypeId}(h:AL none P ops Q rest ⟨C.n,{target:=.fn (.func f) cap.toArray,args:=(first++vs).toArray}::C.ds,C.w0,C.S,C.F⟩ l H)(O:ev l c=some (.func (.func f) first.toArray cap.toArray):=by rfl)(U:evs l xs=some vs:=by rfl):
  AL none P ops Q (⟨none,.defer {callee:=.value c,args:=xs.toArray,argTypes:=ts},T,pos,af,none⟩::rest) C l H:=λa w N L=>by
 refine Z.defer N (dd:={target:=.fn (.func f) cap.toArray,args:=(first++vs).toArray}) ?_ λa' hf'=>h a' w hf' ⟨L.ch,L.hold,L.bnd,L.dis,L.ref⟩;have V:=N.evals xs U;have W:=N.eval O;simp only[execOp,resolve,V,W];simp[Deferred.ofValue]
end
def CtN (P:Program)(f:FuncId)(vs:List Value)(H:List (Nat×Res))(S:List Nat)(R:Value->List (Nat×Res)->Prop):Prop:=
 ∀(w:World) (F:Nat->Prop),Hp ⟨0,[],w,S,F⟩ H w->CallsD P f vs.toArray .returning w λe u' w'=>u'=.returning/\∃v H',e=.returned v/\R v H'/\Hp ⟨0,[],w,S,F⟩ H' w'
def CtR (P:Program)(pv:Int->Value)(x:Int)(f:FuncId)(vs:List Value)(H:List (Nat×Res))(S:List Nat)(R:Value->List (Nat×Res)->Prop):Prop:=
 ∀(w:World) (F:Nat->Prop),Hp ⟨0,[],w,S,F⟩ H w->CallsD P f vs.toArray (.panicking [{v:=pv x,recovered:=false}]) w λe u' w'=>u'=.panicking [{v:=pv x,recovered:=true}]/\∃v H',e=.returned v/\R v H'/\Hp ⟨0,[],w,S,F⟩ H' w'
section
variable {P:Program}{pv:Int->Value}{x:Int}{f:FuncId}{fn:Func}{c:Code}{vs:List Value}{H:List (Nat×Res)}{m id d:Nat}{T:TypeId}{pos:String}{af:Array Edge}{S:List Nat}{R:Value->List (Nat×Res)->Prop}
def CtN.enter (O:P.funcs[f]?=some fn)(U:fn.body=some (Code.seq (.region id #[⟨some d,.call {callee:=.builtin .recover,args:=#[],argTypes:=#[]},T,pos,af,none⟩] false) c))(V:fn.ntmps=m)(W:Nat.ble vs.length m=true)(hd:Nat.ble (d+1) m=true)
  (h: ∀w F,AX none P (bodyPost P fn λe w'=>∃v H',e=.returned v/\R v H'/\Hp ⟨0,[],w,S,F⟩ H' w') [] c ⟨m,[],w,S,F⟩ ((d,.nilIface)::argl vs 0) H):CtN P f vs H S R:=λw F L=>
 Z.enterRec (Or.inl ⟨rfl,rfl,rfl⟩) O U V (Qn W) hd λa N=>h w F a w N ⟨L.ch,L.hold,L.bnd,L.dis,L.ref⟩
def CtR.enter (O:P.funcs[f]?=some fn)(U:fn.body=some (Code.seq (.region id #[⟨some d,.call {callee:=.builtin .recover,args:=#[],argTypes:=#[]},T,pos,af,none⟩] false) c))(V:fn.ntmps=m)(W:Nat.ble vs.length m=true)(hd:Nat.ble (d+1) m=true)
  (h: ∀w F,AX none P (bodyPost P fn λe w'=>∃v H',e=.returned v/\R v H'/\Hp ⟨0,[],w,S,F⟩ H' w') [] c ⟨m,[],w,S,F⟩ ((d,pv x)::argl vs 0) H):CtR P pv x f vs H S R:=λw F L=>
 Z.enterRec (Or.inr ⟨[],rfl,rfl⟩) O U V (Qn W) hd λa N=>h w F a w N ⟨L.ch,L.hold,L.bnd,L.dis,L.ref⟩
end
section
variable {P:Program}{fn:Func}{n:Nat}{ds:List Deferred}{w0:World}{S0:List Nat}{F:Nat->Prop}{l:List (Nat×Value)}{H:List (Nat×Res)}{pv:Int->Value}
def LV.n0 {f:FuncId}{g:Nat}{R:Ending->World->Prop}{T:TypeId}{N:Int}{kd:IntKind}(k:Nat)(O: ∀args w,(callFunc f args).run P w=.ok (.enter f args) w)
  (U: ∀(g:Nat) (a0:Int),kd.has a0->CtN P f [.pointer (some ⟨g,0,none⟩)] [(0,.blk g T [.int kd a0])] [g] λv H'=>v=.tuple #[]/\H'=[(0,.blk g T [.int kd a0])]) (he:kd.has N) (h:LV P fn R .returning ⟨n,ds,w0,S0,F⟩ l ((k,.blk g T [.int kd N])::ded [] H))
  (L:hk H k=some (.blk g T [.int kd N]):=by rfl) (V:hng [k] [] H=true:=by kernel_rfl):LV P fn R .returning ⟨n,{target:=.fn (.func f) #[],args:=#[.pointer (some ⟨g,0,none⟩)]}::ds,w0,S0,F⟩ l H:=
 LV.cons (vs:=[.pointer (some ⟨g,0,none⟩)]) (by simp) O (λw W=>by
  have hB:Blk w g T [.int kd N]:=W.hold k _ L;have hlt:=(W.bnd k g ⟨_,L,by simp[Res.bl]⟩).2;refine(U g N he w (λ_=>False) (hp_one hB hlt)).mono λe u2 w' ⟨h1,v,H',h2,⟨_,h3⟩,hh'⟩=>⟨⟨_,h2⟩,by subst h1;rfl,?_⟩;subst h3;exact Hp.dd (W.upd (S:=[g]) hh'.ch (λb hb=>⟨_,L,by simpa[Res.bl] using hb⟩) (λb hb=>.inl ⟨_,L,hb⟩) (λj V=>by cases V) λ_ _ _ _ _ _ _=>hh'.hold 0 _ rfl) V) h
def LV.n1 {f:FuncId}{g:Nat}{R:Ending->World->Prop}{T:TypeId}{N x:Int}{kd:IntKind}(k:Nat)(O: ∀args w,(callFunc f args).run P w=.ok (.enter f args) w)
  (U: ∀(g:Nat) (a0 x:Int),kd.has a0->CtR P pv x f [.pointer (some ⟨g,0,none⟩)] [(0,.blk g T [.int kd a0])] [g] λv H'=>v=.tuple #[]/\H'=[(0,.blk g T [.int kd x])]) (he:kd.has N) (h:LV P fn R .returning ⟨n,ds,w0,S0,F⟩ l ((k,.blk g T [.int kd x])::ded [] H))
  (L:hk H k=some (.blk g T [.int kd N]):=by rfl) (V:hng [k] [] H=true:=by kernel_rfl):LV P fn R (.panicking [{v:=pv x,recovered:=false}]) ⟨n,{target:=.fn (.func f) #[],args:=#[.pointer (some ⟨g,0,none⟩)]}::ds,w0,S0,F⟩ l H:=
 LV.cons (vs:=[.pointer (some ⟨g,0,none⟩)]) (by simp) O (λw W=>by
  have hB:Blk w g T [.int kd N]:=W.hold k _ L;have hlt:=(W.bnd k g ⟨_,L,by simp[Res.bl]⟩).2;refine(U g N x he w (λ_=>False) (hp_one hB hlt)).mono λe u2 w' ⟨h1,v,H',h2,⟨_,h3⟩,hh'⟩=>⟨⟨_,h2⟩,by subst h1;rfl,?_⟩;subst h3;exact Hp.dd (W.upd (S:=[g]) hh'.ch (λb hb=>⟨_,L,by simpa[Res.bl] using hb⟩) (λb hb=>.inl ⟨_,L,hb⟩) (λj V=>by cases V) λ_ _ _ _ _ _ _=>hh'.hold 0 _ rfl) V) h
end
section
variable {P:Program}{l:List (Nat×Value)}{a:Act}{w:World}{d:Option Tmp}{T:TypeId}{pos:String}{af:Array Edge}{gd:Option (Nat×Bool)}{n:Nat}{ds:List Deferred}{x:Operand}{v:Value}{t t0:TypeId}
def r_mki {td:TypeDesc}(L:Fr a n ds l)(N:P.underlying t=some td)(O:ev l x=some v:=by rfl)(U:(match td with| .interface _=>false|_=>true)=true:=by rfl):(execOp a.eval ⟨d,.makeInterface t x,T,pos,af,gd⟩).run P w=.ok (.value (.iface t v)) w:=by
 cases td<;>simp_all [execOp,L.eval O,Instr.makeInterface,run_underlying N]
def r_tas {td:TypeDesc}(L:Fr a n ds l)(N:P.underlying t=some td)(O:ev l x=some (.iface t v):=by rfl)(U:(match td with| .interface _=>false|_=>true)=true:=by rfl):(execOp a.eval ⟨d,.typeAssert x t0 t true,T,pos,af,gd⟩).run P w=.ok (.value (.tuple #[v,.bool true])) w:=by
 cases td<;>simp_all [execOp,L.eval O,Instr.typeAssert,run_underlying N]
end
end Go.A
end
section
namespace Go.A
open Go.RowKit Go.Z Go.Lib
section
variable {r:Option Nat}{P:Program}{ops:Array Oper}{Q:Exit->Act->World->Prop}{rest:List Oper}{C:Cx}{l:List (Nat×Value)}{H:List (Nat×Res)}{d:Nat}{T:TypeId}{pos:String}{af:Array Edge}
end
def has_shr {x:Int}{n:Nat}(h:IntKind.u64.has x):IntKind.u64.has (x / 2^n):=by
 simp only[IntKind.has,IntKind.min,IntKind.max]at*;have N:(0:Int)<2^n:=Int.pow_pos (by decide);have L:0<=x:=h.1;refine⟨Int.ediv_nonneg L (Int.le_of_lt N),?_⟩;exact Int.le_trans (Int.ediv_le_self _ L) h.2
def sh8 (i:Int):Prop:=0<=i/\i*256+255<18446744073709551616
instance (i:Int):Decidable (sh8 i):=by unfold sh8;exact inferInstance
def has_or8 {i:Int}(h:sh8 i)(b:UInt8):IntKind.u64.has (i*256+(b.toNat:Int)):=by
 have:=b.toNat_lt;unfold sh8 at h;exact⟨show(0:Int)<=i*256+(b.toNat:Int) by omega,show i*256+(b.toNat:Int)<=(18446744073709551615:Int) by omega⟩
section
variable {P:Program}{l:List (Nat×Value)}{a:Act}{w:World}{d:Option Tmp}{T:TypeId}{pos:String}{af:Array Edge}{gd:Option (Nat×Bool)}{n:Nat}{ds:List Deferred}{tt ty:TypeId}{x y:Operand}{i:Int}
def r_shl8 {k':IntKind}(L:Fr a n ds l)(h:sh8 i)(N:ev l x=some (.int .u64 i):=by rfl)(O:ev l y=some (.int k' 8):=by rfl):(execOp a.eval ⟨d,.binOp .shl tt x y ty,T,pos,af,gd⟩).run P w=.ok (.value (.int .u64 (i*256))) w:=
 Z.r_shl8 (L.eval N) (L.eval O) rfl (Z.u64_in _ (by unfold sh8 at h;omega))
def r_or8 {b:UInt8}(L:Fr a n ds l)(h:sh8 i)(N:ev l x=some (.int .u64 (i*256)):=by rfl)(O:ev l y=some (.int .u64 (IntKind.u64.wrap (b.toNat:Int))):=by rfl):(execOp a.eval ⟨d,.binOp .or tt x y ty,T,pos,af,gd⟩).run P w=.ok (.value (.int .u64 (i*256+(b.toNat:Int)))) w:=by
 have:=b.toNat_lt;unfold sh8 at h;have U:((i.toNat:Nat):Int)=i:=Qs h.1;have:=Z.r_orb (P:=P) (w:=w) (d:=d) (T:=T) (pos:=pos) (af:=af) (gd:=gd) (t:=tt) (ty:=ty) (u:=i.toNat) (b:=b.toNat) (L.eval N) (L.eval O) (by rw[U]) (Z.u64_in _ (by omega)) (by omega) (by omega);rw[this];congr 3;omega
end
def se {α β:Type}(r:Int ⊕ α)(k1:Int->Option β)(k:α->Option β):Option β:=match r with
 | .inl e=>k1 e
 | .inr x=>k x
section
variable {α β:Type}{k1:Int->Option β}{k:α->Option β}{r0:β}{x:α}{e:Int}
def se_r (h:se (.inr x) k1 k=some r0):k x=some r0:=h
def se_l (h:se (.inl e) k1 k=some r0):k1 e=some r0:=h
end
def rep_cap {t:Ty}{w:World}{F:Nat->Prop}{A:Option Addr}{c m:Nat}{xs:List t.den}(h:(Ty.slice t).rep w F [.slice A xs.length c] xs)(N:xs.length<=m)(V:m<=c):(Ty.slice t).rep w F [.slice A xs.length m] xs:=by
 obtain⟨A',c',cells,L,W,h5,h6⟩:=h;injection L with L _
 injection L with O hn U
 subst O;subst U;exact⟨A,m,cells,rfl,N,by omega,h6⟩
def rep_cut3 {t:Ty}{w:World}{F:Nat->Prop}{A:Option Addr}{c u v:Nat}{xs:List t.den}(h:(Ty.slice t).rep w F [.slice A xs.length c] xs)(h1:u<=v)(O:v<=xs.length):(Ty.slice t).rep w F [.slice (cutA A v u t.size) ((xs.take v).drop u).length (v-u)] ((xs.take v).drop u):=by
 have hlen:=rep_slice_len h;have L:(xs.take v).length=v:=by rw[Qj];omega
 have hlen2:((xs.take v).drop u).length=v-u:=by rw[Qk,L]
 rw[hlen2];have U:=Qbi h O;have V:(Ty.slice t).rep w F [.slice A (xs.take v).length c] (xs.take v):=by rw[L];exact U
 have N:=rep_cap (m:=v) V (by omega) (by omega);rw[L]at N;refine rep_drop N (by omega) (by omega) (by omega) λW ad hA=>?_;unfold cutA;rw[Qc (by omega),hA];rfl
section
variable {r:Option Nat}{P:Program}{ops:Array Oper}{Q:Exit->Act->World->Prop}{rest:List Oper}{C:Cx}{l:List (Nat×Value)}{H:List (Nat×Res)}{d:Nat}{T:TypeId}{pos:String}{af:Array Edge}
def AL.cut3 (k kn:Nat){t:Ty}{tt e:TypeId}{x lo hi mx:Operand}{A:Option Addr}{c:Nat}{xs:List t.den}{k1 k2 k3:IntKind}{p q:Int}{u v:Nat}(hp:p=(u:Int))(hq:q=(v:Int))(h1:u<=v)(h2:v<=xs.length)
  (h: ∀A' c',AL r P ops Q rest C ((d,.slice A' ((xs.take v).drop u).length c')::l) ((kn,.sh (.slice t) [.slice A' ((xs.take v).drop u).length c'] ((xs.take v).drop u))::H))
  (O:hk H k=some (.sh (.slice t) [.slice A xs.length c] xs):=by rfl) (hx:ev l x=some (.slice A xs.length c):=by rfl) (U:ev l lo=some (.int k1 p):=by rfl) (V:ev l hi=some (.int k2 q):=by rfl) (W:ev l mx=some (.int k3 q):=by rfl) (hS:szB P e=some t.size:=by kernel_rfl)
  (ht:P.underlying tt=some (.slice e):=by rfl) (hd:Nat.ble (d+1) C.n=true:=by rfl) (hn:hk H kn=none:=by kernel_rfl):AL r P ops Q (⟨some d,.slice tt x (some lo) (some hi) (some mx),T,pos,af,none⟩::rest) C l H:=λa w N hh=>by
 have hr:(Ty.slice t).rep w (Fh C H) [.slice A xs.length c] xs:=hh.hold k _ O;have hlen:=rep_slice_len hr;have hlen2:((xs.take v).drop u).length=v-u:=by rw[Qk,Qj];omega
 have L:=rep_cut3 hr h1 h2;refine Z.val (v:=.slice (cutA A v u t.size) (v-u) (v-u)) N hd (Qcw ht (Qai hS) (N.eval hx) (N.eval U) (N.eval V) (N.eval W) hp hq hq h1 (Q4 _) (by omega)) λa' hf'=>?_;rw[hlen2]at L;rw[<-hlen2]at L hf';exact h _ _ a' w hf' (hh.add hn rfl (λj hj=>by cases hj) (Qal _ L))
def AL.cuth3 (k kn:Nat){t:Ty}{tt e:TypeId}{x hi mx:Operand}{A:Option Addr}{c:Nat}{xs:List t.den}{k2 k3:IntKind}{q:Int}{v:Nat}(hq:q=(v:Int))(h2:v<=xs.length)
  (h: ∀c',AL r P ops Q rest C ((d,.slice A (xs.take v).length c')::l) ((kn,.sh (.slice t) [.slice A (xs.take v).length c'] (xs.take v))::H))
  (O:hk H k=some (.sh (.slice t) [.slice A xs.length c] xs):=by rfl) (hx:ev l x=some (.slice A xs.length c):=by rfl) (U:ev l hi=some (.int k2 q):=by rfl) (V:ev l mx=some (.int k3 q):=by rfl) (hS:szB P e=some t.size:=by kernel_rfl)
  (ht:P.underlying tt=some (.slice e):=by rfl) (hd:Nat.ble (d+1) C.n=true:=by rfl) (hn:hk H kn=none:=by kernel_rfl):AL r P ops Q (⟨some d,.slice tt x none (some hi) (some mx),T,pos,af,none⟩::rest) C l H:=λa w N hh=>by
 have hr:(Ty.slice t).rep w (Fh C H) [.slice A xs.length c] xs:=hh.hold k _ O;have hlen:=rep_slice_len hr;have L:(xs.take v).length=v:=by rw[Qj];omega
 have W:(Ty.slice t).rep w (Fh C H) [.slice A (xs.take v).length v] (xs.take v):=rep_cap (by rw[L];exact Qbi hr h2) (by omega) (by omega);refine Z.val (v:=.slice A v v) N hd (r_slice_hm ht (Qai hS) (N.eval hx) (N.eval U) (N.eval V) hq hq (Q4 _) (by omega)) λa' hf'=>?_;have e1:Value.slice A v v=.slice A (xs.take v).length v:=by rw[L]
 rw[e1]at hf';exact h _ a' w hf' (hh.add hn rfl (λj hj=>by cases hj) (Qal _ W))
def AL.apt (k:Nat)(js:List Nat){tt tu e:TypeId}{x y:Operand}{i:TypeInfo}{A:Option Addr}{c n:Nat}{xs:List UInt8}{s:ByteArray}(hsz:xs.length+s.size<=140737488355328)
  (hinf:P.info? e=some i/\i.zero=some (.int .u8 0)/\i.size=1/\i.bytes=1)
  (h: ∀A' c',AL r P ops Q rest C ((d,.slice A' (xs++s.data.toList).length c')::l) ((k,.own .byte e A' c' (xs++s.data.toList))::ded js H))
  (U:hk H k=some (.own .byte e A c xs):=by rfl) (hx:ev l x=some (.slice A n c):=by rfl) (hy:ev l y=some (.string s):=by rfl) (hlen:n=xs.length:=by rfl)
  (W:P.underlying tt=some (.slice e):=by rfl) (h2:P.underlying tu=some .string:=by rfl) (hd:Nat.ble (d+1) C.n=true:=by rfl) (hj:hng [k] js H=true:=by kernel_rfl):
  AL r P ops Q (⟨some d,.call {callee:=.builtin .append,args:=#[x,y],argTypes:=#[tt,tu]},T,pos,af,none⟩::rest) C l H:=λa w hf hh=>by
 subst hlen;obtain⟨hi,hz,O,V⟩:=hinf;have hO:Own .byte e 0 w (Fh C H) A c xs:=hh.hold k _ U;obtain⟨cells,hrow,o1,o2⟩:=hO;obtain⟨v',w',hrun,h3,h4,_⟩:=run_append_own_string (P:=P) w 0 tt tu T e i W h2 hi hz O V _ xs.length cells hrow s (by simp only[maxLen];omega) hsz (Xe _);obtain⟨A',c',rfl,hO'⟩:=Own.str (w:=w) h3 hrow.1 o1 (λi x hx=>o2 i x hx);have hch:Ch (obl A) w w':=by have:=Ch.of_grown h4;rwa[ownBlock_slice]at this
 have hnew: ∀b,b∈obl A'->b∈obl A\/b=w.heap.size:=by
  rcases hrow.2 with⟨hv,hn⟩|⟨g,cap,cur,hv,hbg,hg,hnc,hcm,hcs,htake⟩
  injection hv with hA _ hc
  subst hA;subst hc;intro b N;by_cases hm:s.size=0;have hf0:=run_firstCells_string (P:=P) w 1 s;rw[hm]at hf0;have L:(Builtin.append_ #[tt,tu] T #[.slice none xs.length 0,.string s]).run P w=.ok (.slice none 0 0) w:=by
   rw[hn];simp[Builtin.append_,run_underlying W,run_underlying h2,sizeOf,typeInfo,hi,O,Builtin.lenOf,hm,hf0]
  rw[hrun]at L;injection L with L _
  injection L with L _ _
  subst L;cases N;have L:=run_append_nil_string (P:=P) w tt tu T e i (.int .u8 0) W h2 hi hz s (by omega) (by omega) (by rw[V];omega);rw[hn]at hrun;rw[hrun]at L;injection L with L _
  injection L with L _ _
  subst L;exact .inr (by simpa[obl] using N);injection hv with hA _ hc
  subst hA;subst hc;intro b N;by_cases hroom:xs.length+s.size<=c;have hcs':cur.size=c:=by simpa[Ty.size] using hcs
  have L:=run_append_room_string (P:=P) w tt tu T e i W h2 hi O g xs.length c cur hg s hroom (by omega);rw[hrun]at L;injection L with L _
  injection L with L _ _
  subst L;exact .inl N;have holds: ∀j u,cells[j]?=some u->w.cell? ((⟨g,0,none⟩:Addr).add j)=some u:=hrow.cells (g:=g) rfl;have L:=run_append_grow_string (P:=P) w tt tu T e i (.int .u8 0) W h2 hi hz ⟨g,0,none⟩ xs.length c cells (by rw[O];simpa[Ty.size] using hrow.1) holds s (by omega) (by omega) (by rw[V];exact growslice_fits (by omega) (by omega));rw[hrun]at L;injection L with L _
  injection L with L _ _
  subst L;exact .inr (by simpa[obl] using N)
 refine Z.valw (w':=w') (v:=.slice A' (xs++s.data.toList).length c') hf hd ?_ λa' hf'=>h A' c' a' w' hf' (Hp.dd (hh.upd hch (λb N=>⟨_,U,N⟩) (λb N=>?_) (λj hj=>by cases hj) λF B _ _ _ _ _=>hO'.more λ_ N=>N.elim) hj);simp only[execOp,resolve,invoke,builtin,Sem.run_bind,Sem.run_pure,Result.andThen_ok,Wd,Wc,Xk,hf.eval hx,hf.eval hy,hrun];rcases hnew b N with h5|h5
 exact .inl ⟨_,U,h5⟩;exact .inr ⟨by omega,(hO'.lt b N).2⟩
end
section
variable {P:Program}{C:Cx}{l:List (Nat×Value)}{H:List (Nat×Res)}
def cutp3 {X:Act->World->Prop}(k kn:Nat){t:Ty}{A:Option Addr}{c:Nat}{xs:List t.den}(u v:Nat)(O:u<=v)(U:v<=xs.length)
  (h: ∀A' c',A'=cutA A v u t.size->c'=v-u->∀a w,Fr a C.n C.ds l->Hp C ((kn,.sh (.slice t) [.slice A' ((xs.take v).drop u).length c'] ((xs.take v).drop u))::H) w->X a w)
  (L:hk H k=some (.sh (.slice t) [.slice A xs.length c] xs):=by rfl) (V:hk H kn=none:=by kernel_rfl): ∀a w,Fr a C.n C.ds l->Hp C H w->X a w:=λa w W N=>
 h _ _ rfl rfl a w W (N.add V rfl (λj hj=>by cases hj) (Qal _ (rep_cut3 (N.hold k _ L) O U)))
def r_cut3 {a:Act}{w:World}{d:Option Tmp}{T:TypeId}{pos:String}{af:Array Edge}{gd:Option (Nat×Bool)}(k:Nat){t:Ty}{tt e:TypeId}{x lo W mx:Operand}{A A':Option Addr}{c c':Nat}{xs:List t.den}{k1 k2 k3:IntKind}{p q:Int}{u v:Nat}(L:Fr a C.n C.ds l)(hh:Hp C H w)(hp:p=(u:Int))(hq:q=(v:Int))(h1:u<=v)(h2:v<=xs.length)(hA:A'=cutA A v u t.size)(hc:c'=v-u)
  (N:hk H k=some (.sh (.slice t) [.slice A xs.length c] xs):=by rfl) (hx:ev l x=some (.slice A xs.length c):=by rfl) (O:ev l lo=some (.int k1 p):=by rfl) (U:ev l W=some (.int k2 q):=by rfl) (V:ev l mx=some (.int k3 q):=by rfl) (hS:szB P e=some t.size:=by kernel_rfl) (ht:P.underlying tt=some (.slice e):=by rfl):
  (execOp a.eval ⟨d,.slice tt x (some lo) (some W) (some mx),T,pos,af,gd⟩).run P w=.ok (.value (.slice A' ((xs.take v).drop u).length c')) w:=by
 have hr:(Ty.slice t).rep w (Fh C H) [.slice A xs.length c] xs:=hh.hold k _ N;have hlen:=rep_slice_len hr;have hlen2:((xs.take v).drop u).length=v-u:=by rw[Qk,Qj];omega
 subst hA;subst hc;rw[hlen2];exact Qcw ht (Qai hS) (L.eval hx) (L.eval O) (L.eval U) (L.eval V) hp hq hq h1 (Q4 _) (by omega)
def r_cvt {a:Act}{w:World}{d:Option Tmp}{T:TypeId}{pos:String}{af:Array Edge}{gd:Option (Nat×Bool)}{src dst e:TypeId}{x:Operand}{A:Option Addr}{c n:Nat}{xs:List UInt8}{kp':(Nat->Prop)->Prop}(L:Fr a C.n C.ds l)(hh:Hp C H w)(hrow: ∀w,Hp C H w->∃G:Nat->Prop,Row .byte w (Fh C H) G A c xs/\kp' G)
  (hlen:n=xs.length:=by rfl) (N:ev l x=some (.slice A n c):=by rfl) (O:P.underlying src=some (.slice e):=by rfl) (U:P.underlying e=some (.int .u8):=by rfl) (V:P.underlying dst=some .string:=by rfl):
  (execOp a.eval ⟨d,.convert src dst x,T,pos,af,gd⟩).run P w=.ok (.value (.string ⟨xs.toArray⟩)) w:=by
 subst hlen;obtain⟨G,W,_⟩:=hrow w hh;obtain⟨cells,p1,p2,p3,p4⟩:=W.cells;rcases p3 with h0|⟨ad,rfl,hcell⟩
 have:xs=[]:=Qt h0;subst this;have hl:(execOp a.eval ⟨d,.convert src dst x,T,pos,af,gd⟩).run P w=.ok (.value (.string ⟨([]:List UInt8).toArray⟩)) w:=by
  have hrep:(Ty.slice .byte).rep w no [.slice A 0 c] []:=⟨A,c,[],rfl,Xe _,W.2.1,rfl,.inl rfl,λi x h=>by simp at h⟩;exact r_b2s O U V (L.eval N) hrep
 exact hl;have:=run_convert_bytes_back (P:=P) w src dst e ad c xs O U V λj hj=>by
  refine hcell j _ ?_;have h4:=p4 j _ (Qf hj);have h5:(cells.drop (j*1)).take 1=[.int .u8 (xs[j].toNat:Int)]:=h4;rw[Xc]at h5;have h6:((cells.drop j).take 1)[0]?=some (.int .u8 (xs[j].toNat:Int)):=by rw[h5];rfl
  rwa[Qu (by omega),Qv,Xq]at h6
 simp[execOp,L.eval N,this]
end
def vbk {C:Cx}{l:List (Nat×Value)}{H:List (Nat×Res)}{X:Act->World->Prop}(k o:Nat)(js:List Nat){t:Ty}(xs:List t.den){g:Nat}{e:TypeId}{cs:List Value}(N:Dats H t ((cs.drop o).take (xs.length*t.size)) xs)
  (h: ∀a w,Fr a C.n C.ds l->Hp C ((k,.sh (.slice t) [.slice (some ⟨g,o,none⟩) xs.length xs.length] xs)::ded js H) w->X a w) (L:hk H k=some (.blk g e cs):=by rfl) (O:Nat.ble xs.length 100000=true:=by rfl) (U:hng [k] js H=true:=by kernel_rfl): ∀a w,Fr a C.n C.ds l->Hp C H w->X a w:=λa w V W=>
 h a w V (hp_vbk k o js xs N W L O U)
def npQ (Q:Exit->Act->World->Prop):Exit->Act->World->Prop:=λe a w=>(∀c,e≠ .panic c)/\Q e a w
def pqN {Q:Exit->Act->World->Prop}:Pq (npQ Q):=λc a d v w h=>(h.1 c rfl).elim
section
variable {r:Option Nat}{P:Program}{Y:Exit->Act->World->Prop}{K:List Kx}{C:Cx}{l:List (Nat×Value)}{H Hq:List (Nat×Res)}{ops:Array Oper}{m f:Nat}{li:List Bool}
def AX.drN {id:Nat}{lo:List Oper}(N:P.follows .mixedOrders=true)(m f:Nat)(li:List Bool)(h:AH r P lo.toArray (npQ (kont r P Y K)) [] m f li C l H)(L:lo.toArray.size=f:=by rfl)(O:(Array.replicate lo.toArray.size false).toList=li:=by kernel_rfl):
  AX r P Y K (.region id lo.toArray true) C l H:=λa w U V=>by
 subst L;subst O;have:=h a _ U (Hp.drew V (Ch.drew w));rw[Q0]at this;exact wpIn_mono (wpIn_region_any N (Hem.any _ _ _ _ this)) λe a w h=>h.2
def AH.doneN (h:AE r P Y K .normal C l H)(L:Region.ready .any ops li.toArray=[]:=by kernel_rfl):AH r P ops (npQ (kont r P Y K)) Hq m f li C l H:=λa w N O=>by
 cases f with
 |zero=>exact⟨L,λc h=>(by cases h),h a w N O⟩
 |succ f=>exact⟨λ_=>⟨λc h=>(by cases h),h a w N O⟩,by rw[L];simp⟩
end
def Ct.join {P:Program}{f:FuncId}{xss:List (List UInt8)}{rr:List UInt8}{A:Option Addr}{c:Nat}
  (W: ∀w,(Ty.slice (.slice .byte)).rep w (nt []) [.slice A xss.length c] xss->Calls P f #[.slice A xss.length c,.slice none 0 0] w λe w'=>∃(A':Option Addr) (c':Nat),e=.returned (.slice A' rr.length c')/\(Ty.slice .byte).rep w' (iv w.heap.size w'.heap.size) [.slice A' rr.length c'] rr/\Ch [] w w'):
  Ct P f [.slice A xss.length c,.slice none 0 0] [(0,.sh (.slice (.slice .byte)) [.slice A xss.length c] xss)] [] λv H'=>∃(A':Option Addr) (c':Nat),v=.slice A' rr.length c'/\H'=[(0,.sh (.slice .byte) [.slice A' rr.length c'] rr)]:=λw F hh=>by
 have hr:(Ty.slice (.slice .byte)).rep w _ [.slice A xss.length c] xss:=hh.hold 0 _ rfl;refine(W w (Qbh (λb _=>by simp[nt]) _ hr)).mono λe w' ⟨A',c',he,hr',U⟩=>⟨_,_,he,⟨A',c',rfl,rfl⟩,?_⟩;have L: ∀k r,hk [(0,Res.sh (.slice .byte) [.slice A' rr.length c'] rr)] k=some r->r=.sh (.slice .byte) [.slice A' rr.length c'] rr:=λk r h=>by
  rw[Qaa]at h;split at h;injection h with h;exact h.symm
  cases h
 have N: ∀k b,¬Bk [(0,Res.sh (.slice .byte) [.slice A' rr.length c'] rr)] k b:=λk b ⟨r,h,O⟩=>by rw[L k r h]at O;cases O
 refine⟨U,λk r h=>?_,λk b h=>(N k b h).elim,λk k' b h=>(N k b h).elim,λk r j h V=>by rw[L k r h]at V;cases V⟩;rw[L k r h];exact Qbh (λb O=>⟨λk=>N k b,.inr (.inl O.1)⟩) _ hr'
end Go.A
end
section
namespace Go.Codec
abbrev Bytes:=List UInt8
def flat_take {α:Type}{xs:List (List α)}{k:Nat}{x:List α}(h:xs[k]?=some x):
  (xs.take (k+1)).flatten=(xs.take k).flatten++x/\(xs.take (k+1)).flatten.length=(xs.take k).flatten.length+x.length/\(xs.take (k+1)).flatten.length<=xs.flatten.length:=by
 have hk:=(Qd.1 h).1;have L:(xs.take (k+1)).flatten=(xs.take k).flatten++x:=by
  rw[Wj hk,List.flatten_append,(Qd.1 h).2];simp
 refine⟨L,by rw[L,Qb],?_⟩;have N:xs.flatten=(xs.take (k+1)).flatten++(xs.drop (k+1)).flatten:=by rw[<-List.flatten_append,Wr]
 rw[N,Qb];omega
def flat_all {α:Type}{xs:List (List α)}{k:Nat}(h:xs.length<=k):(xs.take k).flatten=xs.flatten:=by rw[Q8 h]
def flat_le {α:Type}(xs:List (List α))(k:Nat):(xs.take k).flatten.length<=xs.flatten.length:=by
 have L:xs.flatten=(xs.take k).flatten++(xs.drop k).flatten:=by rw[<-List.flatten_append,Wr]
 rw[L,Qb];omega
def be:Nat->Nat->Bytes
 |0,_=>[]
 |f+1,u=>if u=0 then []else be f (u / 256)++[UInt8.ofNat u]
def val (l:Bytes):Nat:=l.foldl (λu c=>u*256+c.toNat) 0
def val_snoc (l:Bytes)(c:UInt8):val (l++[c])=val l*256+c.toNat:=by simp[val]
def Qba (f u:Nat):(be f u).length<=f:=by
 induction f generalizing u with
 |zero=>simp[be]
 |succ f L=>
  unfold be;split;simp;have:=L (u / 256);simp;omega
def encInt (n:Int):Bytes:=
 if 0<=n/\n<100 then [UInt8.ofNat (100+n.toNat)]
 else if n<0/\ -50<=n then [UInt8.ofNat ((50+n).toNat)]
 else if 0<=n then UInt8.ofNat (199+(be 8 n.toNat).length)::be 8 n.toNat
 else UInt8.ofNat (207+(be 8 (-1-n).toNat).length)::be 8 (-1-n).toNat
def be_step (f u:Nat)(L:0<u):be (f+1) u=be f (u / 256)++[UInt8.ofNat u]:=by
 rw[be,Qc (by omega)]
def Qdv (f:Nat):be f 0=[]:=by cases f<;>simp[be]
def enc_one (n:Int)(L:0<=n)(N:n<100):encInt n=[UInt8.ofNat (100+n).toNat]:=by
 unfold encInt;rw[Qe ⟨L,N⟩];congr 2;omega
def enc_low (n:Int)(L:n<0)(N: -50<=n):encInt n=[UInt8.ofNat (50+n).toNat]:=by
 unfold encInt;rw[Qc (by omega),Qe ⟨L,N⟩]
def enc_up (n:Int)(L:100<=n)(bs:Bytes)(h:be 8 n.toNat=bs)(N:bs.length<=8):[UInt8.ofNat (199+(UInt8.ofNat bs.length).toNat)]++bs=encInt n:=by
 unfold encInt;rw[Qc (by omega),Qc (by omega),Qe (by omega),h];have:(UInt8.ofNat bs.length).toNat=bs.length:=by simp;omega
 rw[this];rfl
def enc_dn (n:Int)(L:n< -50)(bs:Bytes)(h:be 8 (-1-n).toNat=bs)(N:bs.length<=8):[UInt8.ofNat (207+(UInt8.ofNat bs.length).toNat)]++bs=encInt n:=by
 unfold encInt;rw[Qc (by omega),Qc (by omega),Qc (by omega),h];have:(UInt8.ofNat bs.length).toNat=bs.length:=by simp;omega
 rw[this];rfl
def okInt (n:Int):Prop:= -9223372036854775808<=n/\n<=9223372036854775807
def encInt_length (n:Int):1<=(encInt n).length/\(encInt n).length<=9:=by
 unfold encInt;have L:=Qba 8 n.toNat;have N:=Qba 8 (-1-n).toNat;split;simp
 (split)
 simp;split<;>simp<;>omega
def Qao (s:ByteArray):Bytes:=encInt s.size++s.data.toList
def okText (s:ByteArray):Prop:=s.size<=9223372036854775807
def Qab {α:Type}(enc:α->Bytes)(l:List α):Bytes:=encInt l.length++l.flatMap enc
def okList {α:Type}(ok:α->Prop)(l:List α):Prop:=l.length<=9223372036854775807/\∀a∈l,ok a
abbrev Fn:=Int×Int×ByteArray
abbrev Node:=Int×Int×List Int×Fn×ByteArray×Int×Int
abbrev Move:=Int×Int×Int×Int×Fn
abbrev Delta:=List Int×List Node×List Move
abbrev Rec:=Int×ByteArray
abbrev Lim:=Int×Int×Int×Int
abbrev Time:=Int×Int×Lim
abbrev Place:=Int×Int
abbrev Change:=Place×Time×Int
abbrev Entry:=Int×Int×ByteArray×Int
abbrev Msg:=Int×Int×Place×Time×List Rec×List Change×Delta×Int×List Entry×Bool×Int
def Qdb (f:Fn):Bytes:=encInt f.1++(encInt f.2.1++Qao f.2.2)
def Qaj (n:Node):Bytes:=encInt n.1++(encInt n.2.1++(Qab encInt n.2.2.1++(Qdb n.2.2.2.1++(Qao n.2.2.2.2.1++(encInt n.2.2.2.2.2.1++encInt n.2.2.2.2.2.2)))))
def Qap (m:Move):Bytes:=encInt m.1++(encInt m.2.1++(encInt m.2.2.1++(encInt m.2.2.2.1++Qdb m.2.2.2.2)))
def Qaq (d:Delta):Bytes:=Qab encInt d.1++(Qab Qaj d.2.1++Qab Qap d.2.2)
def Qav (r:Rec):Bytes:=encInt r.1++Qao r.2
def Qdy (l:Lim):Bytes:=encInt l.1++(encInt l.2.1++(encInt l.2.2.1++encInt l.2.2.2))
def Qaw (t:Time):Bytes:=encInt t.1++(encInt t.2.1++Qdy t.2.2)
def Qar (p:Place):Bytes:=encInt p.1++encInt p.2
def Qac (c:Change):Bytes:=Qar c.1++(Qaw c.2.1++encInt c.2.2)
def Qae (x:Entry):Bytes:=encInt x.1++(encInt x.2.1++(Qao x.2.2.1++encInt x.2.2.2))
def b01 (b:Bool):Int:=if b then 1 else 0
def Qbd (m:Msg):Bytes:=
 encInt m.1++(encInt m.2.1++(Qar m.2.2.1++(Qaw m.2.2.2.1++(Qab Qav m.2.2.2.2.1++(Qab Qac m.2.2.2.2.2.1++(Qaq m.2.2.2.2.2.2.1++(encInt m.2.2.2.2.2.2.2.1++
  (Qab Qae m.2.2.2.2.2.2.2.2.1++(encInt (b01 m.2.2.2.2.2.2.2.2.2.1)++encInt m.2.2.2.2.2.2.2.2.2.2)))))))))
def okFn (f:Fn):Prop:=okInt f.1/\okInt f.2.1/\okText f.2.2
def okNode (n:Node):Prop:=okInt n.1/\okInt n.2.1/\okList okInt n.2.2.1/\okFn n.2.2.2.1/\okText n.2.2.2.2.1/\okInt n.2.2.2.2.2.1/\okInt n.2.2.2.2.2.2
def okMove (m:Move):Prop:=okInt m.1/\okInt m.2.1/\okInt m.2.2.1/\okInt m.2.2.2.1/\okFn m.2.2.2.2
def okDelta (d:Delta):Prop:=okList okInt d.1/\okList okNode d.2.1/\okList okMove d.2.2
def okRec (r:Rec):Prop:=okInt r.1/\okText r.2
def okLim (l:Lim):Prop:=okInt l.1/\okInt l.2.1/\okInt l.2.2.1/\okInt l.2.2.2
def okTime (t:Time):Prop:=okInt t.1/\okInt t.2.1/\okLim t.2.2
def okPlace (p:Place):Prop:=okInt p.1/\okInt p.2
def okChange (c:Change):Prop:=okPlace c.1/\okTime c.2.1/\okInt c.2.2
def okEntry (x:Entry):Prop:=okInt x.1/\okInt x.2.1/\okText x.2.2.1/\okInt x.2.2.2
def okMsg (m:Msg):Prop:=
 okInt m.1/\okInt m.2.1/\okPlace m.2.2.1/\okTime m.2.2.2.1/\okList okRec m.2.2.2.2.1/\okList okChange m.2.2.2.2.2.1/\okDelta m.2.2.2.2.2.2.1/\okInt m.2.2.2.2.2.2.2.1/\
  okList okEntry m.2.2.2.2.2.2.2.2.1/\True/\okInt m.2.2.2.2.2.2.2.2.2.2
end Go.Codec
end
