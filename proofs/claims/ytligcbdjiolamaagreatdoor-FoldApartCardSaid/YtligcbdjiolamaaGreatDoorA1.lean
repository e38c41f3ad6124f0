import Derived.Test.YtligcbdjiolamaaGreatDoorA0
import Derived.Scope
import Derived.Shelf.Unicode.ValidAny
set_option linter.defProp false
set_option linter.unusedVariables false
set_option linter.unusedSimpArgs false
set_option linter.unusedSectionVars false
set_option maxRecDepth 20000
section
namespace Go.A
open Go.RowKit Go.Z
def Bk.cons_ne {H:QJ}{k j b:Nat}{r:Res}(h:j≠k):Bk ((k,r)::H) j b↔Bk H j b:=by
 unfold Bk;rw[Qab,Qb (Ne.symm h)]
def Bk.cons_eq {H:QJ}{k b:Nat}{r:Res}:Bk ((k,r)::H) k b↔b∈r.bl:=by
 unfold Bk;rw[Qab,Qc rfl];exact⟨λ⟨E,h1,h2⟩=>by injection h1 with h1;subst h1;exact h2,λh=>⟨r,rfl,h⟩⟩
def Hp.ext {C:Cx}{H H':QJ}{w:World}(h:Hp C H w)(e: ∀j,hk H' j=hk H j\/(hk H' j=some .dead/\hk H j=none)):Hp C H' w:=by
 have N: ∀{j r},hk H' j=some r->r=.dead\/hk H j=some r:=λ{j r} I=>by
  rcases e j with h1|⟨h1,_⟩
  exact .inr (h1▸I);rw[h1]at I;injection I with I;exact .inl I.symm
 have W:Bk H'=Bk H:=by
  funext k b;refine propext ⟨λ⟨r,h1,h2⟩=>?_,λ⟨r,h1,h2⟩=>?_⟩;rcases N h1 with rfl|E
  cases h2;exact⟨r,E,h2⟩;rcases e k with E|⟨_,E⟩
  exact⟨r,E.trans h1,h2⟩;rw[E]at h1;cases h1
 have e2:Fh C H'=Fh C H:=by funext b;unfold Fh;rw[W]
 refine⟨h.ch,λk r hk=>?_,?_,?_,λk r j hk hr=>?_⟩;rcases N hk with rfl|E
 trivial;rw[W,e2];exact h.hold k r E;rw[W];exact h.bnd;rw[W];exact h.dis;rcases N hk with rfl|E
 cases hr;refine⟨(h.ref k r j E hr).1,λr' h4=>?_⟩;rcases N h4 with rfl|h5
 rfl;exact(h.ref k r j E hr).2 r' h5
def ded:QM->QJ->QJ
 | [],H=>H
 |j::js,H=>(j,.dead)::ded js H
def Qjk {H:QJ}{j:Nat}: ∀{js:QM},hk (ded js H) j=bif js.any (Nat.beq j)then some .dead else hk H j
 | []=>rfl
 |i::js=>by
  show hk ((i,.dead)::ded js H) j=_;rw[Qab,Qjk,Jo];by_cases h:i=j;subst h;simp;have:Nat.beq j i=false:=by cases E:Nat.beq j i with
   |false=>rfl
   |true=>exact absurd (Qk E).symm h
  rw[Qb h,this];rfl
def rin (ks:QM):QN->Bool
 |none=>false
 |some i=>ks.any (Nat.beq i)
def hng (ks js:QM)(H:QJ):Bool:=
 js.all (λj=>match hk H j with|some v=>rin ks v.ref|none=>true)&&H.all λp=>bif rin ks p.2.ref then js.any (Nat.beq p.1)||(match hk H p.1 with|some v=> !(rin ks v.ref)|none=>true)else true
def hk_memb: ∀{H:QJ} {j:Nat} {v:Res},hk H j=some v->(j,v)∈H
 |(d,u)::H,j,v,h=>by
  rw[Qab]at h;split at h;rename_i e;subst e;injection h with h;subst h;exact Qh ..
  exact Qf _ (hk_memb h)
def hng_at {ks js:QM}{H:QJ}(h:hng ks js H=true)(j:Nat):(bif js.any (Nat.beq j)then some Res.dead else hk H j)=((hk H j).map λv=>bif rin ks v.ref then .dead else v)\/((bif js.any (Nat.beq j)then some Res.dead else hk H j)=some .dead/\((hk H j).map λv=>bif rin ks v.ref then .dead else v)=none):=by
 simp only[hng,Qd,Q5]at h;cases I:js.any (Nat.beq j)with
 |true=>
  obtain⟨i,W,hb⟩:=Jh.1 I;have:=Qk hb;subst this;have h1:=h.1 j W;cases E:hk H j with
  |none=>exact .inr ⟨rfl,rfl⟩
  |some v=>rw[E]at h1;replace h1:rin ks v.ref=true:=h1;exact .inl (by simp[h1])
 |false=>
  cases E:hk H j with
  |none=>exact .inl rfl
  |some v=>
   refine .inl ?_;have h1:=h.2 _ (hk_memb E);simp only[I,E,Yi]at h1;cases N:rin ks v.ref with
   |false=>simp[N]
   |true=>rw[N]at h1;cases h1
def Qcr (k:Nat): ∀(H:QJ) (j:Nat),hk (drp k H) j=(hk H j).map λv=>bif rin [k] v.ref then .dead else v
 | [],_=>rfl
 |(d,u)::H,j=>by
  unfold drp;rw[Qab,Qab];by_cases E:d=j;rw[Qc E,Qc E];cases I:u.ref with
  |none=>simp[I,rin]
  |some i=>cases N:Nat.beq i k<;>simp[I,rin]<;>simp at N<;>simp[N]
  rw[Qb E,Qb E];exact Qcr k H j
def Hp.dd {C:Cx}{H:QJ}{w:World}{k:Nat}{r:Res}{js:QM}(h:Hp C ((k,r)::drp k H) w)(E:hng [k] js H=true):Hp C ((k,r)::ded js H) w:=
 h.ext λj=>by
  rw[Qab,Qab];by_cases h:k=j;rw[Qc h,Qc h];exact .inl rfl;rw[Qb h,Qb h,Qjk,Qcr];exact hng_at E j
def Hp.dd2 {C:Cx}{H:QJ}{w:World}{k E:Nat}{r I:Res}{js:QM}(h:Hp C ((E,I)::(k,r)::drp k H) w)(N:hng [k] js H=true):Hp C ((E,I)::(k,r)::ded js H) w:=
 h.ext λj=>by
  rw[Qab,Qab,Qab,Qab];by_cases h2:E=j;rw[Qc h2,Qc h2];exact .inl rfl;by_cases h:k=j;rw[Qb h2,Qb h2,Qc h,Qc h];exact .inl rfl;rw[Qb h2,Qb h2,Qb h,Qb h,Qjk,Qcr];exact hng_at N j
section
variable {C:Cx}{H:QJ}{w w':World}{k:Nat}{r':Res}
def Hp.noref (h:Hp C H w)(h0:hk H k=none){j:Nat}{r:Res}(N:hk H j=some r):r.ref≠some k:=λE=>by
 have I:=h.hold j r N;cases r with
 |el i b o cs=>
  simp only[Res.ref]at E;subst E;obtain⟨_,_,W,h2,_⟩:=I;rw[h0]at h2;cases h2
 |mit i g b n seen la=>
  simp only[Res.ref,Qg]at E;subst E;obtain⟨_,⟨W,h2,_⟩,_⟩:=I;rw[h0]at h2;cases h2
 |_=>cases E
def Hp.new (h:Hp C H w)(h0:hk H k=none)(hc:Ch [] w w')(hb: ∀b,b∈r'.bl->w.heap.size<=b/\b<w'.heap.size)(hrf: ∀j,r'.ref=some j->∀r,hk H j=some r->r.ref=none)
  (hr: ∀(F:Nat->Prop) (B:Nat->Nat->Prop),(∀b,Fh C H b->b<w.heap.size->F b)->(∀b,(∀k,¬Bk H k b)->b<w.heap.size->∀k,¬B k b)->(∀j b,Bk H j b->B j b)->r'.holds w' F B):Hp C ((k,r')::H) w':=by
 have hkn: ∀j b,Bk H j b->j≠k:=λj b ⟨r,h1,_⟩ e=>by subst e;rw[h0]at h1;cases h1
 have hup: ∀j b,Bk H j b->Bk ((k,r')::H) j b:=λj b E=>(Bk.cons_ne (hkn j b E)).2 E;have hcase: ∀j b,Bk ((k,r')::H) j b->(j=k/\w.heap.size<=b/\b<w'.heap.size)\/(j≠k/\Bk H j b):=λj b E=>by
  by_cases hjk:j=k;subst hjk;exact .inl ⟨rfl,hb b (Bk.cons_eq.1 E)⟩;exact .inr ⟨hjk,(Bk.cons_ne hjk).1 E⟩
 have hnb: ∀b,(∀k,¬Bk H k b)->b<w.heap.size->∀j,¬Bk ((k,r')::H) j b:=λb hb' hl j E=>by
  rcases hcase j b E with⟨_,h1,_⟩|⟨_,h1⟩
  omega;exact hb' j h1
 refine⟨?_,λj r E=>?_,λj b E=>?_,λj j' b E hj'=>?_,λj r i E I=>?_⟩;have N:=h.ch;exact⟨hc.os.trans N.os,hc.tape.trans N.tape,hc.output.trans N.output,Wb N.size hc.size,λb hb' hn=>by rw[hc.block b (Qw hb' N.size) (by simp)];exact N.block b hb' hn⟩;rw[Qab]at E;split at E;injection E with E;subst E
 exact hr _ _ (λb hF hl=>⟨hnb b hF.1 hl,hF.2⟩) hnb hup;exact Res.to (h.hold j r E) hc (λb hF hl=>⟨by simp,hnb b hF.1 hl,hF.2⟩) (λb hB hl=>⟨by simp,hnb b hB hl⟩) (λi b _ hB=>⟨by simp,hup i b hB⟩) (by simp);rcases hcase j b E with⟨_,h1,h2⟩|⟨_,h1⟩
 exact⟨.inl (Wb h.ch.size h1),h2⟩;exact⟨(h.bnd j b h1).1,Qw (h.bnd j b h1).2 hc.size⟩;rcases hcase j b E with⟨h1,h2,_⟩|⟨_,h1⟩<;>rcases hcase j' b hj' with⟨h3,h4,_⟩|⟨_,h3⟩
 rw[h1,h3];have:=(h.bnd j' b h3).2;omega;have:=(h.bnd j b h1).2;omega;exact h.dis j j' b h1 h3;rw[Qab]at E;have hvis: ∀i W,hk ((k,r')::H) i=some W->i≠k->hk H i=some W:=λi W h2 hne=>by rwa[Qab,Qb (Ne.symm hne)]at h2
 split at E;injection E with E;subst E
 have hik:i≠k:=λe=>by
  subst e;have h1:=hr (λb=>Fh C H b/\b<w.heap.size) (Bk H) (λb h1 h2=>⟨h1,h2⟩) (λb hB _=>hB) (λj b E=>E);cases r' with
  |el i' b o cs=>
   simp only[Res.ref]at I;subst I;obtain⟨_,_,W,h2,_⟩:=h1;rw[h0]at h2;cases h2
  |mit i' g b n seen la=>
   simp only[Res.ref,Qg]at I;subst I;obtain⟨_,⟨W,h2,_⟩,_⟩:=h1;rw[h0]at h2;cases h2
  |_=>cases I
 rename_i hkj;exact⟨λe=>hik (e.trans hkj.symm),λW h2=>hrf i I W (hvis i W h2 hik)⟩;obtain⟨h5,h6⟩:=h.ref j r i E I;have hik:i≠k:=λe=>h.noref h0 E (by rw[I,e]);exact⟨h5,λW h2=>h6 W (hvis i W h2 hik)⟩
def Hp.add (h:Hp C H w)(h0:hk H k=none)(W:r'.bl=[])(E: ∀j,r'.ref=some j->∀r,hk H j=some r->r.ref=none)
  (hr:r'.holds w (λb=>Fh C H b/\b<w.heap.size) (Bk H)):Hp C ((k,r')::H) w:=
 h.new h0 (Ch.refl w) (by rw[W];simp) E λF B h1 h2 h3=>Res.to hr (S:=[]) (Ch.refl w) (λb N _=>⟨by simp,h1 b N.1 N.2⟩) (λb I hl=>⟨by simp,h2 b I hl⟩) (λi b _ I=>⟨by simp,h3 i b I⟩) (by simp)
end
def kx:Nat->List Res->QJ
 |_,[]=>[]
 |k,r::rs=>(k,r)::kx (k+1) rs
def hcat:QJ->QJ->QJ
 | [],H=>H
 |p::r,H=>p::hcat r H
def nok (H:QJ):Nat->Nat->Bool
 |_,0=>true
 |k,n+1=>(match hk H k with|none=>true|some _=>false)&&nok H (k+1) n
def Qcd {H:QJ}: ∀{n k j:Nat},nok H k n=true->k<=j->j<k+n->hk H j=none
 |0,k,j,_,h1,h2=>by omega
 |n+1,k,j,h,h1,h2=>by
  simp only[nok,Qd]at h;rcases Yh k j with E|I
  exact Qcd h.2 (by omega) (by omega);have:k=j:=by omega
  subst this;cases N:hk H k with
  |none=>rfl
  |some r=>rw[N]at h;exact absurd h.1 (by simp)
def hk_kx: ∀(rs:List Res) (k j:Nat) (H:QJ),j<k->hk (hcat (kx k rs) H) j=hk H j
 | [],_,_,_,_=>rfl
 |r::rs,k,j,H,h=>by
  show hk ((k,r)::hcat (kx (k+1) rs) H) j=_;rw[Qab,Qb (by omega)];exact hk_kx rs (k+1) j H (by omega)
def Hp.adds {C:Cx}{w:World}: ∀{rs:List Res} {k:Nat} {H:QJ},Hp C H w->nok H k rs.length=true->(∀r,r∈rs->r.bl=[]/\r.ref=none/\r.holds w (λb=>Fh C H b/\b<w.heap.size) (Bk H))->Hp C (hcat (kx k rs) H) w
 | [],_,_,h,_,_=>h
 |r::rs,k,H,h,E,I=>by
  have h1:Hp C (hcat (kx (k+1) rs) H) w:=Hp.adds h (by simp only[Q2,nok,Qd]at E;exact E.2) λN h2=>I N (Qf _ h2);obtain⟨h2,h3,h4⟩:=I r (Qh ..);have hb: ∀(rs:List Res) (k:Nat),(∀r,r∈rs->r.bl=[])->nok H k rs.length=true->∀j b,Bk (hcat (kx k rs) H) j b↔Bk H j b:=by
   intro rs;induction rs with
   |nil=>intro k _ _ j b;exact Iff.rfl
   |cons r rs ih=>
    intro k I E j b;show Bk ((k,r)::hcat (kx (k+1) rs) H) j b↔_;have hn2:nok H (k+1) rs.length=true:=by simp only[Q2,nok,Qd]at E;exact E.2
    have hh:hk H k=none:=Qcd E (Qr k) (by simp);by_cases hjk:j=k;subst hjk;rw[Bk.cons_eq,I r (Qh ..)];exact⟨λh=>by simp at h,λ⟨N,h2,_⟩=>by rw[hh]at h2;cases h2⟩;rw[Bk.cons_ne hjk];exact ih (k+1) (λN h2=>I N (Qf _ h2)) hn2 j b
  have hb':=hb rs (k+1) (λN h2=>(I N (Qf _ h2)).1) (by simp only[Q2,nok,Qd]at E;exact E.2);have hF: ∀b,Fh C H b->Fh C (hcat (kx (k+1) rs) H) b:=λb hF=>⟨λj W=>hF.1 j ((hb' j b).1 W),hF.2⟩;refine h1.add ?_ h2 (λj W=>by rw[h3]at W;cases W) ?_;rw[hk_kx rs (k+1) k H (by omega)];exact Qcd E (Qr k) (by simp);exact Res.to h4 (S:=[]) (Ch.refl w) (λb h _=>⟨by simp,hF b h.1,h.2⟩) (λb h _=>⟨by simp,λj W=>h j ((hb' j b).1 W)⟩) (λi b _ h=>⟨by simp,(hb' i b).2 h⟩) (by simp)
def rok (ks:QM):QN->Bool
 |none=>true
 |some j=>ks.any (Nat.beq j)
def kpH (H:QJ)(all:QM):QM->QJ
 | []=>[]
 |k::ks=>match hk H k with
  |some r=>bif rok all r.ref then(k,r)::kpH H all ks else kpH H all ks
  |none=>kpH H all ks
def Qdn {H:QJ}{all:QM}: ∀{ks:QM} {k:Nat} {r:Res},hk (kpH H all ks) k=some r->hk H k=some r/\rok all r.ref=true/\k∈ks
 | [],k,r,h=>by cases h
 |j::ks,k,r,h=>by
  unfold kpH at h;cases I:hk H j with
  |none=>rw[I]at h;obtain⟨h1,h2,E⟩:=Qdn h;exact⟨h1,h2,Qf _ E⟩
  |some u=>
   rw[I]at h;simp only[]at h;cases N:rok all u.ref with
   |false=>rw[N]at h;obtain⟨h1,h2,E⟩:=Qdn (show hk (kpH H all ks) k=some r from h);exact⟨h1,h2,Qf _ E⟩
   |true=>
    rw[N]at h;replace h:hk ((j,u)::kpH H all ks) k=some r:=h;rw[Qab]at h;split at h;rename_i W;subst W;have h:=Xg h;subst h;exact⟨I,N,Qh ..⟩;obtain⟨h1,h2,E⟩:=Qdn h;exact⟨h1,h2,Qf _ E⟩
def Qcw {H:QJ}{all:QM}: ∀{ks:QM} {k:Nat} {r:Res},hk H k=some r->rok all r.ref=true->k∈ks->hk (kpH H all ks) k=some r
 | [],_,_,_,_,h=>by cases h
 |j::ks,k,r,h,I,N=>by
  unfold kpH;by_cases E:j=k;subst E;rw[h];simp only[I];show hk ((j,r)::_) j=_;rw[Qab,Qc rfl];have hm':k∈ks:=(Qn.1 N).resolve_left (Ne.symm E);cases W:hk H j with
  |none=>exact Qcw h I hm'
  |some u=>
   simp only[];cases rok all u.ref with
   |false=>exact Qcw h I hm'
   |true=>
    show hk ((j,u)::_) k=_;rw[Qab,Qb E];exact Qcw h I hm'
def Hp.keep {C:Cx}{H:QJ}{w:World}(h:Hp C H w)(ks:QM):Hp C (kpH H ks ks) w:=by
 have E: ∀j b,Bk (kpH H ks ks) j b->Bk H j b:=λj b ⟨r,h1,h2⟩=>⟨r,(Qdn h1).1,h2⟩;refine⟨h.ch,λk r I=>?_,λk b hb1=>h.bnd k b (E k b hb1),λk k' b h1 h2=>h.dis k k' b (E _ _ h1) (E _ _ h2),λk r j I hr=>?_⟩;obtain⟨h1,h2,h3⟩:=Qdn I;refine Res.to (h.hold k r h1) (S:=[]) (Ch.refl w) (λb hF _=>⟨by simp,λj hj=>hF.1 j (E j b hj),hF.2⟩) (λb hB _=>⟨by simp,λj hj=>hB j (E j b hj)⟩) (λi b hi hB=>⟨by simp,?_⟩) (by simp);obtain⟨N,W,h5⟩:=hB;have h6:=(h.ref k r i h1 hi).2 N W;refine⟨N,Qcw W (by rw[h6];rfl) ?_,h5⟩;rw[hi]at h2;simp only[rok,Jh]at h2;obtain⟨x,hx,E⟩:=h2;rw[Qk E];exact hx;obtain⟨h1,_,_⟩:=Qdn I;obtain⟨h2,h3⟩:=h.ref k r j h1 hr;exact⟨h2,λN W=>h3 N (Qdn W).1⟩
def Hp.cov {C:Cx}{H H':QJ}{w:World}(h:Hp C H w)(ks:QM)(e:kpH H ks ks=H'):Hp C H' w:=e▸h.keep ks
def ren (H:QJ):List (Nat×Nat)->QJ
 | []=>[]
 |(i,k)::ks=>match hk H k with
  |some r=>match r.ref with
   |none=>(i,r)::ren H ks
   |some _=>ren H ks
  |none=>ren H ks
def hk_ren {H:QJ}: ∀{ps:List (Nat×Nat)} {i:Nat} {r:Res},hk (ren H ps) i=some r->∃k,(i,k)∈ps/\hk H k=some r/\r.ref=none
 | [],i,r,h=>by cases h
 |(j,k)::ps,i,r,h=>by
  unfold ren at h;have step:hk (ren H ps) i=some r->∃k',(i,k')∈(j,k)::ps/\hk H k'=some r/\r.ref=none:=λh=>by
   obtain⟨k',h1,h2⟩:=hk_ren h;exact⟨k',Qf _ h1,h2⟩
  cases E:hk H k with
  |none=>rw[E]at h;exact step h
  |some u=>
   rw[E]at h;simp only[]at h;cases I:u.ref with
   |some _=>rw[I]at h;exact step h
   |none=>
    rw[I]at h;replace h:hk ((j,u)::ren H ps) i=some r:=h;rw[Qab]at h;split at h;rename_i N;subst N;injection h with h;subst h;exact⟨k,Qh ..,E,I⟩
    exact step h
def nod:QM->Bool
 | []=>true
 |k::ks=> !(ks.any (Nat.beq k))&&nod ks
def Qli {α:Type}{f g:α->Nat}: ∀{l:List α},nod (l.map f)=true->∀x y,x∈l->y∈l->f x=f y->g x=g y
 | [],_,x,_,hx,_,_=>by cases hx
 |a::l,h,x,y,hx,hy,e=>by
  simp only[Wc,nod,Qd,X0,List.any_map]at h;have E: ∀z∈l,f a≠f z:=λz hz e=>by
   have:=h.1;rw[J1]at this;exact this z hz (by simp[Function.comp,e])
  rcases Qn.1 hx with I|N<;>rcases Qn.1 hy with W|hy1
  rw[I,W];subst I;exact absurd e (E y hy1);subst W;exact absurd e.symm (E x N);exact Qli h.2 x y N hy1 e
def Hp.ren {C:Cx}{H:QJ}{w:World}(h:Hp C H w)(ps:List (Nat×Nat))(h1:nod (ps.map (·.1))=true)(h2:nod (ps.map (·.2))=true):Hp C (ren H ps) w:=by
 have hb: ∀i b,Bk (A.ren H ps) i b->∃k,(i,k)∈ps/\Bk H k b:=λi b ⟨r,W,E⟩=>by
  obtain⟨k,I,h6,_⟩:=hk_ren W;exact⟨k,I,r,h6,E⟩
 have hnb: ∀b,(∀k,¬Bk H k b)->∀k,¬Bk (A.ren H ps) k b:=λb hB j hj=>by obtain⟨k,_,E⟩:=hb j b hj;exact hB k E
 refine⟨h.ch,λk r N=>?_,λk b hb1=>by obtain⟨j,_,W⟩:=hb k b hb1;exact h.bnd j b W,λk k' b W E=>?_,λk r j N hr=>?_⟩;obtain⟨j,W,E,I⟩:=hk_ren N;exact Res.to (h.hold j r E) (S:=[]) (Ch.refl w) (λb hF _=>⟨by simp,hnb b hF.1,hF.2⟩) (λb hB _=>⟨by simp,hnb b hB⟩) (λi b hi hB=>by rw[I]at hi;cases hi) (by simp);obtain⟨j,I,h6⟩:=hb k b W;obtain⟨j',h7,h8⟩:=hb k' b E;exact Qli (f:=λp:Nat×Nat=>p.2) (g:=λp:Nat×Nat=>p.1) h2 (k,j) (k',j') I h7 (h.dis j j' b h6 h8);obtain⟨_,_,_,I⟩:=hk_ren N;rw[I]at hr;cases hr
inductive Kx where
 |c (y:Code)
 |b (id:Nat)
 |m (M:QH)
 |s
def kont (r:QN)(P:QR)(Y:QG):List Kx->QG
 | [],e,a,w=>Y e a w
 | .c y::K,.normal,a,w=>WP r P y (kont r P Y K) a w
 | .m M::_,.normal,a,w=>M a w
 | .b _::K,.normal,a,w=>kont r P Y K .normal a w
 | .s::_,.goto _,_,_=>False
 | .b id::K,.exit i,a,w=>if i=id then kont r P Y K .normal a w else kont r P Y K (.exit i) a w
 |_::K,e,a,w=>kont r P Y K e a w
section
variable {r:QN}{P:QR}{Y:QG}{K:List Kx}{C:Cx}{l:QI}{H:QJ}
abbrev AX (r:QN) (P:QR) (Y:QG) (K:List Kx) (c:Code) (C:Cx) (l:QI) (H:QJ):Prop:=∀a w,Fr a C.n C.ds l->Hp C H w->WP r P c (kont r P Y K) a w
abbrev AE (r:QN) (P:QR) (Y:QG) (K:List Kx) (e:Exit) (C:Cx) (l:QI) (H:QJ):Prop:=∀a w,Fr a C.n C.ds l->Hp C H w->kont r P Y K e a w
abbrev AL (r:QN) (P:QR) (ops:QU) (Q:QG) (rest:QT) (C:Cx) (l:QI) (H:QJ):Prop:=∀a w,Fr a C.n C.ds l->Hp C H w->WL r P ops Q rest a w
def AX.seq {x y:Code}(h:AX r P Y (.c y::K) x C l H):AX r P Y K (.seq x y) C l H:=λa w E I=>by
 refine wpIn_seq (wpIn_mono (h a w E I) λe a w hq=>?_);cases e<;>exact hq
def AX.reg {id:Nat}{lo:QT}(h:AL r P lo.toArray (kont r P Y K) lo C l H):AX r P Y K (.region id lo.toArray false) C l H:=λa w E I=>Z.reg (h a w E I)
def AL.done {ops:QU}(h:AE r P Y K .normal C l H):AL r P ops (kont r P Y K) [] C l H:=λa w E I=>Z.done (h a w E I)
def AE.c {y:Code}(h:AX r P Y K y C l H):AE r P Y (.c y::K) .normal C l H:=h
def AE.b {id:Nat}(h:AE r P Y K .normal C l H):AE r P Y (.b id::K) .normal C l H:=h
def AX.skip (h:AE r P Y K .normal C l H):AX r P Y K .skip C l H:=λa w E I=>wpIn_skip (h a w E I)
def AX.block {id:Nat}{c:Code}(h:AX r P Y (.b id::K) c C l H):AX r P Y K (.block id c) C l H:=λa w E I=>by
 refine wpIn_block (wpIn_mono (h a w E I) λe a w hq=>?_);cases e<;>first|exact hq|skip
def popx (id:Nat):List Kx->Option (List Kx)
 | []=>none
 | .b i::K=>bif Nat.beq i id then some K else popx id K
 |_::K=>popx id K
def popx_spec {id:Nat}{a:Act}{w:World}: ∀{K K':List Kx},popx id K=some K'->kont r P Y K' .normal a w->kont r P Y K (.exit id) a w
 | [],_,h,_=>by cases h
 | .b i::K,K',h,hq=>by
  unfold popx at h;show(if id=i then kont r P Y K .normal a w else kont r P Y K (.exit id) a w);cases E:Nat.beq i id with
  |true=>
   rw[E]at h;have h:some K=some K':=h;injection h with h;subst h
   rw[Qc (Qk E).symm];exact hq
  |false=>
   rw[E]at h;rw[Qb (λe=>by subst e;simp at E)];exact popx_spec h hq
 | .c y::K,K',h,hq=>popx_spec (K:=K) h hq
 | .m M::K,K',h,hq=>popx_spec (K:=K) h hq
 | .s::K,K',h,hq=>popx_spec (K:=K) h hq
def AX.exit {id:Nat}{K':List Kx}(e:popx id K=some K')(h:AE r P Y K' .normal C l H):AX r P Y K (.exit id) C l H:=λa w E I=>wpIn_exit (popx_spec e (h a w E I))
def kont_ret {a:Act}{w:World}: ∀{K:List Kx},Y .ret a w->kont r P Y K .ret a w
 | [],h=>h
 | .b _::K,h=>kont_ret (K:=K) h
 | .c _::K,h=>kont_ret (K:=K) h
 | .m _::K,h=>kont_ret (K:=K) h
 | .s::K,h=>kont_ret (K:=K) h
def AX.ret0 (h: ∀a w,Fr a C.n C.ds l->Hp C H w->Y .ret a w):AX r P Y K .ret C l H:=λa w E I=>wpIn_ret (kont_ret (h a w E I))
def AE.s (h:AE r P Y K .normal C l H):AE r P Y (.s::K) .normal C l H:=h
def AX.scope {c:Code}(h:AX none P Y (.s::K) c C l H):AX none P Y K (.scope c) C l H:=λa w E I=>by
 refine wpIn_wide.2 (wp_scope_straight ?_);have:=wpIn_wide.1 (h a w E I);refine Code.wp_mono (λe a w hq=>?_) this;cases e<;>exact hq
def AX.label {i:Nat}(h:AE r P Y K .normal C l H):AX r P Y K (.label i) C l H:=λa w E I=>wpIn_label (h a w E I)
def AX.cnd {ρ:Type}{A B R:Option ρ}{c:Operand}{x y:Code}{p:Prop}[Decidable p](N:ev l c=some (.bool (decide p)))(E:(if p then A else B)=R)(ht:p->A=R->AX r P Y K x C l H)(he: ¬p->B=R->AX r P Y K y C l H):AX r P Y K (.cond c x y) C l H:=λa w I W=>by
 by_cases hp:p;rw[Qc hp]at E;exact Z.condp I N (λ_=>ht hp E a w I W) (λh=>absurd hp h);rw[Qb hp]at E;exact Z.condp I N (λh=>absurd h hp) (λ_=>he hp E a w I W)
def AX.cnb {ρ:Type}{A B R:Option ρ}{c:Operand}{x y:Code}{b:Bool}(N:ev l c=some (.bool b))(E:(if b=true then A else B)=R)(ht:b=true->A=R->AX r P Y K x C l H)(he:b=false->B=R->AX r P Y K y C l H):AX r P Y K (.cond c x y) C l H:=λa w I W=>by
 cases b with
 |true=>rw[Qc rfl]at E;exact Z.condt I N (ht rfl E a w I W)
 |false=>rw[Qb (by simp)]at E;exact Z.condf I N (he rfl E a w I W)
def AX.cnt {c:Operand}{x y:Code}(I:ev l c=some (.bool true))(N:AX r P Y K x C l H):AX r P Y K (.cond c x y) C l H:=λa w E W=>Z.condt E I (N a w E W)
def AX.cnf {c:Operand}{x y:Code}(I:ev l c=some (.bool false))(N:AX r P Y K y C l H):AX r P Y K (.cond c x y) C l H:=λa w E W=>Z.condf E I (N a w E W)
def Fr.cov {a:Act}{n:Nat}{ds:List Deferred}{l':QI}(h:Fr a n ds l)(e:kp l (l'.map (·.1))=l'):Fr a n ds l':=e▸h.keep _
abbrev St (C:Cx) (l:QI) (H:QJ) (ks hs:QM) (J:QI->QJ->Prop):QH:=λa w=>∃nl nh,J nl nh/\Fr a C.n C.ds (cat nl (kp l ks))/\Hp C (hcat nh (kpH H hs hs)) w
def AX.join (ks E:QM)(J:QI->QJ->Prop){x y:Code}(h:AX r P Y (.m (St C l H ks E J)::K) x C l H)(I: ∀nl nh,J nl nh->AX r P Y K y C (cat nl (kp l ks)) (hcat nh (kpH H E E))):AX r P Y K (.seq x y) C l H:=λa w N W=>by
 refine wpIn_seq (wpIn_mono (h a w N W) λe a w hq=>?_);cases e with
 |normal=>obtain⟨nl,nh,hJ,hf',hh'⟩:=hq;exact I nl nh hJ a w hf' hh'
 |_=>exact hq
def AE.j {l':QI}{H':QJ}{ks E:QM}{J:QI->QJ->Prop}(gs:QM)(nl:QI)(nh:QJ)(I:J nl nh)(h1:kp l ((cat nl (kp l' ks)).map (·.1))=cat nl (kp l' ks):=by kernel_rfl)(h2:kpH H gs gs=hcat nh (kpH H' E E):=by kernel_rfl):
  AE r P Y (.m (St C l' H' ks E J)::K) .normal C l H:=λa w N W=>⟨nl,nh,I,Fr.cov N h1,W.cov gs h2⟩
def AX.loop (ks E gs:QM)(J:Nat->QI->QJ->Prop)(m:Nat)(nl:QI)(nh:QJ){x:Code}(I:J m nl nh)
  (h: ∀f nl nh,J f nl nh->AX r P Y (.m (St C l H ks E λnl nh=>∃f',f'<f/\J f' nl nh)::K) x C (cat nl (kp l ks)) (hcat nh (kpH H E E)))
  (h1:kp l ((cat nl (kp l ks)).map (·.1))=cat nl (kp l ks):=by kernel_rfl) (h2:kpH H gs gs=hcat nh (kpH H E E):=by kernel_rfl):AX r P Y K (.loop x) C l H:=λa w N W=>by
 refine Z.loop (λf a w=>St C l H ks E (J f) a w) m ⟨nl,nh,I,Fr.cov N h1,W.cov gs h2⟩ λf a w ⟨nl,nh,I,N,W⟩=>?_;refine wpIn_mono (h f nl nh I a w N W) λe a w hq=>?_;cases e with
 |normal=>obtain⟨nl,nh,⟨f',hlt,hJ'⟩,hf',hh'⟩:=hq;exact⟨f',hlt,nl,nh,hJ',hf',hh'⟩
 |_=>exact hq
end
def ix {α:Type}(xs:List α)(i:Int):Option α:=if i<0 then none else xs[i.toNat]?
def Qaq {α:Type}{xs:List α}{i:Int}{x:α}(h:ix xs i=some x): ∃k:Nat,i=(k:Int)/\xs[k]?=some x:=by
 unfold ix at h;split at h;cases h;exact⟨i.toNat,by omega,h⟩
def knb (H:QJ):QM->List (Nat×QQ×QL)
 | []=>[]
 |k::ks=>match hk H k with
  |some (.blk g e cs)=>(g,e,cs)::knb H ks
  |_=>knb H ks
def kne (H:QJ):QM->List (Addr×QL)
 | []=>[]
 |k::ks=>match hk H k with
  |some (.el _ b o cs)=>(⟨b,o,none⟩,cs)::kne H ks
  |_=>kne H ks
def o_dt {C:Cx}{H:QJ}{w:World}(h:Hp C H w)(bs es:QM):Kn.ok ⟨knb H bs,kne H es⟩ w:=by
 refine⟨?_,?_⟩;induction bs with
 |nil=>intro b E;cases E
 |cons k ks ih=>
  intro b E;unfold knb at E;split at E;rename_i g e cs I;rcases Qn.1 E with rfl|E
  exact h.hold k _ I;exact ih b E;exact ih b E
 induction es with
 |nil=>intro b E;cases E
 |cons k ks ih=>
  intro b E;unfold kne at E;split at E;rename_i j g o cs I;rcases Qn.1 E with rfl|E
  exact(h.hold k _ I).1;exact ih b E;exact ih b E
section
variable {r:QN}{P:QR}{ops:QU}{Q:QG}{rest lst:QT}{C:Cx}{l:QI}{H:QJ}{d:Nat}{op:Op}{T:QQ}{pos:String}{af:Array Edge}
def AL.q (bs es:QM)(E:List Hint)(ks:QM)(cs:List Prop)(nl:QI)(N:conj cs)(h:AL r P ops Q (lst.drop E.length) C (cat nl l) H)
  (hq:((qs P ⟨knb H bs,kne H es⟩ C.n ops E lst (q0 l)).bind (qfin l ks))=some (cs,nl):=by kernel_rfl)
  (W:(qs P ⟨knb H bs,kne H es⟩ C.n ops E lst (q0 l)).map (λs=>s.q.map Prod.fst)=(qs P ⟨knb H bs,kne H es⟩ C.n ops E lst (q0 l)).map (λs=>s.q.map Prod.snd):=by kernel_rfl):AL r P ops Q lst C l H:=λa w hf I=>
 Z.qr E ks cs nl (o_dt I bs es) hf (λa' hf'=>h a' w hf' I) N hq W
def AL.val {v:Value}(N:Nat.ble (d+1) C.n=true)(W: ∀a w,Fr a C.n C.ds l->Hp C H w->(execOp a.eval ⟨some d,op,T,pos,af,none⟩).run P w=.ok (.value v) w)(h:AL r P ops Q rest C ((d,v)::l) H):AL r P ops Q (⟨some d,op,T,pos,af,none⟩::rest) C l H:=
 λa w E I=>Z.val E N (W a w E I) λa' hf'=>h a' w hf' I
def AL.on {dst:Option Tmp}{j dj:Nat}{b:Bool}(I:(ops[j]?).bind (·.dst)=some dj)(N:lk l dj=some (.bool b))(h:AL r P ops Q (⟨dst,op,T,pos,af,none⟩::rest) C l H):AL r P ops Q (⟨dst,op,T,pos,af,some (j,b)⟩::rest) C l H:=
 λa w E W=>Z.on E I N (h a w E W)
def AL.cnd {ρ:Type}{A B R:Option ρ}{j:Nat}{b:Bool}(N:lk l j=some (.bool b))(E:(if b=true then A else B)=R)(ht:A=R->AL r P ops Q rest C ((j,.bool true)::l) H)(he:B=R->AL r P ops Q rest C ((j,.bool false)::l) H):AL r P ops Q rest C l H:=λa w I W=>by
 cases b with
 |true=>rw[Qc rfl]at E;exact ht E a w (I.cons I N) W
 |false=>rw[Qb (by simp)]at E;exact he E a w (I.cons I N) W
def AL.cnp {ρ:Type}{A B R:Option ρ}{j:Nat}{p:Prop}[Decidable p](N:lk l j=some (.bool (decide p)))(E:(if p then A else B)=R)(ht:p->A=R->AL r P ops Q rest C ((j,.bool true)::l) H)(he: ¬p->B=R->AL r P ops Q rest C ((j,.bool false)::l) H):AL r P ops Q rest C l H:=λa w I W=>by
 by_cases hp:p;rw[Qc hp]at E;exact ht hp E a w (I.cons I (by rw[N,Q4 hp])) W;rw[Qb hp]at E;exact he hp E a w (I.cons I (by rw[N,Wu hp])) W
def Qdy {K K':Lf->Prop}: ∀{n:Nat},(∀ps,K ps->K' ps)->tele n K->tele n K'
 |0,h,hk=>h [] hk
 |n+1,h,hk=>λA c=>Qdy (λps=>h ((A,c)::ps)) (hk A c)
def AL.ixc {t:Ty}{A:QK}{c kn:Nat}{xs:List t.den}{ko:QN}{x y:Operand}{i:Int}{kd:IntKind}{v:t.den}{e tt:QQ}
  (hrow: ∀w,Hp C H w->∃G:Nat->Prop,Row t w (Fh C H) G A c xs/\∀b,G b->match ko with|none=>∀k,¬Bk H k b|some k=>Bk H k b)
  (hko: ∀j,ko=some j->∀r,hk H j=some r->r.ref=none) (hx:ev l x=some (.slice A xs.length c)) (hy:ev l y=some (.int kd i)) (hi:ix xs i=some v) (ht:P.underlying tt=some (.slice e)) (hs:szB P e=some t.size)
  (h:t.ok v->tele (lv t) λps=>∀b o,(∃w,Hp C H w/\A=some ⟨b,o,none⟩)->AL r P ops Q rest C ((d,.pointer (some ⟨b,o+i.toNat*t.size,none⟩))::l) (hcat (kx (kn+1) (rs t v ps)) ((kn,.el ko b (o+i.toNat*t.size) (cl t v ps))::H)))
  (hd:Nat.ble (d+1) C.n=true) (hn: ∀ps:Lf,ps.length=lv t->nok H kn (1+(rs t v ps).length)=true):AL r P ops Q (⟨some d,.indexAddr tt x y,T,pos,af,none⟩::rest) C l H:=λa w hf hh=>by
 obtain⟨k,rfl,hv⟩:=Qaq hi;obtain⟨G,hR,hG⟩:=hrow w hh;obtain⟨b,o,es,hA,hb,hbl,hc,W⟩:=hR.at hv;obtain⟨ps,hl,rfl,hrs⟩:=rep_cl (B:=Bk H) t (Qal t W);have hlt:=(Qe.1 hv).1;have hn':=hn ps hl;have N:hk H kn=none:=Qcd hn' (Qr _) (by omega);have h1:Hp C ((kn,.el ko b (o+k*t.size) (cl t v ps))::H) w:=hh.add N rfl (λj E r W=>hko j E r W) ⟨hc,hbl,by
  have:=hG b hb;cases ko<;>exact this⟩
 have hnn: ∀n k',nok H k' n=true->(∀j,k'<=j->j<k'+n->j≠kn)->nok ((kn,.el ko b (o+k*t.size) (cl t v ps))::H) k' n=true:=by
  intro n;induction n with
  |zero=>intro _ _ _;rfl
  |succ n ih=>
   intro k' h2 h3;simp only[nok,Qd]at h2 ⊢;refine⟨?_,ih (k'+1) h2.2 λj h4 h5=>h3 j (by omega) (by omega)⟩;rw[Qab,Qb (Ne.symm (h3 k' (Qr _) (by omega)))];exact h2.1
 have hn2:nok H (kn+1) (rs t v ps).length=true:=by
  rw[Y6 1]at hn';simp only[nok,Qd]at hn';exact hn'.2
 have h2:Hp C (hcat (kx (kn+1) (rs t v ps)) ((kn,.el ko b (o+k*t.size) (cl t v ps))::H)) w:=by
  refine h1.adds (hnn _ _ hn2 λj h4 _=>by omega) λr2 h4=>?_;obtain⟨h5,h6,h7⟩:=hrs r2 h4;have I: ∀j b',Bk ((kn,.el ko b (o+k*t.size) (cl t v ps))::H) j b'↔Bk H j b':=λj b'=>by
   by_cases E:j=kn;subst E;rw[Bk.cons_eq];exact⟨λh=>by simp[Res.bl]at h,λ⟨_,h8,_⟩=>by rw[N]at h8;cases h8⟩;exact Bk.cons_ne E
  exact⟨h6,h7,Res.to h5 (S:=[]) (Ch.refl w) (λb' hF _=>⟨by simp,⟨λj E=>hF.1.1 j ((I j b').1 E),hF.1.2⟩,hF.2⟩) (λb' hB _=>⟨by simp,λj E=>hB j ((I j b').1 E)⟩) (λi b' _ hB=>⟨by simp,(I i b').2 hB⟩) (by simp)⟩
 subst hA;refine Z.val (v:=.pointer (some ⟨b,o+k*t.size,none⟩)) hf hd ?_ λa' hf'=>Qbq (h (rep_ok t W)) ps hl b o ⟨w,hh,rfl⟩ a' w hf' h2;have:=r_indexAddrA (P:=P) (w:=w) (d:=some d) (T:=T) (pos:=pos) (af:=af) (gd:=none) ht (Qaf hs) (hf.eval hx) rfl (hf.eval hy) rfl hlt;rw[Wf]at this;exact this
def Qdl: ∀(t:Ty) (v:t.den) (ps:Lf),ps.length=lv t->(rs t v ps).length=lv t
 | .int _,_,_,_=>rfl
 | .byte,_,_,_=>rfl
 | .bool,_,_,_=>rfl
 | .str,_,_,_=>rfl
 | .slice _,_,[p],_=>rfl
 | .slice _,_,[],h=>by cases h
 | .slice _,_,_::_::_,h=>by simp[lv]at h
 | .pair a b,v,ps,h=>by
  simp only[rs,Qz];simp only[lv]at h;rw[Qdl a v.1 _ (by rw[Qx];omega),Qdl b v.2 _ (by rw[W7];omega)];rfl
def rowS {k:Nat}{t:Ty}{A:QK}{c:Nat}{xs:List t.den}(h:hk H k=some (.sh (.slice t) [.slice A xs.length c] xs))(w:World)(E:Hp C H w): ∃G:Nat->Prop,Row t w (Fh C H) G A c xs/\∀b,G b->∀k,¬Bk H k b:=
 ⟨Fh C H,Row.of (E.hold k _ h),λ_ I=>I.1⟩
def rowL {k:Nat}{t:Ty}{A:QK}{c:Nat}{xs:List t.den}(h:hk H k=some (.ln t A c xs))(w:World)(E:Hp C H w): ∃G:Nat->Prop,Row t w (Fh C H) G A c xs/\∀b,G b->∀k,¬Bk H k b:=
 ⟨_,E.hold k _ h,λ_ I=>I⟩
def rowO {k:Nat}{t:Ty}{e:QQ}{A:QK}{c:Nat}{xs:List t.den}(h:hk H k=some (.own t e A c xs))(w:World)(E:Hp C H w): ∃G:Nat->Prop,Row t w (Fh C H) G A c xs/\∀b,G b->Bk H k b:=
 ⟨λb=>b∈obl A,Row.own (E.hold k _ h) λ_ h=>h,λ_ I=>⟨_,h,I⟩⟩
def AL.ixs (k kn:Nat){t:Ty}{A:QK}{c:Nat}{xs:List t.den}{x y:Operand}{i:Int}{kd:IntKind}{v:t.den}{e tt:QQ}(I:ix xs i=some v)
  (h:t.ok v->tele (lv t) λps=>∀b o,AL r P ops Q rest C ((d,.pointer (some ⟨b,o,none⟩))::l) (hcat (kx (kn+1) (rs t v ps)) ((kn,.el none b o (cl t v ps))::H)))
  (E:hk H k=some (.sh (.slice t) [.slice A xs.length c] xs):=by rfl) (hx:ev l x=some (.slice A xs.length c):=by rfl) (N:ev l y=some (.int kd i):=by rfl) (W:P.underlying tt=some (.slice e):=by rfl) (hs:szB P e=some t.size:=by kernel_rfl)
  (hd:Nat.ble (d+1) C.n=true:=by rfl) (hn:nok H kn (1+lv t)=true:=by kernel_rfl):AL r P ops Q (⟨some d,.indexAddr tt x y,T,pos,af,none⟩::rest) C l H:=
 AL.ixc (ko:=none) (rowS E) (λ_ h=>by cases h) hx N I W hs (λho=>Qdy (λps h b o _=>h b _) (h ho)) hd λps hl=>by rw[Qdl t v ps hl];exact hn
def AL.ixl (k kn:Nat){t:Ty}{A:QK}{c:Nat}{xs:List t.den}{x y:Operand}{i:Int}{kd:IntKind}{v:t.den}{e tt:QQ}(I:ix xs i=some v)
  (h:t.ok v->tele (lv t) λps=>∀b o,AL r P ops Q rest C ((d,.pointer (some ⟨b,o,none⟩))::l) (hcat (kx (kn+1) (rs t v ps)) ((kn,.el none b o (cl t v ps))::H)))
  (E:hk H k=some (.ln t A c xs):=by rfl) (hx:ev l x=some (.slice A xs.length c):=by rfl) (N:ev l y=some (.int kd i):=by rfl) (W:P.underlying tt=some (.slice e):=by rfl) (hs:szB P e=some t.size:=by kernel_rfl)
  (hd:Nat.ble (d+1) C.n=true:=by rfl) (hn:nok H kn (1+lv t)=true:=by kernel_rfl):AL r P ops Q (⟨some d,.indexAddr tt x y,T,pos,af,none⟩::rest) C l H:=
 AL.ixc (ko:=none) (rowL E) (λ_ h=>by cases h) hx N I W hs (λho=>Qdy (λps h b o _=>h b _) (h ho)) hd λps hl=>by rw[Qdl t v ps hl];exact hn
def AL.ixo (k kn:Nat){t:Ty}{e':QQ}{A:QK}{c:Nat}{xs:List t.den}{x y:Operand}{i:Int}{kd:IntKind}{v:t.den}{e tt:QQ}(hi:ix xs i=some v)
  (h:t.ok v->tele (lv t) λps=>∀g,A=some ⟨g,0,none⟩->AL r P ops Q rest C ((d,.pointer (some ⟨g,i.toNat*t.size,none⟩))::l) (hcat (kx (kn+1) (rs t v ps)) ((kn,.el (some k) g (i.toNat*t.size) (cl t v ps))::H)))
  (E:hk H k=some (.own t e' A c xs):=by rfl) (hx:ev l x=some (.slice A xs.length c):=by rfl) (hy:ev l y=some (.int kd i):=by rfl) (ht:P.underlying tt=some (.slice e):=by rfl) (hs:szB P e=some t.size:=by kernel_rfl)
  (hd:Nat.ble (d+1) C.n=true:=by rfl) (hn:nok H kn (1+lv t)=true:=by kernel_rfl):AL r P ops Q (⟨some d,.indexAddr tt x y,T,pos,af,none⟩::rest) C l H:=
 AL.ixc (ko:=some k) (rowO E) (λj h r I=>by injection h with h;subst h;rw[E]at I;injection I with I;subst I;rfl) hx hy hi ht hs (λho=>Qdy (λps h b o ⟨w,hh,N⟩=>by
  obtain⟨cells,hrow,_⟩:Own t e' 0 w (Fh C H) A c xs:=hh.hold k _ E;rcases hrow.2 with⟨W,_⟩|⟨g,cap,cur,W,_⟩
  injection W with hA' _ _;rw[N]at hA';cases hA'
  injection W with hA' _ _;rw[N]at hA';injection hA' with hA';injection hA' with h1 h2 _;subst h2;have:=h b N;simpa using this) (h ho)) hd λps hl=>by rw[Qdl t v ps hl];exact hn
def AL.box (k:Nat){e:QQ}{x:Operand}{v:Value}{cs:QL}(h: ∀g,AL r P ops Q rest C ((d,.pointer (some ⟨g,0,none⟩))::l) ((k,.blk g e cs)::H))
  (hx:ev l x=some v:=by rfl) (I:v.cells=cs.toArray:=by rfl) (N:Nat.ble (d+1) C.n=true:=by rfl) (W:hk H k=none:=by kernel_rfl):AL r P ops Q (⟨some d,.box e x,T,pos,af,none⟩::rest) C l H:=λa w hf hh=>
 Z.st_box hf N hx I λg w' a' hg hs hb E hf'=>h g a' w' hf' (hh.new W E (λb hb'=>by simp only[Res.bl,Qq]at hb';omega) (λj hj=>by cases hj) λ_ _ _ _ _=>hb)
def AL.alloc (k:Nat){e:QQ}{z:Value}{cs:QL}(I: ∀w,(zeroValue e).run P w=.ok z w)(h: ∀g,AL r P ops Q rest C ((d,.pointer (some ⟨g,0,none⟩))::l) ((k,.blk g e cs)::H))
  (N:z.cells=cs.toArray:=by rfl) (W:Nat.ble (d+1) C.n=true:=by rfl) (hn:hk H k=none:=by kernel_rfl):AL r P ops Q (⟨some d,.alloc e,T,pos,af,none⟩::rest) C l H:=λa w hf hh=>
 Z.st_alloc hf W I N λg w' a' hg hs hb E hf'=>h g a' w' hf' (hh.new hn E (λb hb'=>by simp only[Res.bl,Qq]at hb';omega) (λj hj=>by cases hj) λ_ _ _ _ _=>hb)
def AL.store (k:Nat)(js:QM){t bt:QQ}{x y:Operand}{g o m:Nat}{cs new cs':QL}{v:Value}(h:AL r P ops Q rest C l ((k,.blk g bt cs')::ded js H))
  (I:hk H k=some (.blk g bt cs):=by rfl) (hx:ev l x=some (.pointer (some ⟨g,o,none⟩)):=by rfl) (hy:ev l y=some v:=by rfl) (hS:szB P t=some m:=by kernel_rfl)
  (hv:v.cells=new.toArray:=by rfl) (hm:new.length=m:=by rfl) (ho:Nat.ble (o+m) cs.length=true:=by rfl) (h1:new.all (λu=>u.oneCell')=true:=by rfl) (hc:cs.take o++new++cs.drop (o+m)=cs':=by rfl) (N:hng [k] js H=true:=by kernel_rfl):
  AL r P ops Q (⟨none,.store t x y,T,pos,af,none⟩::rest) C l H:=λa w hf hh=>
 Z.st_store hf (hh.hold k _ I) hx hy (Qaf hS) hv hm ho (λu hu=>Q5.1 h1 u hu) hc λw' a' hs hb' W hf'=>
  h a' w' hf' (Hp.dd (hh.upd W (λb E=>⟨_,I,E⟩) (λb E=>.inl ⟨_,I,E⟩) (λj N=>by cases N) λ_ _ _ _ _ _ _=>hb') N)
def Dat (H:QJ):(t:Ty)->QL->t.den->Prop
 | .int k,cs,x=>cs=[.int k x]/\k.has x
 | .byte,cs,x=>cs=[.int .u8 (x.toNat:Int)]
 | .bool,cs,x=>cs=[.bool x]
 | .str,cs,x=>cs=[.string x]/\x.size<=maxLen
 | .slice e,cs,xs=>(∃k,hk H k=some (.sh (.slice e) cs xs))\/(cs=[.slice none 0 0]/\xs=[])
 | .pair a b,cs,x=>Dat H a (cs.take a.size) x.1/\Dat H b (cs.drop a.size) x.2
def Dat.rep {w:World}(E:Hp C H w): ∀(t:Ty) {cs:QL} {x:t.den},Dat H t cs x->t.rep w (Fh C H) cs x
 | .int _,_,_,h=>h
 | .byte,_,_,h=>h
 | .bool,_,_,h=>h
 | .str,_,_,h=>h
 | .slice e,cs,xs,h=>by
  rcases h with⟨k,h⟩|⟨h1,h2⟩
  exact E.hold k _ h;subst h1;subst h2;exact Qhl e
 | .pair a b,cs,x,h=>⟨_,_,(X4 a.size cs).symm,Dat.rep E a h.1,Dat.rep E b h.2⟩
def Dats (H:QJ)(t:Ty):QL->List t.den->Prop
 |cs,[]=>cs=[]
 |cs,x::xs=>Dat H t (cs.take t.size) x/\Dats H t (cs.drop t.size) xs
def Dats.all {w:World}(N:Hp C H w){t:Ty}: ∀{cs:QL} {xs:List t.den},Dats H t cs xs->cs.length=xs.length*t.size/\(∀u∈cs,u.oneCell'=true)/\∀(i:Nat) (x:t.den),xs[i]?=some x->t.rep w (Fh C H) ((cs.drop (i*t.size)).take t.size) x
 |cs,[],h=>by
  have h:cs=[]:=h;subst h;exact⟨by simp,by simp,λi x E=>by simp at E⟩
 |cs,x::xs,h=>by
  obtain⟨h1,h2⟩:=h;obtain⟨W,h4,h5⟩:=Dats.all N h2;have I:=Dat.rep N t h1;have hl:=Qkg t I;rw[Qx]at hl;rw[W7]at W;have hlen:cs.length=(xs.length+1)*t.size:=by rw[Vf,<-W];omega
  refine⟨hlen,λu hu=>?_,λi y E=>?_⟩;rw[<-X4 t.size cs,Q8]at hu;exact hu.elim (Qgy t I u) (h4 u);cases i with
  |zero=>
   simp only[Wp,Qg]at E;subst E;rw[Jg,X5];exact I
  |succ i=>
   rw[Ww]at E;have:=h5 i y E;rw[Yq]at this;rw[Vf,Y6];exact this
def AL.bsl (k:Nat){ty:Ty}{t e:QQ}{len sz:Nat}{z:Value}{parts:List (Nat×Operand)}{vs:QI}{cs:QL}(xs:List ty.den)(hD:Dats H ty cs xs)
  (h: ∀g,AL r P ops Q rest C ((d,.slice (some ⟨g,0,none⟩) len len)::l) ((k,.own ty e (some ⟨g,0,none⟩) len xs)::H))
  (hz: ∀w,(zeroValue e).run P w=.ok z w) (hS: ∀w,(sizeOf e).run P w=.ok sz w) (I:xs.length=len:=by rfl) (N:ty.size=sz:=by rfl)
  (hp:evp l parts=some vs:=by rfl) (ht:P.underlying t=some (.slice e):=by rfl) (hs:Nat.ble (len*sz) 16777216=true:=by rfl) (h0:Nat.ble 1 (len*sz)=true:=by rfl)
  (hc:Instr.fill (λi=>some (i*sz,sz)) ((Array.range (len*sz)).map (z.cells[· %z.cells.size]!)) vs=some cs.toArray:=by kernel_rfl)
  (hd:Nat.ble (d+1) C.n=true:=by rfl) (hn:hk H k=none:=by kernel_rfl):AL r P ops Q (⟨some d,.buildSlice t len parts.toArray,T,pos,af,none⟩::rest) C l H:=λa w hf hh=>by
 subst I;subst N;refine Z.st_bslice hf hd ht hS hz hp hs h0 hc λg w' a' hg hs' W E hf'=>h g a' w' hf' (hh.new hn E (λb hb'=>?_) (λj hj=>by cases hj) λF B h1 _ _=>?_);simp only[Res.bl,obl,Qq]at hb';omega;obtain⟨d1,d2,d3⟩:=Dats.all hh hD;refine Own.made (B:=0) W (Ya _) d1 ?_ d2 λi x hi=>rep_to (d3 i x hi) E λb W I=>⟨by simp,h1 b W I⟩;have:=Qm hs;have h2:xs.length<=xs.length*ty.size:=Y1 _ (Qax ty);simp only[maxLen];omega
def AL.bs0 (k:Nat)(ty:Ty){t e:QQ}(h: ∀g,AL r P ops Q rest C ((d,.slice (some ⟨g,0,none⟩) 0 0)::l) ((k,.own ty e (some ⟨g,0,none⟩) 0 [])::H))
  (I: ∀w,(sizeOf e).run P w=.ok ty.size w) (N:P.underlying t=some (.slice e):=by rfl) (W:Nat.ble (d+1) C.n=true:=by rfl) (hn:hk H k=none:=by kernel_rfl):AL r P ops Q (⟨some d,.buildSlice t 0 #[],T,pos,af,none⟩::rest) C l H:=λa w hf hh=>
 Z.st_bslice0 hf W N I λg w' a' hg hs' hb E hf'=>h g a' w' hf' (hh.new hn E (λb hb'=>by simp only[Res.bl,obl,Qq]at hb';omega) (λj hj=>by cases hj) λF B h1 _ _=>Own.made (t:=ty) (xs:=[]) (B:=0) hb (Ya _) (by simp) (by simp[maxLen]) (by simp) (λi x hi=>by simp at hi))
def Hp.frz {w:World}(I:Hp C H w){k:Nat}{t:Ty}{e:QQ}{A:QK}{c:Nat}{xs:List t.den}(h:hk H k=some (.own t e A c xs)):Hp C ((k,.sh (.slice t) [.slice A xs.length c] xs)::drp k H) w:=
 I.upd (S:=[]) (Ch.refl w) (by simp) (by simp[Res.bl]) (λj N=>by cases N) λF B h1 h2 _ _ _=>by
  have W:Own t e 0 w (Fh C H) A c xs:=I.hold k _ h;obtain⟨cells,hr,o1,o2⟩:=W;have hO':Own t e 0 w F A c xs:=⟨cells,hr,o1,λi x hi=>Qga (o2 i x hi) λb E hl=>h1 b E hl⟩;exact hO'.rep (λ_ h=>h) λb E=>h2 b ⟨_,h,E⟩ (by simp[Res.bl])
end
def Row.cells {t:Ty}{w:World}{F G:Nat->Prop}{A:QK}{c:Nat}{xs:List t.den}(h:Row t w F G A c xs): ∃cells:QL,cells.length=xs.length*t.size/\(∀u∈cells,u.oneCell'=true)/\(xs.length=0\/∃ad,A=some ad/\∀j u,cells[j]?=some u->w.cell? (ad.add j)=some u)/\
  ∀(i:Nat) (x:t.den),xs[i]?=some x->t.rep w F ((cells.drop (i*t.size)).take t.size) x:=by
 obtain⟨h2,h3,cells,N,E,h6⟩:=h;refine⟨cells,N,λu I=>?_,?_,h6⟩;obtain⟨j,W,rfl⟩:=Yn I;have hs:=Qax t;have hi:j / t.size<xs.length:=Nat.div_lt_of_lt_mul (by rw[Nat.mul_comm,<-N];exact W);have hr:=h6 (j / t.size) _ (Qj hi);refine Qgy t hr _ (Qu (i:=j%t.size) ?_);rw[Wt (Nat.mod_lt _ hs),Wj,Nat.mul_comm,Nat.div_add_mod];exact Qj W;rcases E with E|⟨b,o,rfl,hb,hcell⟩
 exact .inl E;exact .inr ⟨_,rfl,λj u I=>by rw[Wf];exact hcell j u I⟩
section
variable {P:QR}{t:Ty}{e:QQ}{B:Nat}{w:World}{F G:Nat->Prop}{A:QK}{c:Nat}{xs:List t.den}
def run_appendR {tt ty:QQ}{i:TypeInfo}{z:Value}{bytes:Nat}(ht:P.underlying tt=some (.slice e))(E:P.info? e=some i)(hz:i.zero=some z)(hsize:i.size=t.size)(hby:i.bytes=bytes)
  (hzs:z.cells.size=t.size) (hown:Own t e B w F A c xs) {A2:QK} {c2:Nat} {ys:List t.den} (hr:Row t w F G A2 c2 ys) (h63:(xs.length+ys.length)*bytes<=140737488355328)
  (hbp:0<bytes) (hA: ∀b,F b->b∉obl A) (hB:B<=w.heap.size):
  ∃A' c' w',(Builtin.append_ #[tt,tt] ty #[.slice A xs.length c,.slice A2 ys.length c2]).run P w=.ok (.slice A' (xs.length+ys.length) c') w'/\Own t e B w' F A' c' (xs++ys)/\Ch (obl A) w w'/\
   (∀k,k∈obl A'->k∈obl A\/k=w.heap.size):=by
 obtain⟨cells,hrow,h1,h2⟩:=hown;obtain⟨news,hnl,hn1,I,hn3⟩:=hr.cells;have hsz:=Qax t;have hbig:xs.length+ys.length<=maxLen:=by
  have:xs.length+ys.length<=(xs.length+ys.length)*bytes:=Y1 _ hbp;simp only[maxLen];omega
 by_cases hz2:ys.length=0;have hy:ys=[]:=Wz hz2;subst hy;have hrun:(Builtin.append_ #[tt,tt] ty #[.slice A xs.length c,.slice A2 0 c2]).run P w=.ok (.slice A xs.length c) w:=by
  rcases hrow.2 with⟨N,hn⟩|⟨g,cap,cur,N,_,_,hnc,_⟩
  injection N with hA' hn' hc
  subst hA';subst hc;cases A2<;>simp[Builtin.append_,Ql ht,sizeOf,typeInfo,E,Builtin.lenOf,Builtin.firstCells,hn,loadCells,loadCellsFrom];injection N with hA' hn' hc
  subst hA';subst hc;cases A2<;>simp[Builtin.append_,Ql ht,sizeOf,typeInfo,E,Builtin.lenOf,Builtin.firstCells,hnc,storeCells,loadCells,loadCellsFrom]
 refine⟨A,c,w,by simpa using hrun,⟨cells,by simpa using hrow,h1,by simpa using h2⟩,Ch.refl' _ _,λk hk=>.inl hk⟩;rcases I with I|⟨ad,rfl,hcell⟩
 exact absurd I hz2;obtain⟨v',w',hrun,h3,h4,_,h5⟩:=run_append_own_at (P:=P) w B tt ty e i z t.size bytes ht E hz hsize hby hzs hsz _ xs.length cells hrow ad ys.length c2 news hnl hcell hn1 hbig h63 hB;have hform: ∃A' c',v'=.slice A' (xs.length+ys.length) c':=by
  rcases h3.2 with⟨N,hn⟩|⟨g,cap,cur,N,_⟩
  exact⟨none,0,by rw[N,show xs.length+ys.length=0 from by omega]⟩;exact⟨_,_,N⟩
 obtain⟨A',c',rfl⟩:=hform;have W:Ch (obl A) w w':=by have:=Ch.of_grown h4;rwa[ownBlock_slice]at this
 refine⟨A',c',w',hrun,⟨cells++news,?_,?_,?_⟩,W,λk hk=>?_⟩;rw[Qz];exact h3;intro u hu;rcases Q8.1 hu with hu|hu
 exact h1 u hu;exact hn1 u hu;exact Qgn hrow.1 (λi x E=>rep_ch W hA t (h2 i x E)) (λi x E=>rep_ch W hA t (hn3 i x E));rcases h5 with h5|h5
 left;have:obl A'=obl A:=by rw[<-ownBlock_slice A' (xs.length+ys.length) c',h5,ownBlock_slice]
 rwa[<-this];right;have:obl A'=[w.heap.size]:=by rw[<-ownBlock_slice A' (xs.length+ys.length) c',h5];rfl
 rw[this]at hk;simpa using hk
def Own.take (h:Own t e B w F A c xs){k:Nat}(hk:k<=xs.length):Own t e B w F A c (xs.take k):=by
 obtain⟨cells,hr,h1,h2⟩:=h;have I:(xs.take k).length=k:=by rw[Qx];omega
 have hmul:k*t.size<=xs.length*t.size:=Wr _ hk;refine⟨cells.take (k*t.size),⟨by rw[Qx,hr.1,I];omega,?_⟩,λu hu=>h1 u (Jd hu),λi x hi=>?_⟩;rcases hr.2 with⟨N,hn⟩|⟨g,cap,cur,N,hb,hg,hnc,W,hcs,htake⟩
 left;injection N with hA' _ hc
 subst hA';subst hc;exact⟨by rw[I];congr 1;omega,by omega⟩;right;injection N with hA' _ hc
 subst hA';subst hc;refine⟨g,c,cur,rfl,hb,hg,by omega,W,hcs,?_⟩;rw[I,<-htake,Jv,Xx hmul];have E:i<k:=by
  have:=(Qe.1 hi).1;omega
 have hx:xs[i]?=some x:=by rwa[Wt E]at hi
 have:=h2 i x hx;have hm:(i+1)*t.size<=k*t.size:=Wr _ E;rw[Xq,Y5]at hm;rw[Ju,Jv,Xx (by omega)];exact this
end
section
variable {r:QN}{P:QR}{ops:QU}{Q:QG}{rest lst:QT}{C:Cx}{l:QI}{H:QJ}{d:Nat}{op:Op}{T:QQ}{pos:String}{af:Array Edge}
def AL.app {k:Nat}(js:QM){t:Ty}{tt e:QQ}{x y:Operand}{i:TypeInfo}{z:Value}{bytes m n1 n2:Nat}{A A2:QK}{c c2:Nat}{xs ys:List t.den}{kp':(Nat->Prop)->Prop}(hrow: ∀w,Hp C H w->∃G:Nat->Prop,Row t w (Fh C H) G A2 c2 ys/\kp' G)
  (hinf:P.info? e=some i/\i.zero=some z/\i.size=m/\i.bytes=bytes/\z.cells.size=m) (hl:(xs.length+ys.length)*bytes<=140737488355328)
  (h: ∀A' c',AL r P ops Q rest C ((d,.slice A' (xs++ys).length c')::l) ((k,.own t e A' c' (xs++ys))::ded js H))
  (I:hk H k=some (.own t e A c xs):=by rfl) (hx:ev l x=some (.slice A n1 c):=by rfl) (hy:ev l y=some (.slice A2 n2 c2):=by rfl) (hn1:n1=xs.length:=by rfl) (hn2:n2=ys.length:=by rfl) (hm:m=t.size:=by rfl) (W:Nat.ble 1 bytes=true:=by rfl)
  (ht:P.underlying tt=some (.slice e):=by rfl) (hd:Nat.ble (d+1) C.n=true:=by rfl) (hj:hng [k] js H=true:=by kernel_rfl):AL r P ops Q (⟨some d,.call {callee:=.builtin .append,args:=#[x,y],argTypes:=#[tt,tt]},T,pos,af,none⟩::rest) C l H:=λa w hf hh=>by
 subst hn1;subst hn2;subst hm;obtain⟨N,hz,hsize,hby,hzs⟩:=hinf;obtain⟨G,hR,_⟩:=hrow w hh;have hO:Own t e 0 w (Fh C H) A c xs:=hh.hold k _ I;obtain⟨A',c',w',hrun,h1,h2,h3⟩:=run_appendR (P:=P) (ty:=T) ht N hz hsize hby hzs hO hR hl (Qm W) (λb E hbA=>E.1 k ⟨_,I,hbA⟩) (Ya _);refine Z.valw (w':=w') (v:=.slice A' (xs++ys).length c') hf hd ?_ λa' hf'=>h A' c' a' w' hf' (Hp.dd (hh.upd h2 (λb E=>⟨_,I,E⟩) (λb E=>?_) (λj hj=>by cases hj) λF B hF _ _ _ hB=>?_) hj);rw[Qz];simp only[execOp,resolve,invoke,builtin,Qp,Qs,Qi,Yg,Wc,Ji,hf.eval hx,hf.eval hy,hrun];rcases h3 b E with h4|h4
 exact .inl ⟨_,I,h4⟩;exact .inr ⟨by omega,(h1.lt b E).2⟩;obtain⟨cells,o1,o2,o3⟩:=h1;obtain⟨cells0,p1,p2,p3⟩:=hO;obtain⟨cells2,q1,q2,q3,q4⟩:=hR.cells;have hFo: ∀b,Fh C H b->b∉obl A:=λb E hbA=>E.1 k ⟨_,I,hbA⟩;have h1':Own t e 0 w' (Fh C H) A' c' (xs++ys):=⟨cells,o1,o2,o3⟩;have hOi:Own t e 0 w (λb=>Fh C H b/\b<w.heap.size) A c xs:=⟨cells0,p1,p2,λi x N=>Qal t (p3 i x N)⟩;have hRi:Row t w (λb=>Fh C H b/\b<w.heap.size) (λ_=>True) A2 c2 ys:=by
  obtain⟨r1,r2,cs,r3,r4,r5⟩:=hR;refine⟨r1,r2,cs,r3,?_,λi x N=>Qal t (r5 i x N)⟩;rcases r4 with r4|⟨b,o,r4,_,r6⟩
  exact .inl r4;exact .inr ⟨b,o,r4,trivial,r6⟩
 obtain⟨A3,c3,w3,hrun3,h13,h23,_⟩:=run_appendR (P:=P) (ty:=T) ht N hz hsize hby hzs hOi hRi hl (Qm W) (λb E=>hFo b E.1) (Ya _);rw[hrun]at hrun3;injection hrun3 with e1 e2
 injection e1 with e1 _ e3
 subst e1;subst e2;subst e3;exact h13.more λb E=>hF b E.1 E.2
def AL.mks (k:Nat){t:Ty}{tt e:QQ}{x y:Operand}{i:TypeInfo}{z:Value}{bytes m u:Nat}{k1 k2:IntKind}{p q:Int}(z0:t.den)(hu:bytes*u<=140737488355328)(hinf:P.info? e=some i/\i.zero=some z/\i.size=m/\i.bytes=bytes/\z.cells.size=m)
  (h: ∀g,AL r P ops Q rest C ((d,.slice (some ⟨g,0,none⟩) u u)::l) ((k,.own t e (some ⟨g,0,none⟩) u (List.replicate u z0))::H))
  (hx:ev l x=some (.int k1 p)) (hy:ev l y=some (.int k2 q)) (hp:p=(u:Int)) (hq:q=(u:Int)) (N:Dat [] t [z] z0) (W:Nat.ble 1 bytes=true:=by rfl) (hm:m=1:=by rfl) (hzc:z.cells=#[z]:=by rfl) (hts:t.size=1:=by rfl) (h1:z.oneCell'=true:=by rfl)
  (ht:P.underlying tt=some (.slice e):=by rfl) (hd:Nat.ble (d+1) C.n=true:=by rfl) (hn:hk H k=none:=by kernel_rfl):AL r P ops Q (⟨some d,.makeSlice tt x y,T,pos,af,none⟩::rest) C l H:=λa w hf hh=>by
 subst hm;obtain⟨hi,hz,hsize,hby,hzs⟩:=hinf;have hz1:t.rep w no [z] z0:=by
  have:Hp (Cx.mk 0 [] w [] no) [] w:=⟨Ch.refl w,λk r h=>(by cases h),λk b ⟨_,h,_⟩=>(by cases h),λk k' b ⟨_,h,_⟩=>(by cases h),λk r j h=>(by cases h)⟩;have h2:=Dat.rep this t N;refine Qga (Qal t h2) λb E hl=>?_;rcases E.1.2 with I|I|I
  exact I;have h4:=E.2;have I:w.heap.size<=b:=I;omega;cases I
 refine Z.st_makeSlice hf hd ht hi hz hsize hby hzc hts hx hy hp hq hu ?_ z0 hz1 h1 λg w' a' hg hs hO hch hf'=>h g a' w' hf' (hh.new hn hch (λb E=>?_) (λj hj=>by cases hj) λF B _ _ _=>?_);have:=Qm W;have h2:u<=bytes*u:=Nat.le_mul_of_pos_left _ this;simp only[maxLen];omega;simp only[Res.bl,obl,Qq]at E;omega;exact(hO.base (Ya _)).more λ_ E=>E.elim
def AL.setel (k ke:Nat)(js:QM){t:Ty}{e tt:QQ}{A:QK}{c g o m:Nat}{xs:List t.den}{px py:Operand}{u:Value}{new es:QL}{i:Int}{v:t.den}(y:t.den)(W:ix xs i=some v)(hA:A=some ⟨g,0,none⟩)
  (hD:Dat H t (es.take o++new++es.drop (o+m)) y) (h:AL r P ops Q rest C l ((k,.own t e A c (xs.set i.toNat y))::ded js H))
  (E:hk H k=some (.own t e A c xs):=by rfl) (hke:hk H ke=some (.el (some k) g (i.toNat*t.size) es):=by rfl) (hx:ev l px=some (.pointer (some ⟨g,i.toNat*t.size+o,none⟩)):=by rfl) (hy:ev l py=some u:=by rfl) (hS:szB P tt=some m:=by kernel_rfl)
  (hv:u.cells=new.toArray:=by rfl) (hm:new.length=m:=by rfl) (ho:Nat.ble (o+m) t.size=true:=by rfl) (h1:new.all (λu=>u.oneCell')=true:=by rfl) (hel:es.length=t.size:=by rfl) (hj:hng [k] js H=true:=by kernel_rfl):
  AL r P ops Q (⟨none,.store tt px py,T,pos,af,none⟩::rest) C l H:=λa w hf N=>by
 obtain⟨n,rfl,hn⟩:=Qaq W;have hlt:=(Qe.1 hn).1;have hO:Own t e 0 w (Fh C H) A c xs:=N.hold k _ E;have hOi:Own t e 0 w (λb=>Fh C H b/\b<w.heap.size) A c xs:=by
  obtain⟨cells0,p1,p2,p3⟩:=hO;exact⟨cells0,p1,p2,λi x W=>Qal t (p3 i x W)⟩
 have hc:=(N.hold ke _ hke).1;refine Z.st_setel (F:=λb=>Fh C H b/\b<w.heap.size) hf hOi (k:=n) (o:=o) (m:=m) hlt (Qaf hS) ho hA (by rw[hx,Wf,Wf];simp) hy hv hm (λu hu=>Q5.1 h1 u hu) (by rw[Wf];simpa using hc) hel (Qal t (Dat.rep N t hD)) (λb I hbA=>I.1.1 k ⟨_,E,hbA⟩) λw' a' hch hs hO' hf'=>
  h a' w' hf' (Hp.dd (N.upd hch (λb I=>⟨_,E,I⟩) (λb I=>.inl ⟨_,E,I⟩) (λj hj=>by cases hj) λF B hF _ _ _ _=>hO'.more λb I=>hF b I.1 I.2) hj)
def AL.cut (k kn:Nat){t:Ty}{tt e:QQ}{x lo hi:Operand}{A:QK}{c:Nat}{xs:List t.den}{k1 k2:IntKind}{p q:Int}{u v:Nat}(hp:p=(u:Int))(hq:q=(v:Int))(h1:u<=v)(h2:v<=xs.length)
  (h: ∀A' c',AL r P ops Q rest C ((d,.slice A' ((xs.take v).drop u).length c')::l) ((kn,.sh (.slice t) [.slice A' ((xs.take v).drop u).length c'] ((xs.take v).drop u))::H))
  (N:hk H k=some (.sh (.slice t) [.slice A xs.length c] xs):=by rfl) (hx:ev l x=some (.slice A xs.length c):=by rfl) (W:ev l lo=some (.int k1 p):=by rfl) (hhi:ev l hi=some (.int k2 q):=by rfl) (hS:szB P e=some t.size:=by kernel_rfl)
  (ht:P.underlying tt=some (.slice e):=by rfl) (hd:Nat.ble (d+1) C.n=true:=by rfl) (hn:hk H kn=none:=by kernel_rfl):AL r P ops Q (⟨some d,.slice tt x (some lo) (some hi) none,T,pos,af,none⟩::rest) C l H:=λa w I hh=>by
 have hr:(Ty.slice t).rep w (Fh C H) [.slice A xs.length c] xs:=hh.hold k _ N;have hlen:=rep_slice_len hr;have hlen2:((xs.take v).drop u).length=v-u:=by rw[W7,Qx];omega
 refine Z.val (v:=.slice (cutA A c u t.size) (v-u) (c-u)) I hd (r_slice_lh ht (Qaf hS) (I.eval hx) (I.eval W) (I.eval hhi) hp hq h1 (by omega)) λa' hf'=>?_;have E:(Ty.slice t).rep w (Fh C H) [.slice (cutA A c u t.size) (v-u) (c-u)] ((xs.take v).drop u):=by
  refine rep_drop (rep_take hr h2) (by rw[Qx];omega) (by omega) (by omega) λhlt ad hA=>?_;rw[Qx]at hlt;unfold cutA;rw[Qb (by omega),hA];rfl
 rw[<-hlen2]at E hf';exact h _ _ a' w hf' (hh.add hn rfl (λj hj=>by cases hj) (Qal _ E))
def AL.cuth (k kn:Nat){t:Ty}{tt e:QQ}{x hi:Operand}{A:QK}{c:Nat}{xs:List t.den}{k2:IntKind}{q:Int}{v:Nat}(hq:q=(v:Int))(h2:v<=xs.length)
  (h: ∀c',AL r P ops Q rest C ((d,.slice A (xs.take v).length c')::l) ((kn,.sh (.slice t) [.slice A (xs.take v).length c'] (xs.take v))::H))
  (I:hk H k=some (.sh (.slice t) [.slice A xs.length c] xs):=by rfl) (hx:ev l x=some (.slice A xs.length c):=by rfl) (N:ev l hi=some (.int k2 q):=by rfl) (hS:szB P e=some t.size:=by kernel_rfl)
  (ht:P.underlying tt=some (.slice e):=by rfl) (hd:Nat.ble (d+1) C.n=true:=by rfl) (hn:hk H kn=none:=by kernel_rfl):AL r P ops Q (⟨some d,.slice tt x none (some hi) none,T,pos,af,none⟩::rest) C l H:=λa w W hh=>by
 have hr:(Ty.slice t).rep w (Fh C H) [.slice A xs.length c] xs:=hh.hold k _ I;have hlen:=rep_slice_len hr;have E:(xs.take v).length=v:=by rw[Qx];omega
 refine Z.val (v:=.slice A v c) W hd (Qil ht (Qaf hS) (W.eval hx) (W.eval N) hq (by omega)) λa' hf'=>?_;have hr2:=rep_take hr h2;rw[<-E]at hf';have hr3:(Ty.slice t).rep w (Fh C H) [.slice A (xs.take v).length c] (xs.take v):=by rw[E];exact hr2
 exact h _ a' w hf' (hh.add hn rfl (λj hj=>by cases hj) (Qal _ hr3))
def AL.cuto (k:Nat)(js:QM){t:Ty}{tt e e':QQ}{x I:Operand}{A:QK}{c:Nat}{xs:List t.den}{k2:IntKind}{q:Int}{v:Nat}(hq:q=(v:Int))(h2:v<=xs.length)
  (h:AL r P ops Q rest C ((d,.slice A (xs.take v).length c)::l) ((k,.own t e' A c (xs.take v))::ded js H))
  (E:hk H k=some (.own t e' A c xs):=by rfl) (hx:ev l x=some (.slice A xs.length c):=by rfl) (N:ev l I=some (.int k2 q):=by rfl) (hS:szB P e=some t.size:=by kernel_rfl)
  (ht:P.underlying tt=some (.slice e):=by rfl) (hd:Nat.ble (d+1) C.n=true:=by rfl) (W:hng [k] js H=true:=by kernel_rfl):AL r P ops Q (⟨some d,.slice tt x none (some I) none,T,pos,af,none⟩::rest) C l H:=λa w hf hh=>by
 have hO:Own t e' 0 w (Fh C H) A c xs:=hh.hold k _ E;have hlen:=hO.len;have hl2:(xs.take v).length=v:=by rw[Qx];omega
 refine Z.val (v:=.slice A v c) hf hd (Qil ht (Qaf hS) (hf.eval hx) (hf.eval N) hq (by omega)) λa' hf'=>?_;rw[<-hl2]at hf';refine h a' w hf' (Hp.dd (hh.upd (S:=[]) (Ch.refl w) (by simp) (λb hb=>.inl ⟨_,E,hb⟩) (λj W=>by cases W) λF B hF _ _ _ _=>?_) W);obtain⟨cells,o1,o2,o3⟩:=Own.take hO h2;exact⟨cells,o1,o2,λi x I=>Qga (o3 i x I) λb hb hl=>hF b hb hl⟩
def AL.ixt {tt:QQ}{x y:Operand}{s:ByteArray}{kd:IntKind}{i:Int}{v:UInt8}(W:ix s.data.toList i=some v)(h:AL r P ops Q rest C ((d,.int .u8 (v.toNat:Int))::l) H)
  (ht:P.underlying tt=some .string:=by rfl) (hx:ev l x=some (.string s):=by rfl) (hy:ev l y=some (.int kd i):=by rfl) (hd:Nat.ble (d+1) C.n=true:=by rfl):AL r P ops Q (⟨some d,.index tt x y,T,pos,af,none⟩::rest) C l H:=by
 obtain⟨k,rfl,I⟩:=Qaq W;have E:=(Qe.1 I).1;refine AL.val hd (λa w N hh=>?_) h;have:=r_indexStr (P:=P) (w:=w) (d:=some d) (T:=T) (pos:=pos) (af:=af) (gd:=none) ht (N.eval hx) (N.eval hy) rfl (show k<s.size from E);rw[this];have hb:bat s k=v:=by
  unfold bat;rw[Q1,<-Wi,I];rfl
 rw[hb]
def AL.rgs (k:Nat){tt:QQ}{x:Operand}{s:ByteArray}(h: ∀g,AL r P ops Q rest C ((d,.pointer (some ⟨g,0,none⟩))::l) ((k,.si g s 0)::H))
  (I:P.underlying tt=some .string:=by rfl) (hx:ev l x=some (.string s):=by rfl) (N:Nat.ble (d+1) C.n=true:=by rfl) (W:hk H k=none:=by kernel_rfl):AL r P ops Q (⟨some d,.range tt x,T,pos,af,none⟩::rest) C l H:=λa w hf hh=>
 Z.st_rangeStr hf N I hx λg w' a' hg hs hb E hf'=>h g a' w' hf' (hh.new W E (λb hb'=>by simp only[Res.bl,Qq]at hb';omega) (λj hj=>by cases hj) λ_ _ _ _ _=>hb)
def AL.nxs (k:Nat)(js:QM){x:Operand}{s:ByteArray}{g p:Nat}{ρ:Type}{A B R:Option ρ}(I:(if p<s.size then A else B)=R)
  (h2:p<s.size->A=R->AL r P ops Q rest C ((d,.tuple #[.bool true,.int .i64 (p:Int),.int .i32 ((Utf8.decode s p).1:Int)])::l) ((k,.si g s (p+(Utf8.decode s p).2))::ded js H))
  (h1: ¬p<s.size->B=R->AL r P ops Q rest C ((d,.tuple #[.bool false])::l) H)
  (E:hk H k=some (.si g s p):=by rfl) (hx:ev l x=some (.pointer (some ⟨g,0,none⟩)):=by rfl) (hd:Nat.ble (d+1) C.n=true:=by rfl) (N:hng [k] js H=true:=by kernel_rfl):AL r P ops Q (⟨some d,.next x true,T,pos,af,none⟩::rest) C l H:=λa w hf W=>
 Z.st_nextStr hf hd hx (W.hold k _ E) (λhp a' hf'=>h1 hp (by rw[Qb hp]at I;exact I) a' w hf' W) λhp w' a' hch hs hsi hf'=>
  h2 hp (by rw[Qc hp]at I;exact I) a' w' hf' (Hp.dd (W.upd hch (λb hb=>⟨_,E,hb⟩) (λb hb=>.inl ⟨_,E,hb⟩) (λj N=>by cases N) λ_ _ _ _ _ _ _=>hsi) N)
section
variable {κ:Type}[DecidableEq κ]{enc:κ->Value}{kt et tt:QQ}{t:Ty}{agg:Bool}{b:Nat}{m:List (κ×t.den)}
def AL.mkm (k:Nat)(κ:Type)(enc:κ->Value)(t:Ty)(agg:Bool)(h: ∀b,AL r P ops Q rest C ((d,.map (some b))::l) ((k,.mp κ enc t agg b [])::H))(N:Nat.ble (d+1) C.n=true:=by rfl)(W:hk H k=none:=by kernel_rfl):
  AL r P ops Q (⟨some d,.makeMap tt none,T,pos,af,none⟩::rest) C l H:=λa w hf hh=>
 Z.st_makeMap rfl hf N enc t agg no λg w' a' hg hs E I hf'=>h g a' w' hf' (hh.new W I (λb hb'=>by simp only[Res.bl,Qq]at hb';omega) (λj hj=>by cases hj) λF B h1 _ _=>E.to (Ch.refl w') (by simp) λb E _=>E.elim)
def asmp:Option Res->Option Res
 |some (.lmp κ enc t agg b m)=>some (.mp κ enc t agg b m)
 |r=>r
def Qig {κ:Type}{enc:κ->Value}{t:Ty}{agg:Bool}{b:Nat}{m:List (κ×t.den)}{C:Cx}{H:QJ}{w:World}(I:Hp C H w){k:Nat}(h:asmp (hk H k)=some (.mp κ enc t agg b m)):Mt enc t agg w (Fh C H) b m:=by
 cases E:hk H k with
 |none=>rw[E]at h;cases h
 |some r=>
  rw[E]at h;have h2:=I.hold k r E;cases r with
  |lmp κ' enc' t' agg' b' m'=>
   have h:some (Res.mp κ' enc' t' agg' b' m')=_:=h;injection h with h;cases h;exact h2.1
  |mp κ' enc' t' agg' b' m'=>
   have h:some (Res.mp κ' enc' t' agg' b' m')=_:=h;injection h with h;cases h;exact h2
  |_=>injection h with h;cases h
def Qhy {w:World}{x:t.den}{cs:QL}(hh:Hp C H w)(hr:t.rep w (Fh C H) cs x)(kn:Nat)(hn:nok H kn (lv t)=true): ∃ps:Lf,ps.length=lv t/\cs=cl t x ps/\Hp C (hcat (kx kn (rs t x ps)) H) w:=by
 obtain⟨ps,W,hc,E⟩:=rep_cl (B:=Bk H) t (Qal t hr);exact⟨ps,W,hc,hh.adds (by rw[Qdl t x ps W];exact hn) λI N=>⟨(E I N).2.1,(E I N).2.2,(E I N).1⟩⟩
def AL.lku (k kn:Nat){x y:Operand}{z v:t.den}{zs:QL}(K:Ky P kt enc)(key:κ)(W: ∀w,(zeroValue et).run P w=.ok (vof agg zs) w)(hD:Dat H t zs z)(hv:mget z m key=v)
  (h:t.ok v->tele (lv t) λps=>AL r P ops Q rest C ((d,vof agg (cl t (v) ps))::l) (hcat (kx kn (rs t (v) ps)) H))
  (E:asmp (hk H k)=some (.mp κ enc t agg b m):=by rfl) (hx:ev l x=some (.map (some b)):=by rfl) (hy:ev l y=some (enc key):=by rfl) (ht:P.underlying tt=some (.map kt et):=by rfl) (hd:Nat.ble (d+1) C.n=true:=by rfl) (hn:nok H kn (lv t)=true:=by kernel_rfl):
  AL r P ops Q (⟨some d,.lookup tt x y false,T,pos,af,none⟩::rest) C l H:=λa w hf I=>by
 subst hv;exact Z.st_lookup hf hd K ht W z (Dat.rep I t hD) (Qig I E) hx key hy λcs a' N hf'=>by
  obtain⟨ps,hl,rfl,h2⟩:=Qhy I N kn hn;exact Qbq (h (rep_ok t N)) ps hl a' w hf' h2
def AL.lk2 (k kn:Nat){x y:Operand}{z v:t.den}{zs:QL}(K:Ky P kt enc)(key:κ)(W: ∀w,(zeroValue et).run P w=.ok (vof agg zs) w)(hD:Dat H t zs z)(hv:mget z m key=v)
  (h:t.ok v->tele (lv t) λps=>AL r P ops Q rest C ((d,.tuple #[vof agg (cl t (v) ps),.bool (mhas m key)])::l) (hcat (kx kn (rs t (v) ps)) H))
  (E:asmp (hk H k)=some (.mp κ enc t agg b m):=by rfl) (hx:ev l x=some (.map (some b)):=by rfl) (hy:ev l y=some (enc key):=by rfl) (ht:P.underlying tt=some (.map kt et):=by rfl) (hd:Nat.ble (d+1) C.n=true:=by rfl) (hn:nok H kn (lv t)=true:=by kernel_rfl):
  AL r P ops Q (⟨some d,.lookup tt x y true,T,pos,af,none⟩::rest) C l H:=λa w hf I=>by
 subst hv;exact Z.st_lookup2 hf hd K ht W z (Dat.rep I t hD) (Qig I E) hx key hy λcs a' N hf'=>by
  obtain⟨ps,hl,rfl,h2⟩:=Qhy I N kn hn;exact Qbq (h (rep_ok t N)) ps hl a' w hf' h2
def AL.mup (k:Nat)(js:QM){x y v:Operand}{cs:QL}{u:t.den}(K:Ky P kt enc)(key:κ)(hD:Dat H t cs u)(h:AL r P ops Q rest C l ((k,.mp κ enc t agg b (mins m key u))::ded js H))
  (E:hk H k=some (.mp κ enc t agg b m):=by rfl) (hx:ev l x=some (.map (some b)):=by rfl) (hy:ev l y=some (enc key):=by rfl) (hv:ev l v=some (vof agg cs):=by rfl) (ht:P.underlying tt=some (.map kt et):=by rfl) (I:hng [k] js H=true:=by kernel_rfl):
  AL r P ops Q (⟨none,.mapUpdate tt x y v,T,pos,af,none⟩::rest) C l H:=λa w hf N=>by
 have hm:Mt enc t agg w (Fh C H) b m:=N.hold k _ E;have hm':Mt enc t agg w (λb=>Fh C H b/\b<w.heap.size) b m:=by
  obtain⟨es,h1,h2,h3⟩:=hm;refine⟨es,h1,h2,λi p hp=>?_⟩;obtain⟨cs,h4,h5⟩:=h3 i p hp;exact⟨cs,h4,Qal t h5⟩
 refine Z.st_mapUpdate hf K ht hm' hx key hy hv (Qal t (Dat.rep N t hD)) (λb' hb' e=>hb'.1.1 k ⟨_,E,by rw[e];simp[Res.bl]⟩) λw' a' W hs hm2 hf'=>
  h a' w' hf' (Hp.dd (N.upd W (λb' hb'=>⟨_,E,hb'⟩) (λb' hb'=>.inl ⟨_,E,hb'⟩) (λj I=>by cases I) λF B hF _ _ _ _=>?_) I)
 exact hm2.to (Ch.refl w') (by simp) λb' hb' _=>⟨by simp,hF b' hb'.1 hb'.2⟩
end
def Ct (P:QR)(f:FuncId)(vs:QL)(H:QJ)(S:QM)(R:Value->QJ->Prop):Prop:=
 ∀(w:World) (F:Nat->Prop),Hp ⟨0,[],w,S,F⟩ H w->Calls P f vs.toArray w λe w'=>∃v H',e=.returned v/\R v H'/\Hp ⟨0,[],w,S,F⟩ H' w'
def Ct.enter {f:FuncId}{fn:Func}{c:Code}{vs:QL}{n:Nat}{S:QM}{R:Value->QJ->Prop}(N:P.funcs[f]?=some fn)(W:fn.body=some c)(hn:fn.ntmps=n)(hm:Nat.ble vs.length n=true)
  (h: ∀w F,AX none P (bodyPost P fn λe w'=>∃v H',e=.returned v/\R v H'/\Hp ⟨0,[],w,S,F⟩ H' w') [] c ⟨n,[],w,S,F⟩ (argl vs 0) H):Ct P f vs H S R:=λw F E=>
 Z.enter N W hn (Qm hm) λa I=>h w F a w I ⟨E.ch,E.hold,E.bnd,E.dis,E.ref⟩
def AX.ret {fn:Func}{K:List Kx}{w0:World}{S:QM}{F:Nat->Prop}{n:Nat}{R:Value->QJ->Prop}(ps:List (Nat×Nat))(v:Value)(hres: ∀a w,Fr a n [] l->Hp ⟨n,[],w0,S,F⟩ H w->(results fn a.tmps).run P w=.ok v w)(W:R v (A.ren H ps))(h1:nod (ps.map (·.1))=true:=by rfl)(h2:nod (ps.map (·.2))=true:=by rfl):
  AX r P (bodyPost P fn λe w'=>∃v H',e=.returned v/\R v H'/\Hp ⟨0,[],w0,S,F⟩ H' w') K .ret ⟨n,[],w0,S,F⟩ l H:=AX.ret0 λa w I N=>by
 have E:=N.ren ps h1 h2;exact Z.retv I (hres a w I N) ⟨v,_,rfl,W,⟨E.ch,E.hold,E.bnd,E.dis,E.ref⟩⟩
end
inductive Sub (H:QJ):QJ->List (Nat×Nat)->QM->Prop
 |nil:Sub H [] [] []
 |s (k:Nat) {k0:Nat} {r:Res} {H0:QJ} {ms:List (Nat×Nat)} {ls:QM} (h:Sub H H0 ms ls) (h1:hk H k=some r:=by rfl) (hb:r.bl=[]:=by rfl) (hr:r.ref=none:=by rfl):Sub H ((k0,r)::H0) ms ls
 |o (k:Nat) {k0:Nat} {t:Ty} {e:QQ} {A:QK} {c:Nat} {xs:List t.den} {H0:QJ} {ms:List (Nat×Nat)} {ls:QM} (h:Sub H H0 ms ls) (h1:hk H k=some (.own t e A c xs):=by rfl):Sub H ((k0,.ln t A c xs)::H0) ms (k::ls)
 |l (k:Nat) {k0:Nat} {t:Ty} {A:QK} {c:Nat} {xs:List t.den} {H0:QJ} {ms:List (Nat×Nat)} {ls:QM} (h:Sub H H0 ms ls) (h1:hk H k=some (.sh (.slice t) [.slice A xs.length c] xs):=by rfl):Sub H ((k0,.ln t A c xs)::H0) ms ls
 |nl {k0:Nat} {t:Ty} {H0:QJ} {ms:List (Nat×Nat)} {ls:QM} (h:Sub H H0 ms ls):Sub H ((k0,.ln t none 0 [])::H0) ms ls
 |ns {k0:Nat} {t:Ty} {H0:QJ} {ms:List (Nat×Nat)} {ls:QM} (h:Sub H H0 ms ls):Sub H ((k0,.sh (.slice t) [.slice none 0 0] [])::H0) ms ls
 |b (k:Nat) {k0:Nat} {g:Nat} {e:QQ} {cs:QL} {H0:QJ} {ms:List (Nat×Nat)} {ls:QM} (h:Sub H H0 ms ls) (h1:hk H k=some (.blk g e cs):=by rfl):Sub H ((k0,.el none g 0 cs)::H0) ms (k::ls)
 |lm (k:Nat) {k0:Nat} {κ:Type} {enc:κ->Value} {t:Ty} {agg:Bool} {b:Nat} {m:List (κ×t.den)} {H0:QJ} {ms:List (Nat×Nat)} {ls:QM} (h:Sub H H0 ms ls) (h1:hk H k=some (.mp κ enc t agg b m):=by rfl):Sub H ((k0,.lmp κ enc t agg b m)::H0) ms (k::ls)
 |m (k:Nat) {k0:Nat} {r:Res} {H0:QJ} {ms:List (Nat×Nat)} {ls:QM} (h:Sub H H0 ms ls) (h1:hk H k=some r:=by rfl) (hr:r.ref=none:=by rfl):Sub H ((k0,r)::H0) ((k0,k)::ms) ls
def blks (H:QJ):List (Nat×Nat)->QM
 | []=>[]
 |(_,k)::ms=>match hk H k with
  |some r=>r.bl++blks H ms
  |none=>blks H ms
def Qdx {H:QJ}{b:Nat}: ∀{ms:List (Nat×Nat)},b∈blks H ms↔∃p,p∈ms/\Bk H p.2 b
 | []=>by simp[blks]
 |(i,k)::ms=>by
  unfold blks;cases I:hk H k with
  |none=>
   simp only[];rw[Qdx];exact⟨λ⟨p,h1,h2⟩=>⟨p,Qf _ h1,h2⟩,λ⟨p,h1,h2⟩=>by
    rcases Qn.1 h1 with rfl|h1
    obtain⟨r,E,_⟩:=h2;rw[I]at E;cases E;exact⟨p,h1,h2⟩⟩
  |some r=>
   simp only[Q8];rw[Qdx];constructor;rintro(h|⟨p,h1,h2⟩);exact⟨(i,k),Qh ..,r,I,h⟩;exact⟨p,Qf _ h1,h2⟩;rintro⟨p,h1,h2⟩;rcases Qn.1 h1 with rfl|h1
   obtain⟨W,E,N⟩:=h2;rw[I]at E;injection E with E;subst E;exact .inl N
   exact .inr ⟨p,h1,h2⟩
def Sub.hp {C:Cx}{H:QJ}{w:World}(hh:Hp C H w){H0:QJ}{ms:List (Nat×Nat)}{ls:QM}(h:Sub H H0 ms ls)(h1:nod (H0.map (·.1))=true)(h2:nod (ms.map (·.2))=true)(h3:ls.all (λk=> !(ms.map (·.2)).any (Nat.beq k))=true):
  Hp ⟨0,[],w,blks H ms,Fh C H⟩ H0 w:=by
 have hvis: ∀{H0:QJ} {k:Nat} {r:Res},hk H0 k=some r->(k,r)∈H0:=by
  intro H0;induction H0 with
  |nil=>intro k r h;cases h
  |cons p q ih=>
   obtain⟨d,u⟩:=p;intro k r h;rw[Qab]at h;split at h;rename_i e;subst e;injection h with h;subst h;exact Qh ..
   exact Qf _ (ih h)
 have hmoved: ∀{H0:QJ} {ms:List (Nat×Nat)} {ls:QM},Sub H H0 ms ls->∀k r,(k,r)∈H0->r.ref=none/\∀b,b∈r.bl->∃j,(k,j)∈ms/\hk H j=some r:=by
  intro H0 ms ls h;induction h with
  |nil=>intro k r E;cases E
  |s k _ h1 I hr ih=>
   intro k r E;rcases Qn.1 E with e|E
   injection e with N W;subst N;subst W;exact⟨hr,λb hb2=>by rw[I]at hb2;cases hb2⟩
   exact ih k r E
  |m k _ h1 hr ih=>
   intro k r E;rcases Qn.1 E with e|E
   injection e with N W;subst N;subst W;exact⟨hr,λb hb2=>⟨_,Qh ..,h1⟩⟩
   obtain⟨h4,h5⟩:=ih k r E;exact⟨h4,λb I=>by obtain⟨j,h6,h7⟩:=h5 b I;exact⟨j,Qf _ h6,h7⟩⟩
  |_=>
   rename_i ih;intro k r E;rcases Qn.1 E with e|E
   injection e with N W;subst N;subst W;exact⟨rfl,λb hb2=>by cases hb2⟩
   exact ih k r E
 have hbk: ∀k b,Bk H0 k b->∃j,(k,j)∈ms/\Bk H j b:=λk b ⟨r,h4,h5⟩=>by
  obtain⟨j,h6,h7⟩:=(hmoved h k r (hvis h4)).2 b h5;exact⟨j,h6,r,h7,h5⟩
 have hnb: ∀b,(∀k,¬Bk H k b)->∀k,¬Bk H0 k b:=λb hB k hk=>by obtain⟨j,_,h4⟩:=hbk k b hk;exact hB j h4
 have hF: ∀b,Fh C H b->Fh ⟨0,[],w,blks H ms,Fh C H⟩ H0 b:=λb I=>⟨hnb b I.1,.inl I⟩;have hholds: ∀{H1:QJ} {ms1:List (Nat×Nat)} {ls1:QM},Sub H H1 ms1 ls1->(∀k,k∈ls1->∀p,p∈ms->p.2≠k)->∀k r,(k,r)∈H1->r.holds w (Fh ⟨0,[],w,blks H ms,Fh C H⟩ H0) (Bk H0):=by
  intro H1 ms1 ls1 h;have go: ∀k r,hk H k=some r->r.ref=none->r.holds w (Fh ⟨0,[],w,blks H ms,Fh C H⟩ H0) (Bk H0):=λk r h4 h5=>
   Res.to (hh.hold k r h4) (S:=[]) (Ch.refl w) (λb I _=>⟨by simp,hF b I⟩) (λb I _=>⟨by simp,hnb b I⟩) (λi b hi _=>by rw[h5]at hi;cases hi) (by simp)
  induction h with
  |nil=>intro _ k r E;cases E
  |s k _ h1 I hr ih=>
   intro hl k r E;rcases Qn.1 E with e|E
   injection e with N W;subst N;subst W;exact go _ _ h1 hr
   exact ih hl k r E
  |m k _ h1 hr ih=>
   intro hl k r E;rcases Qn.1 E with e|E
   injection e with N W;subst N;subst W;exact go _ _ h1 hr
   exact ih hl k r E
  |o k _ h1 ih=>
   intro hl k' r E;rcases Qn.1 E with e|E
   injection e with N W;subst N;subst W
   obtain⟨G,h4,h5⟩:=rowO h1 w hh;refine Row.to h4 (S:=[]) (Ch.refl w) (λb I _=>⟨by simp,hF b I⟩) λb I _=>⟨by simp,λk2 hk2=>?_⟩;obtain⟨j,h6,h7⟩:=hbk k2 b hk2;exact hl k (Qh ..) _ h6 (hh.dis j k b h7 (h5 b I));exact ih (λk hk=>hl k (Qf _ hk)) k' r E
  |b k _ h1 ih=>
   intro hl k' r E;rcases Qn.1 E with e|E
   injection e with N W;subst N;subst W
   have hB:Blk w _ _ _:=hh.hold k _ h1;refine⟨λj u hu=>?_,hB.lt,λk2 hk2=>?_⟩;rw[Wf,Wl,hB.cell];exact hu;obtain⟨j,h6,h7⟩:=hbk k2 _ hk2;exact hl k (Qh ..) _ h6 (hh.dis j k _ h7 ⟨_,h1,by simp[Res.bl]⟩);exact ih (λk hk=>hl k (Qf _ hk)) k' r E
  |lm k _ h1 ih=>
   intro hl k' r E;rcases Qn.1 E with e|E
   injection e with N W;subst N;subst W
   have hB:Mt _ _ _ w (Fh C H) _ _:=hh.hold k _ h1;refine⟨Mt.to hB (S:=[]) (Ch.refl w) (by simp) λb I _=>⟨by simp,hF b I⟩,λk2 hk2=>?_⟩;obtain⟨j,h6,h7⟩:=hbk k2 _ hk2;exact hl k (Qh ..) _ h6 (hh.dis j k _ h7 ⟨_,h1,by simp[Res.bl]⟩);exact ih (λk hk=>hl k (Qf _ hk)) k' r E
  |l k _ h1 ih=>
   intro hl k' r E;rcases Qn.1 E with e|E
   injection e with N W;subst N;subst W
   obtain⟨G,h4,h5⟩:=rowS h1 w hh;exact Row.to h4 (S:=[]) (Ch.refl w) (λb I _=>⟨by simp,hF b I⟩) λb I _=>⟨by simp,hnb b (h5 b I)⟩;exact ih hl k' r E
  |nl _ ih=>
   intro hl k' r E;rcases Qn.1 E with e|E
   injection e with N W;subst N;subst W
   exact⟨Qr _,by simp[maxLen],[],by simp,.inl rfl,λi x hi=>by simp at hi⟩;exact ih hl k' r E
  |ns _ ih=>
   intro hl k' r E;rcases Qn.1 E with e|E
   injection e with N W;subst N;subst W;exact Qhl _
   exact ih hl k' r E
 have hls: ∀k,k∈ls->∀p,p∈ms->p.2≠k:=λk hk p hp e=>by
  have h4:=Q5.1 h3 k hk;simp only[X0,List.any_map,J1]at h4;exact h4 p hp (by simp[Function.comp,e])
 refine⟨Ch.refl' _ _,λk r hk1=>hholds h hls k r (hvis hk1),λk b I=>?_,λk k' b I hb'=>?_,λk r j hk1 hr=>?_⟩;obtain⟨j,h4,h5⟩:=hbk k b I;exact⟨.inr (Qdx.2 ⟨_,h4,h5⟩),(hh.bnd j b h5).2⟩;obtain⟨j,h4,h5⟩:=hbk k b I;obtain⟨j',h6,h7⟩:=hbk k' b hb';exact Qli (f:=λp:Nat×Nat=>p.2) (g:=λp:Nat×Nat=>p.1) h2 (k,j) (k',j') h4 h6 (hh.dis j j' b h5 h7);rw[(hmoved h k r (hvis hk1)).1]at hr;cases hr
def kill:QM->QJ->QJ
 | [],H=>H
 |k::ks,H=>(k,.dead)::drp k (kill ks H)
def Qeu {H:QJ}: ∀{ks:QM} {j:Nat} {r:Res},hk (kill ks H) j=some r->r=.dead\/(hk H j=some r/\j∉ks/\∀k,k∈ks->r.ref≠some k)
 | [],j,r,h=>.inr ⟨h,by simp,by simp⟩
 |k::ks,j,r,h=>by
  unfold kill at h;rw[Qab]at h;split at h;injection h with h;exact .inl h.symm
  rename_i E;rcases Qcy k _ j r h with h1|⟨h1,h2⟩
  exact .inl h1;rcases Qeu h1 with I|⟨I,h4,h5⟩
  exact .inl I;refine .inr ⟨I,λN=>?_,λi W=>?_⟩;rcases Qn.1 N with e|N
  exact E e.symm;exact h4 N;rcases Qn.1 W with rfl|W
  exact h2;exact h5 i W
def Qej {k:Nat}: ∀{H:QJ} {j:Nat} {r:Res},hk H j=some r->r.ref≠some k->hk (drp k H) j=some r
 | [],_,_,h,_=>by cases h
 |(d,u)::q,j,r,h1,h2=>by
  unfold drp;rw[Qab]at h1 ⊢;by_cases E:d=j;rw[Qc E]at h1 ⊢;injection h1 with h1
  subst h1;cases I:u.ref with
  |none=>rfl
  |some i=>
   simp only[];have:Nat.beq i k=false:=by cases N:Nat.beq i k with
    |false=>rfl
    |true=>exact absurd (by rw[I,Qk N]) h2
   rw[this];rfl
  rw[Qb E]at h1 ⊢;exact Qej h1 h2
def Qgj {H:QJ}: ∀{ks:QM} {j:Nat} {r:Res},hk H j=some r->j∉ks->(∀k,k∈ks->r.ref≠some k)->hk (kill ks H) j=some r
 | [],_,_,h,_,_=>h
 |k::ks,j,r,h,h1,h2=>by
  unfold kill;rw[Qab,Qb (λe=>h1 (by rw[e];exact Qh ..))];exact Qej (Qgj h (λE=>h1 (Qf _ E)) λi I=>h2 i (Qf _ I)) (h2 k (Qh ..))
def sft (n:Nat):QJ->QJ
 | []=>[]
 |(k,r)::H=>(k+n,r)::sft n H
def Qix {n:Nat}{H0:QJ}: ∀{H:QJ} {j:Nat} {r:Res},hk (hcat (sft n H) H0) j=some r->(∃k,j=k+n/\hk H k=some r)\/(hk H0 j=some r/\∀k,j=k+n->hk H k=none)
 | [],j,r,h=>.inr ⟨h,λ_ _=>rfl⟩
 |(d,u)::H,j,r,h=>by
  replace h:hk ((d+n,u)::hcat (sft n H) H0) j=some r:=h;rw[Qab]at h;split at h;rename_i e;injection h with h;subst h;exact .inl ⟨d,e.symm,by rw[Qab,Qc rfl]⟩
  rename_i E;rcases Qix h with⟨k,h1,h2⟩|⟨h1,h2⟩
  exact .inl ⟨k,h1,by rw[Qab,Qb (λe=>E (by rw[e,h1]))];exact h2⟩;exact .inr ⟨h1,λk hk=>by rw[Qab,Qb (λe=>E (by rw[e,hk]))];exact h2 k hk⟩
def outs:QJ->Bool
 | []=>true
 |(_,r)::H=>(match r with| .ln _ _ _ _=>false| .el _ _ _ _=>false| .mit _ _ _ _ _ _=>false| .lmp _ _ _ _ _ _=>false|_=>true)&&outs H
def Qcx: ∀{H:QJ} {k:Nat} {r:Res},outs H=true->hk H k=some r->(∀t A c xs,r≠ .ln t A c xs)/\(∀k b o cs,r≠ .el k b o cs)/\r.ref=none
 | [],_,_,_,h=>by cases h
 |(d,u)::H,k,r,E,h=>by
  simp only[outs,Qd]at E;rw[Qab]at h;split at h;injection h with h;subst h
  cases u<;>simp_all [Res.ref];exact Qcx E.2 h
def outs_lmp: ∀{H:QJ} {k:Nat} {κ:Type} {enc:κ->Value} {t:Ty} {agg:Bool} {b:Nat} {m:List (κ×t.den)},outs H=true->hk H k=some (.lmp κ enc t agg b m)->False
 | [],_,_,_,_,_,_,_,_,h=>by cases h
 |(d,u)::H,k,_,_,_,_,_,_,E,h=>by
  simp only[outs,Qd]at E;rw[Qab]at h;split at h;injection h with h;subst h;exact absurd E.1 (by simp)
  exact outs_lmp E.2 h
def frs (n:Nat)(H:QJ):QJ->Bool
 | []=>true
 |(k,_)::H'=>(match hk H (k+n)with|none=>true|some _=>false)&&frs n H H'
def Hp.back {C:Cx}{H H':QJ}{w w':World}{ms:List (Nat×Nat)}{n:Nat}(h:Hp C H w)(h':Hp ⟨0,[],w,blks H ms,Fh C H⟩ H' w')(ho:outs H'=true)(hf:frs n H H'=true):Hp C (hcat (sft n H') (kill (ms.map (·.2)) H)) w':=by
 have hS: ∀b,b∈blks H ms->∃k,k∈ms.map (·.2)/\Bk H k b:=λb E=>by
  obtain⟨p,h1,h2⟩:=Qdx.1 E;exact⟨p.2,W5.2 ⟨p,h1,rfl⟩,h2⟩
 have hbk: ∀j b,Bk (hcat (sft n H') (kill (ms.map (·.2)) H)) j b->(∃k,j=k+n/\Bk H' k b)\/((∀k,j=k+n->hk H' k=none)/\Bk H j b/\j∉ms.map (·.2)):=λj b ⟨r,h1,h2⟩=>by
  rcases Qix h1 with⟨k,N,I⟩|⟨N,I⟩
  exact .inl ⟨k,N,r,I,h2⟩;rcases Qeu N with rfl|⟨h5,h6,_⟩
  cases h2;exact .inr ⟨I,⟨r,h5,h2⟩,h6⟩
 have hnew: ∀k b,Bk H' k b->(w.heap.size<=b\/b∈blks H ms)/\b<w'.heap.size:=λk b E=>h'.bnd k b E;have hold: ∀b,(∀k,¬Bk H k b)->b<w.heap.size->b∉blks H ms/\∀j,¬Bk (hcat (sft n H') (kill (ms.map (·.2)) H)) j b:=λb hB W=>by
  refine⟨λE=>by obtain⟨k,_,h1⟩:=hS b E;exact hB k h1,λj hj=>?_⟩;rcases hbk j b hj with⟨k,_,h1⟩|⟨_,h1,_⟩
  rcases(hnew k b h1).1 with h2|h2
  omega;obtain⟨k,_,N⟩:=hS b h2;exact hB k N;exact hB j h1
 have hch:=h'.ch;have hsz:w.heap.size<=w'.heap.size:=hch.size;have hrefk: ∀j r i,hk H j=some r->r.ref=some i->i∉ms.map (·.2)->∀b,Bk H i b->Bk (hcat (sft n H') (kill (ms.map (·.2)) H)) i b:=λj r i hj hr hi b E=>by
  obtain⟨r2,h1,h2⟩:=E;have N:=(h.ref j r i hj hr).2 r2 h1;refine⟨r2,?_,h2⟩;have I:hk (kill (ms.map (·.2)) H) i=some r2:=Qgj h1 hi λk _=>by rw[N];simp
  have h5: ∀{H':QJ},frs n H H'=true->hk (hcat (sft n H') (kill (ms.map (·.2)) H)) i=some r2:=by
   intro H';induction H' with
   |nil=>intro _;exact I
   |cons p q ih=>
    obtain⟨d,u⟩:=p;intro hf;simp only[frs,Qd]at hf;show hk ((d+n,u)::hcat (sft n q) _) i=some r2;rw[Qab,Qb (λe=>by subst e;rw[h1]at hf;exact absurd hf.1 (by simp))];exact ih hf.2
  exact h5 hf
 refine⟨?_,λj r hj=>?_,λj b hj=>?_,λj j' b hj hj'=>?_,λj r i hj hri=>?_⟩;have hc0:=h.ch;refine⟨hch.os.trans hc0.os,hch.tape.trans hc0.tape,hch.output.trans hc0.output,Wb hc0.size hch.size,λb E hn=>?_⟩;have hb2:b∉blks H ms:=λhbS=>by
  obtain⟨k,_,h1⟩:=hS b hbS;rcases(h.bnd k b h1).1 with h2|h2
  omega;exact hn h2
 rw[hch.block b (Qw E hc0.size) hb2];exact hc0.block b E hn;rcases Qix hj with⟨k,rfl,h1⟩|⟨h1,_⟩
 obtain⟨o1,o2,o3⟩:=Qcx ho h1;have hh:=h'.hold k r h1;have hF: ∀b,Fh ⟨0,[],w,blks H ms,Fh C H⟩ H' b->b<w'.heap.size->Fh C (hcat (sft n H') (kill (ms.map (·.2)) H)) b:=λb E W=>by
  refine⟨λj hj=>?_,?_⟩;rcases hbk j b hj with⟨k,_,h2⟩|⟨_,h2,N⟩
  exact E.1 k h2;rcases E.2 with I|I|I
  exact I.1 j h2;have:=(h.bnd j b h2).2;have I:w.heap.size<=b:=I;omega;obtain⟨k,h5,h6⟩:=hS b I;exact N (by rw[h.dis j k b h2 h6];exact h5);rcases E.2 with I|I|I
  exact I.2;exact .inr (.inl (Wb h.ch.size I));obtain⟨k,_,h6⟩:=hS b I;exact .inr (h.bnd k b h6).1
 cases r with
 |ln t A c xs=>exact absurd rfl (o1 t A c xs)
 |el k b o cs=>exact absurd rfl (o2 k b o cs)
 |mit k g b n seen la=>cases o3
 |dead=>trivial
 |sh t cs x=>exact rep_to hh (S:=[]) (Ch.refl w') λb E W=>⟨by simp,hF b E W⟩
 |own t e A c xs=>exact Own.to hh (S:=[]) (Ch.refl w') (by simp) λb E W=>⟨by simp,hF b E W⟩
 |blk g e cs=>exact hh
 |mp κ enc t agg b m=>exact Mt.to hh (S:=[]) (Ch.refl w') (by simp) λb E W=>⟨by simp,hF b E W⟩
 |si g s p=>exact hh
 |ob g p=>exact hh
 |lmp κ enc t agg b m=>exact(outs_lmp ho h1).elim
 |mr κ enc t e b As m=>exact Mr.to hh (S:=[]) (Ch.refl w') (by simp) λb E W=>⟨by simp,hF b E W⟩
 |gn bs p hp=>exact hp hh (S:=[]) (Ch.refl w') (by simp) λb E W=>⟨by simp,hF b E W⟩
 rcases Qeu h1 with rfl|⟨h2,N,I⟩
 trivial;refine Res.to (h.hold j r h2) hch (λb E W=>⟨(hold b E.1 W).1,(hold b E.1 W).2,E.2⟩) (λb E W=>hold b E W) (λi b hi hB=>⟨λhbS=>?_,?_⟩) λb E hbS=>?_;obtain⟨k,h5,h6⟩:=hS b hbS;exact I k h5 (by rw[hi,h.dis i k b hB h6]);exact hrefk j r i h2 hi (λhm=>I i hm hi) b hB;obtain⟨k,h5,h6⟩:=hS b hbS;exact N (by rw[h.dis j k b ⟨r,h2,E⟩ h6];exact h5);rcases hbk j b hj with⟨k,_,h1⟩|⟨_,h1,_⟩
 obtain⟨h2,N⟩:=hnew k b h1;refine⟨?_,N⟩;rcases h2 with h2|h2
 exact .inl (Wb h.ch.size h2);obtain⟨k,_,h6⟩:=hS b h2;exact(h.bnd k b h6).1;exact⟨(h.bnd j b h1).1,Qw (h.bnd j b h1).2 hsz⟩;have cross: ∀k j b,Bk H' k b->Bk H j b->j∉ms.map (·.2)->False:=λk j b h1 h2 N=>by
  rcases(hnew k b h1).1 with I|I
  have:=(h.bnd j b h2).2;omega;obtain⟨i,h5,h6⟩:=hS b I;exact N (by rw[h.dis j i b h2 h6];exact h5)
 rcases hbk j b hj with⟨k,rfl,h1⟩|⟨_,h1,N⟩<;>rcases hbk j' b hj' with⟨k',rfl,h2⟩|⟨_,h2,I⟩
 rw[h'.dis k k' b h1 h2];exact(cross k j' b h1 h2 I).elim;exact(cross k' j b h2 h1 N).elim;exact h.dis j j' b h1 h2;rcases Qix hj with⟨k,rfl,h1⟩|⟨h1,_⟩
 rw[(Qcx ho h1).2.2]at hri;cases hri;rcases Qeu h1 with rfl|⟨h2,N,I⟩
 cases hri;obtain⟨h5,h6⟩:=h.ref j r i h2 hri;refine⟨h5,λr2 h7=>?_⟩;rcases Qix h7 with⟨k,rfl,h8⟩|⟨h8,_⟩
 exact(Qcx ho h8).2.2;rcases Qeu h8 with rfl|⟨h9,_⟩
 rfl;exact h6 r2 h9
section
variable {r:QN}{P:QR}{ops:QU}{Q:QG}{rest lst:QT}{C:Cx}{l:QI}{H:QJ}{d:Nat}{T:QQ}{pos:String}{af:Array Edge}
def Qgg {H:QJ}: ∀(ks:QM) (j:Nat),hk (kill ks H) j=bif ks.any (Nat.beq j)then some .dead else(hk H j).map λv=>bif rin ks v.ref then .dead else v
 | [],j=>by
  show hk H j=(hk H j).map _;cases hk H j with
  |none=>rfl
  |some v=>cases N:v.ref<;>simp[rin,N]
 |k::ks,j=>by
  show hk ((k,.dead)::drp k (kill ks H)) j=_;rw[Qab,Qcr,Qgg ks j,Jo];by_cases E:k=j;subst E;simp;have I:Nat.beq j k=false:=by cases W:Nat.beq j k with
   |false=>rfl
   |true=>exact absurd (Qk W).symm E
  rw[Qb E,I];revert I;intro _;cases ks.any (Nat.beq j)<;>cases N:hk H j<;>try rfl
  rename_i v;cases hr:v.ref with
  |none=>simp[rin,hr]
  |some i=>simp only[cond_false,Yi,Wo,rin,hr,Jo,List.any_nil,Bool.or_false];cases W:ks.any (Nat.beq i)<;>cases hb2:Nat.beq i k<;>simp_all [rin,Res.ref]
def kld (js:QM)(H:QJ)(ks:QM):QJ:=ded ks (ded js H)
def hk_kld {H:QJ}{ks js:QM}(h:hng ks js H=true)(j:Nat):hk (kld js H ks) j=hk (kill ks H) j\/(hk (kld js H ks) j=some .dead/\hk (kill ks H) j=none):=by
 rw[kld,Qjk,Qjk,Qgg];cases ks.any (Nat.beq j)with
 |true=>exact .inl rfl
 |false=>exact hng_at h j
def hk_hcat: ∀{A H H':QJ},(∀j,hk H' j=hk H j\/(hk H' j=some .dead/\hk H j=none))->∀j,hk (hcat A H') j=hk (hcat A H) j\/(hk (hcat A H') j=some .dead/\hk (hcat A H) j=none)
 | [],_,_,h,j=>h j
 |(d,u)::A,H,H',h,j=>by
  show hk ((d,u)::hcat A H') j=hk ((d,u)::hcat A H) j\/(hk ((d,u)::hcat A H') j=some .dead/\hk ((d,u)::hcat A H) j=none);rw[Qab,Qab];by_cases h2:d=j;rw[Qc h2,Qc h2];exact .inl rfl;rw[Qb h2,Qb h2];exact hk_hcat (A:=A) h j
def AL.call (n:Nat)(js:QM){f:FuncId}{c:Operand}{xs:List Operand}{vs vs' first cap:QL}{ts:Array QQ}{H0:QJ}{ms:List (Nat×Nat)}{ls:QM}{S:QM}{R:Value->QJ->Prop}
  (E: ∀args w,(callFunc f args).run P w=.ok (.enter f args) w) (I:Ct P f vs' H0 S R) (hs:Sub H H0 ms ls)
  (h: ∀v H',R v H'->(outs H'&&frs n H H')=true/\AL r P ops Q rest C ((d,v)::l) (hcat (sft n H') (kld js H (ms.map (·.2)))))
  (hc:ev l c=some (.func (.func f) first.toArray cap.toArray):=by rfl) (hx:evs l xs=some vs:=by rfl) (hv:first++vs++cap=vs':=by rfl) (hS:blks H ms=S:=by rfl) (h1:nod (H0.map (·.1))=true:=by rfl) (h2:nod (ms.map (·.2))=true:=by rfl) (h3:ls.all (λk=> !(ms.map (·.2)).any (Nat.beq k))=true:=by rfl) (hd:Nat.ble (d+1) C.n=true:=by rfl) (hj:hng (ms.map (·.2)) js H=true:=by kernel_rfl):
  AL r P ops Q (⟨some d,.call {callee:=.value c,args:=xs.toArray,argTypes:=ts},T,pos,af,none⟩::rest) C l H:=λa w W hh=>by
 subst hS;subst hv;refine Z.call1 W hd (r_callv E W (first:=first) (cap:=cap) (vs:=vs) (xs:=xs) hc hx) (I w (Fh C H) (hs.hp hh h1 h2 h3)) λe w' ⟨v,H',he,hR,hh'⟩=>⟨v,he,λa' hf'=>?_⟩;obtain⟨N,h5⟩:=h v H' hR;rw[Qd]at N;exact h5 a' w' hf' ((hh.back hh' N.1 N.2).ext (hk_hcat (hk_kld hj)))
end
def pk_kont {r:QN}{P:QR}{Y:QG}(hp:Pq Y): ∀{K:List Kx},Pq (kont r P Y K)
 | []=>hp
 | .c _::K=>λc a d v w h=>pk_kont hp (K:=K) c a d v w h
 | .b _::K=>λc a d v w h=>pk_kont hp (K:=K) c a d v w h
 | .m _::K=>λc a d v w h=>pk_kont hp (K:=K) c a d v w h
 | .s::K=>λc a d v w h=>pk_kont hp (K:=K) c a d v w h
section
variable {r:QN}{P:QR}{ops:QU}{Q:QG}{S S':World->Prop}{m:Nat}
def gn (ops:QU)(li:Array Bool)(m:Nat):Bool:=(ops[m]?).isSome&&li.getD m false
def Hem (r:QN)(P:QR)(ops:QU)(Q:QG)(S:World->Prop)(m:Nat):Nat->Array Bool->QH
 |0,listed,a,w=>Region.ready .any ops listed=[]/\Q .normal a w
 |f+1,listed,a,w=>(Region.ready .any ops listed=[]->Q .normal a w)/\
  ∀i∈Region.ready .any ops listed,wpOpIn (FW r) 0 P ops Q i (λa' w'=>(gn ops (listed.setIfInBounds i true) m=false->S w')/\Hem r P ops Q S m f (listed.setIfInBounds i true) a' w') a w
def Hem.any: ∀(f:Nat) (listed:Array Bool) (a:Act) (w:World),Hem r P ops Q S m f listed a w->wpAnyIn (FW r) 0 P .any ops Q f listed a w
 |0,_,_,_,h=>h
 |f+1,_,_,_,h=>⟨h.1,λi E=>wpOpIn_mono (λa' w' h'=>Hem.any f _ a' w' h'.2) (h.2 i E)⟩
def bonf (ops:QU)(i:Nat):Nat->Nat->Bool
 |0,_=>false
 |f+1,m=>match ops[m]? with
  |none=>false
  |some o=>(o.after.any λe=>Region.binds .any e&&Nat.beq e.on i)||o.after.any λe=>Region.binds .any e&&bonf ops i f e.on
def bon (ops:QU)(m i:Nat):Bool:=match ops[m]? with
 |none=>true
 |some _=> !(Nat.beq i m)&&bonf ops i 12 m
def Clo (ops:QU)(li:Array Bool):Prop:=∀k o,ops[k]?=some o->li.getD k false=true->∀e∈o.after,Region.binds .any e=true->li.getD e.on false=true
def cloB (ops:QU)(li:Array Bool):Bool:=(List.range ops.size).all λk=>match ops[k]? with
 |none=>true
 |some o=> !(li.getD k false)||o.after.all λe=> !(Region.binds .any e)||li.getD e.on false
def clo_of {ops:QU}{li:Array Bool}(h:cloB ops li=true):Clo ops li:=λk o hk E e I N=>by
 have:=Q5.1 h k (Yj.2 (Qv.1 hk).1);rw[hk]at this;simp only[E,X6,Yi]at this;have h2:=(Array.all_eq_true_iff_forall_mem.1 this) e I;simpa[N] using h2
def Qes {li:Array Bool}{j k:Nat}(h:li.getD k false=true):(li.setIfInBounds j true).getD k false=true:=by
 by_cases e:j=k;subst e;by_cases E:j<li.size;simp[E];simp[Yp (Jj E)]at h;rw[getD_set_ne false e];exact h
def Clo.step {ops:QU}{li:Array Bool}{j:Nat}(h:Clo ops li)(hj:j∈Region.ready .any ops li):Clo ops (li.setIfInBounds j true):=λk o hk N e W hb=>by
 by_cases I:j=k;subst I;obtain⟨_,oj,E,hall⟩:=mem_ready.1 hj;rw[hk]at E;injection E with E;subst E
 exact Qes (hall e W hb);rw[getD_set_ne false I]at N;exact Qes (h k o hk N e W hb)
def Qeh {ops:QU}{li:Array Bool}{i:Nat}(W:Clo ops li): ∀(f m:Nat) {o:Oper},ops[m]?=some o->(∀e∈o.after,Region.binds .any e=true->li.getD e.on false=true)->bonf ops i f m=true->li.getD i false=true
 |0,_,_,_,_,h=>by cases h
 |f+1,m,o,hm,ha,h=>by
  unfold bonf at h;rw[hm]at h;simp only[Xs,Array.any_eq_true']at h;rcases h with⟨e,I,E⟩|⟨e,I,E⟩
  rw[Qd]at E;rw[<-Qk E.2];exact ha e I E.1;rw[Qd]at E;have h1:=E.2;cases f with
  |zero=>cases h1
  |succ f=>
   cases N:ops[e.on]? with
   |none=>unfold bonf at h1;rw[N]at h1;cases h1
   |some o'=>exact Qeh W (f+1) e.on N (W e.on o' N (ha e I E.1)) h1
def gn_ne {li:Array Bool}{i:Nat}(h:i≠m):gn ops (li.setIfInBounds i true) m=gn ops li m:=by unfold gn;rw[getD_set_ne false h]
def Qkw {li:Array Bool}{j:Nat}(h:gn ops (li.setIfInBounds j true) m=false):gn ops li m=false:=by
 cases E:gn ops li m with
 |false=>rfl
 |true=>
  unfold gn at h E;rw[Qd]at E;rw[E.1,Qes E.2]at h;cases h
def bon_ne {i:Nat}{oi:Oper}(E:ops[i]?=some oi)(h:bon ops m i=true):i≠m:=λe=>by
 subst e;unfold bon at h;rw[E]at h;simp only[Qd,Y7,X6,Q3,false_and]at h
def bon_gn {li:Array Bool}{i:Nat}(hc:Clo ops li)(N:bon ops m i=true)(hr:i∈Region.ready .any ops li):gn ops li m=false:=by
 cases E:gn ops li m with
 |false=>rfl
 |true=>
  unfold gn at E;rw[Qd]at E;unfold bon at N;cases W:ops[m]? with
  |none=>rw[W]at E;cases E.1
  |some om=>
   rw[W]at N;simp only[Qd]at N;have hl:=Qeh hc 12 m W (hc m om W E.2) N.2;have h0:=(mem_ready.1 hr).1;by_cases I:i<li.size;simp[I]at h0 hl;rw[h0]at hl;cases hl;simp[Yp (Jj I)]at hl
def Hem.first {T:World->Prop}{i:Nat}{oi:Oper}{v:Value}(hn:Qbr ops=true)(hi:ops[i]?=some oi)(hs:Region.noSelect ops=true)(hne:i≠m)(I:(bon ops m i=true/\∀w,S w->T w)\/∀w,T w)(hQ: ∀c a w,Q (.panic c) (a.put oi.dst v) w->Q (.panic c) a w): ∀(f:Nat) (listed:Array Bool) (a:Act) (w:World),Clo ops listed->
  (∀j oj,ops[j]?=some oj->j≠i->listed.getD j true=false->(∀e∈oj.after,Region.binds .any e=true->e.on≠i)->oi.apart ops oj=true)->i∈Region.ready .any ops listed->YieldsIf P ops T oi v a->(gn ops listed m=false->S w)->
  Hem r P ops Q S m f (listed.setIfInBounds i true) (a.put oi.dst v) w->Hem r P ops Q S m (f+1) listed a w
 |0,listed,a,w,N,_,W,hy,hS,H=>⟨λh=>(by rw[h]at W;cases W),λj hj=>by
   have hT:T w:=by
    rcases I with I|I
    exact I.2 w (hS (bon_gn N I.1 W));exact I w
   by_cases E:j=i;subst E;exact Hel.op (Qcb hn hi) hi hy hT ⟨λh=>hS (Qkw h),H⟩;have:=ready_mono hj E;rw[H.1]at this;cases this⟩
 |f+1,listed,a,w,N,hfree,W,hy,hS,H=>⟨λh=>(by rw[h]at W;cases W),λj hj=>by
   have hT:T w:=by
    rcases I with I|I
    exact I.2 w (hS (bon_gn N I.1 W));exact I w
   by_cases E:j=i;subst E;exact Hel.op (Qcb hn hi) hi hy hT ⟨λh=>hS (Qkw h),H⟩;have h1:=H.2 j (ready_mono hj E);obtain⟨hun,oj,hoj,hall⟩:=mem_ready.1 hj;have hno: ∀e∈oj.after,Region.binds .any e=true->e.on≠i:=λe he I heq=>by
    have hl:=hall e he I;have h0:=(mem_ready.1 W).1;rw[heq]at hl;by_cases hsz:i<listed.size;simp[hsz]at h0 hl;rw[h0]at hl;cases hl;simp[Yp (Jj hsz)]at hl
   have h2:=Hel.put (Qcb hn hoj) hoj (hfree j oj hoj E hun hno) (λcs b=>Region.noSelect_spec hs i oi cs b hi) (λcs b=>Region.noSelect_spec hs j oj cs b hoj) hQ hy h1;refine wpOpIn_mono (λa' w' h3=>?_) h2;have hS':gn ops (listed.setIfInBounds j true) m=false->S w':=λh=>h3.2.1 (by rw[Array.setIfInBounds_comm _ _ (Ne.symm E),gn_ne hne];exact h);refine⟨hS',Hem.first hn hi hs hne I hQ f _ a' w' (N.step hj) (λk ok hk hki hkun hkno=>hfree k ok hk hki ?_ hkno) (ready_mono W (Ne.symm E)) h3.1 hS' ?_⟩;by_cases hjk:j=k;subst hjk;exact hun;rwa[getD_set_ne true hjk]at hkun;rw[Array.setIfInBounds_comm _ _ E];exact h3.2.2⟩
def Hem.str (E: ∀w,S' w->S w): ∀(f:Nat) (li:Array Bool) (a:Act) (w:World),Hem r P ops Q S' m f li a w->Hem r P ops Q S m f li a w
 |0,_,_,_,h=>h
 |f+1,li,a,w,h=>⟨h.1,λi I=>wpOpIn_mono (λa' w' h'=>⟨λN=>E w' (h'.1 N),Hem.str E f _ a' w' h'.2⟩) (h.2 i I)⟩
def HZ (r:QN)(P:QR)(ops:QU)(Q:QG)(S:World->Prop)(m fuel:Nat)(listed:Array Bool)(i:Nat):QG
 | .normal,a,w=>(gn ops (listed.setIfInBounds i true) m=false->S w)/\Hem r P ops Q S m fuel (listed.setIfInBounds i true) a w
 |e,a,w=>Q e a w
def Hem.list {a:Act}{w:World}{fuel:Nat}{listed:Array Bool}{i:Nat}{o:Oper}(W:ops[i]?=some o)(h:WL r P ops (HZ r P ops Q S m fuel listed i) [o] a w):wpOpIn (FW r) 0 P ops Q i (λa' w'=>(gn ops (listed.setIfInBounds i true) m=false->S w')/\Hem r P ops Q S m fuel (listed.setIfInBounds i true) a' w') a w:=by
 unfold wpOpIn;rw[W];simp only[];unfold WL wpListIn at h;by_cases N:Region.wanted o (yielded ops a.tmps)=true;rw[Qc N]at h ⊢;refine⟨h.1,?_⟩;have h:=h.2;generalize (o.semAt (FW r).round a.eval).run P w=res at h ⊢;cases res with
 |ok x w'=>
  cases x with
  |enter f args=>exact⟨h.1,CallsIn.mono h.2 λe w'' E=>by cases e<;>first|exact E|exact E.elim λ_ I=>I.elim λ_ I=>⟨_,_,I⟩⟩
  |row row args=>exact⟨h.1,RowsIn.mono h.2 λ_ _ E=>E⟩
  |round l f tmps assign body=>exact⟨h.1,RoundIn.mono h.2 λe w'' E=>by cases e<;>first|exact E|exact E.elim λ_ I=>I.elim λ_ I=>⟨_,_,I⟩⟩
  |_=>exact h
 |halt x w'=>cases x<;>exact h
 rw[Qb N]at h ⊢;exact h
section
variable {K:Kn}{w:World}{n:Nat}{ds:List Deferred}
def dqm_walk {li':Array Bool}{f:Nat}(hn:(Region.noSelect ops&&Qbr ops)=true)(hQ: ∀c a d v w,Q (.panic c) (Act.put a d v) w->Q (.panic c) a w){bb:Nat->Bool}(I: ∀i,bb i=true->∀o,ops[i]?=some o->i≠m/\((bon ops m i=true/\∀w,S w->K.ok w)\/∀w,K.ok w)):
  ∀{is:List (Nat×Hint)} {li:Array Bool} {s s':QS} {a:Act},(gn ops li m=false->S w)->Clo ops li->is.all (λp=>bb p.1)=true->dqs P K n ops is li s=some (li',s')->(∀p,p∈s'.c->p)->(∀p,p∈s'.q->p.1=p.2)->s.ok a n ds->(∀a',s'.ok a' n ds->Hem r P ops Q S m f li' a' w)->Hem r P ops Q S m (f+is.length) li a w
 | [],_,s,s',a,_,_,_,hq,_,_,hs,h=>by simp only[dqs,Qg,Qt]at hq;obtain⟨h1,h2⟩:=hq;subst h1;subst h2;exact h a hs
 |(i,g)::is,li,s,s',a,hS,N,hb,hq,hc,he,hs0,h=>by
  have hn':=hn;rw[Qd]at hn;rw[X7,Qd]at hb;unfold dqs at hq;split at hq;rename_i o hi;split at hq;rename_i E;rw[Qd]at E;split at hq;rename_i s1 h1;have W:=dqs_le hq;obtain⟨d,v,hd,k1,k2,k3⟩:=o_dr hs0 h1 (λp hp=>hc p (W.c p hp)) (λp hp=>he p (W.q p hp));have hrest:Hem r P ops Q S m (f+is.length) (li.setIfInBounds i true) (a.put (some d) v) w:=dqm_walk hn' hQ I (λhg=>hS (Qkw hg)) (N.step (by simpa using E.2)) hb.2 hq hc he k1 h;obtain⟨hne,hb1⟩:=I i hb.1 o hi;refine Hem.first (T:=K.ok) hn.2 hi hn.1 hne hb1 (λc a w=>hQ c a _ v w) _ li a w N (Region.free_spec hi E.1) (by simpa using E.2) ?_ hS (by rw[hd];exact hrest);rcases k3 with⟨hw,hv⟩|⟨hw,rfl⟩
  exact .inl ⟨hw,hv⟩;exact .inr ⟨hw,rfl⟩;cases hq;cases hq;cases hq
end
variable {C:Cx}{l:QI}{H Hq:QJ}{f:Nat}{li:List Bool}
abbrev AH (r:QN) (P:QR) (ops:QU) (Q:QG) (Hq:QJ) (m f:Nat) (li:List Bool) (C:Cx) (l:QI) (H:QJ):Prop:=
 ∀a w,Fr a C.n C.ds l->Hp C H w->Hem r P ops Q (Hp C Hq) m f li.toArray a w
def Hp.drew {w w':World}(h:Hp C H w)(I:Ch [] w w'):Hp C H w':=by
 refine⟨?_,λk r N=>?_,λk b hb=>?_,h.dis,h.ref⟩;have E:=h.ch;exact⟨I.os.trans E.os,I.tape.trans E.tape,I.output.trans E.output,Wb E.size I.size,λb hb' hn=>by rw[I.block b (Qw hb' E.size) (by simp)];exact E.block b hb' hn⟩;exact Res.to (h.hold k r N) I (λb hF _=>⟨by simp,hF⟩) (λb W _=>⟨by simp,W⟩) (λi b _ W=>⟨by simp,W⟩) (by simp);exact⟨(h.bnd k b hb).1,Qw (h.bnd k b hb).2 I.size⟩
def AX.dr {Y:QG}{K:List Kx}{id:Nat}{lo:QT}(I:P.follows .mixedOrders=true)(m f:Nat)(li:List Bool)(h:AH r P lo.toArray (kont r P Y K) [] m f li C l H)(E:lo.toArray.size=f:=by rfl)(N:(Array.replicate lo.toArray.size false).toList=li:=by kernel_rfl):
  AX r P Y K (.region id lo.toArray true) C l H:=λa w W hh=>by
 subst E;subst N;have:=h a _ W (Hp.drew hh (Ch.drew w));rw[Q9]at this;exact wpIn_region_any I (Hem.any _ _ _ _ this)
def AH.str (gs:QM){Hq':QJ}(h:AH r P ops Q Hq' m f li C l H)(e:kpH Hq' gs gs=Hq:=by kernel_rfl):AH r P ops Q Hq m f li C l H:=λa w E I=>
 Hem.str (λw h=>h.cov gs e) _ _ a w (h a w E I)
def AH.q (hQ:Pq Q)(gs qs bs es:QM)(li':List Bool)(f:Nat)(is:List (Nat×Hint))(ks:QM)(cs:List Prop)(nl:QI){g:Nat}(hc:conj cs)(h:AH r P ops Q (kpH H qs qs) m f li' C (cat nl l) H)
  (hg:g=f+is.length:=by rfl) (hb:is.all (λp=>bon ops m p.1)=true:=by kernel_rfl) (W:cloB ops li.toArray=true:=by kernel_rfl) (hn:(Region.noSelect ops&&Qbr ops)=true:=by kernel_rfl)
  (hq:((dqs P ⟨knb (kpH H qs qs) bs,kne (kpH H qs qs) es⟩ C.n ops is li.toArray (q0 l)).bind λx=>(qfin l ks x.2).map λy=>(x.1.toList,y))=some (li',cs,nl):=by kernel_rfl)
  (N:(dqs P ⟨knb (kpH H qs qs) bs,kne (kpH H qs qs) es⟩ C.n ops is li.toArray (q0 l)).map (λs=>s.2.q.map Prod.fst)=(dqs P ⟨knb (kpH H qs qs) bs,kne (kpH H qs qs) es⟩ C.n ops is li.toArray (q0 l)).map (λs=>s.2.q.map Prod.snd):=by kernel_rfl)
  (e:kpH (kpH H qs qs) gs gs=Hq:=by kernel_rfl):AH r P ops Q Hq m g li C l H:=AH.str gs (e:=e) λa w hf hh=>by
 subst hg;cases I:dqs P ⟨knb (kpH H qs qs) bs,kne (kpH H qs qs) es⟩ C.n ops is li.toArray (q0 l)with
 |none=>rw[I]at hq;cases hq
 |some x=>
  obtain⟨li1,s'⟩:=x;rw[I]at hq N;have hq:((qfin l ks s').map λy=>(li1.toList,y))=some (li',cs,nl):=hq;have N:s'.q.map Prod.fst=s'.q.map Prod.snd:=by injection N
  cases E:qfin l ks s' with
  |none=>rw[E]at hq;cases hq
  |some y=>
   obtain⟨cs1,nl1⟩:=y;rw[E]at hq;simp only[Wo,Qg,Qt]at hq;obtain⟨h1,h2,h3⟩:=hq;subst h1;subst h2;subst h3;have hcs:s'.c=cs1:=by unfold qfin at E;split at E;(injection E with E;injection E);cases E
   exact dqm_walk hn hQ (bb:=λi=>bon ops m i) (λi hi o ho=>⟨bon_ne ho hi,.inl ⟨hi,λw' h'=>o_dt h' bs es⟩⟩) (λ_=>hh.keep qs) (clo_of W) hb I (by rw[hcs];exact Qgv hc) (Qet N) (o_ds hf) λa' hok=>by
    have:=h a' w (qfin_fr hok (dqs_inv (q0_inv l) I) E).1 hh;rwa[Q9]at this
def AH.v (hQ:Pq Q)(gs qs:QM)(i:Nat)(li':List Bool){d:Nat}{op:Op}{T:QQ}{pos:String}{af:Array Edge}{v:Value}(I:ops[i]?=some ⟨some d,op,T,pos,af,none⟩)(hr: ∀a w,Fr a C.n C.ds l->Hp C (kpH H qs qs) w->(execOp a.eval ⟨some d,op,T,pos,af,none⟩).run P w=.ok (.value v) w)
  (h:AH r P ops Q (kpH H qs qs) m f li' C ((d,v)::l) H) (hb:bon ops m i=true:=by kernel_rfl) (N:cloB ops li.toArray=true:=by kernel_rfl) (hl:(li.toArray.setIfInBounds i true).toList=li':=by kernel_rfl) (hd:Nat.ble (d+1) C.n=true:=by rfl) (W:(Region.noSelect ops&&Qbr ops)=true:=by kernel_rfl)
  (E:(Region.free .any ops li.toArray i&&(Region.ready .any ops li.toArray).contains i)=true:=by kernel_rfl) (e:kpH (kpH H qs qs) gs gs=Hq:=by kernel_rfl):AH r P ops Q Hq m (f+1) li C l H:=AH.str gs (e:=e) λa w hf hh=>by
 rw[Qd]at W E;refine Hem.first (T:=Hp C (kpH H qs qs)) W.2 I W.1 (bon_ne I hb) (.inl ⟨hb,λ_ h=>h⟩) (λc a w=>hQ c a _ _ w) f li.toArray a w (clo_of N) (Region.free_spec I E.1) (by simpa using E.2) (.inl ⟨Qco,λw' h'=>hr a w' hf h'⟩) (λ_=>hh.keep qs) ?_;have:=h _ w (hf.put (Qm hd) v) hh;rw[<-hl,Q9]at this;exact this
def AH.vg (hQ:Pq Q)(gs qs:QM)(i:Nat)(li':List Bool){d j dj:Nat}{b:Bool}{op:Op}{T:QQ}{pos:String}{af:Array Edge}{v:Value}(I:ops[i]?=some ⟨some d,op,T,pos,af,some (j,b)⟩)(hr: ∀a w,Fr a C.n C.ds l->Hp C (kpH H qs qs) w->(execOp a.eval ⟨some d,op,T,pos,af,none⟩).run P w=.ok (.value v) w)
  (h:AH r P ops Q (kpH H qs qs) m f li' C ((d,v)::l) H) (hj:(ops[j]?).bind (·.dst)=some dj:=by rfl) (N:lk l dj=some (.bool b):=by rfl) (hb:bon ops m i=true:=by kernel_rfl) (W:cloB ops li.toArray=true:=by kernel_rfl) (hl:(li.toArray.setIfInBounds i true).toList=li':=by kernel_rfl) (hd:Nat.ble (d+1) C.n=true:=by rfl) (hs:(Region.noSelect ops&&Qbr ops)=true:=by kernel_rfl)
  (E:(Region.free .any ops li.toArray i&&(Region.ready .any ops li.toArray).contains i)=true:=by kernel_rfl) (e:kpH (kpH H qs qs) gs gs=Hq:=by kernel_rfl):AH r P ops Q Hq m (f+1) li C l H:=AH.str gs (e:=e) λa w hf hh=>by
 rw[Qd]at hs E;refine Hem.first (T:=Hp C (kpH H qs qs)) hs.2 I hs.1 (bon_ne I hb) (.inl ⟨hb,λ_ h=>h⟩) (λc a w=>hQ c a _ _ w) f li.toArray a w (clo_of W) (Region.free_spec I E.1) (by simpa using E.2) (.inl ⟨Qcp hf hj N,λw' h'=>hr a w' hf h'⟩) (λ_=>hh.keep qs) ?_;have:=h _ w (hf.put (Qm hd) v) hh;rw[<-hl,Q9]at this;exact this
def AH.one (i:Nat){o:Oper}(h:AL r P ops (HZ r P ops Q (Hp C Hq) m f li.toArray i) [o] C l H)(N:ops[i]?=some o:=by rfl)(E:Region.ready .any ops li.toArray=[i]:=by kernel_rfl):AH r P ops Q Hq m (f+1) li C l H:=λa w W hh=>
 ⟨λh0=>(by rw[E]at h0;cases h0),λj I=>by rw[E,Qq]at I;subst I;exact Hem.list N (h a w W hh)⟩
def AH.two (i j:Nat){oi oj:Oper}(h1:AL r P ops (HZ r P ops Q (Hp C Hq) m f li.toArray i) [oi] C l H)(h2:AL r P ops (HZ r P ops Q (Hp C Hq) m f li.toArray j) [oj] C l H)(W:ops[i]?=some oi:=by rfl)(hj:ops[j]?=some oj:=by rfl)(E:Region.ready .any ops li.toArray=[i,j]:=by kernel_rfl):
  AH r P ops Q Hq m (f+1) li C l H:=λa w I N=>
 ⟨λh0=>(by rw[E]at h0;cases h0),λk hk=>by
  rw[E]at hk;simp only[Qn,List.not_mem_nil,or_false]at hk;rcases hk with rfl|rfl
  exact Hem.list W (h1 a w I N);exact Hem.list hj (h2 a w I N)⟩
def AH.nx {i:Nat}(li':List Bool)(gs:QM)(h:AH r P ops Q Hq m f li' C l H)(e:kpH H gs gs=Hq:=by kernel_rfl)(I:(li.toArray.setIfInBounds i true).toList=li':=by kernel_rfl):AL r P ops (HZ r P ops Q (Hp C Hq) m f li.toArray i) [] C l H:=λa w N E=>by
 refine Z.done ?_;show(_->Hp C Hq w)/\_;have:=h a w N E;rw[<-I,Q9]at this;exact⟨λ_=>E.cov gs e,this⟩
def AH.nm {i:Nat}(li':List Bool)(h:AH r P ops Q Hq m f li' C l H)(E:(li.toArray.setIfInBounds i true).toList=li':=by kernel_rfl)(I:gn ops li'.toArray m=true:=by kernel_rfl):AL r P ops (HZ r P ops Q (Hp C Hq) m f li.toArray i) [] C l H:=λa w N W=>by
 refine Z.done ?_;show(_->Hp C Hq w)/\_;have:=h a w N W;rw[<-E,Q9]at this;rw[<-E,Q9]at I;exact⟨λh=>(by rw[I]at h;cases h),this⟩
def AH.done {Y:QG}{K:List Kx}(h:AE r P Y K .normal C l H)(E:Region.ready .any ops li.toArray=[]:=by kernel_rfl):AH r P ops (kont r P Y K) Hq m f li C l H:=λa w I N=>by
 cases f with
 |zero=>exact⟨E,h a w I N⟩
 |succ f=>exact⟨λ_=>h a w I N,by rw[E];simp⟩
def cov {X:QH}{l':QI}{H':QJ}(gs:QM)(h: ∀a w,Fr a C.n C.ds l'->Hp C H' w->X a w)(h1:kp l (l'.map (·.1))=l':=by kernel_rfl)(h2:kpH H gs gs=H':=by kernel_rfl): ∀a w,Fr a C.n C.ds l->Hp C H w->X a w:=λa w E I=>h a w (Fr.cov E h1) (I.cov gs h2)
end
def peek {C:Cx}{H:QJ}{w:World}(hh:Hp C H w)(k kn:Nat){t:Ty}{A:QK}{c:Nat}{xs:List t.den}{i:Int}{v:t.den}(hi:ix xs i=some v)(hrow: ∀w,Hp C H w->∃G:Nat->Prop,Row t w (Fh C H) G A c xs/\∀b,G b->∀k,¬Bk H k b)(W:nok H kn (1+lv t)=true):
  ∃ps:Lf,ps.length=lv t/\t.ok v/\∃b o,A=some ⟨b,o,none⟩/\Hp C (hcat (kx (kn+1) (rs t v ps)) ((kn,.el none b (o+i.toNat*t.size) (cl t v ps))::H)) w:=by
 obtain⟨k,rfl,hv⟩:=Qaq hi;obtain⟨G,hR,hG⟩:=hrow w hh;obtain⟨b,o,es,hA,hb,hbl,hc,hr⟩:=hR.at hv;obtain⟨ps,hl,rfl,hrs⟩:=rep_cl (B:=Bk H) t (Qal t hr);have N:hk H kn=none:=Qcd W (Qr _) (by omega);have h1:Hp C ((kn,.el none b (o+k*t.size) (cl t v ps))::H) w:=hh.add N rfl (λj E=>by cases E) ⟨hc,hbl,hG b hb⟩;have hnn: ∀n k',nok H k' n=true->(∀j,k'<=j->j<k'+n->j≠kn)->nok ((kn,.el none b (o+k*t.size) (cl t v ps))::H) k' n=true:=by
  intro n;induction n with
  |zero=>intro _ _ _;rfl
  |succ n ih=>
   intro k' h2 h3;simp only[nok,Qd]at h2 ⊢;refine⟨?_,ih (k'+1) h2.2 λj h4 h5=>h3 j (by omega) (by omega)⟩;rw[Qab,Qb (Ne.symm (h3 k' (Qr _) (by omega)))];exact h2.1
 have hn2:nok H (kn+1) (rs t v ps).length=true:=by
  rw[Qdl t v ps hl];rw[Y6 1]at W;simp only[nok,Qd]at W;exact W.2
 refine⟨ps,hl,rep_ok t hr,b,o,hA,?_⟩;rw[We];refine h1.adds (hnn _ _ hn2 λj h4 _=>by omega) λr2 h4=>?_;obtain⟨h5,h6,h7⟩:=hrs r2 h4;have I: ∀j b',Bk ((kn,.el none b (o+k*t.size) (cl t v ps))::H) j b'↔Bk H j b':=λj b'=>by
  by_cases E:j=kn;subst E;rw[Bk.cons_eq];exact⟨λh=>by simp[Res.bl]at h,λ⟨_,h8,_⟩=>by rw[N]at h8;cases h8⟩;exact Bk.cons_ne E
 exact⟨h6,h7,Res.to h5 (S:=[]) (Ch.refl w) (λb' hF _=>⟨by simp,⟨λj E=>hF.1.1 j ((I j b').1 E),hF.1.2⟩,hF.2⟩) (λb' hB _=>⟨by simp,λj E=>hB j ((I j b').1 E)⟩) (λi b' _ hB=>⟨by simp,(I i b').2 hB⟩) (by simp)⟩
def Hp.blk {C:Cx}{H:QJ}{w:World}{g:Nat}{e:QQ}{cs:QL}(E:Hp C H w)(k:Nat)(h:hk H k=some (.blk g e cs):=by rfl):Blk w g e cs:=E.hold k _ h
def FU:Nat:=340282366920938463463374607431768211456
def gd {α:Type}(p:Prop)[Decidable p](x:Option α):Option α:=if p then x else none
def gd_some {α:Type}{p:Prop}[Decidable p]{x:Option α}{y:α}(h:gd p x=some y):p/\x=some y:=by
 unfold gd at h;split at h;exact⟨‹p›,h⟩;cases h
def bd_some {α β:Type}{x:Option α}{f:α->Option β}{y:β}(h:x.bind f=some y): ∃v,x=some v/\f v=some y:=Jt.1 h
def no0 {α:Type}{y:α}{p:Prop}(h:(none:Option α)=some y):p:=by cases h
def ix_nat {α:Type}(xs:List α)(k:Nat):ix xs (k:Int)=xs[k]?:=by unfold ix;rw[Qb (by omega),We]
def o_du {α:Type}{xs:List α}{i:Int}{x:α}(h:ix xs i=some x):0<=i/\i<xs.length:=by
 obtain⟨k,rfl,h2⟩:=Qaq h;have:=(Qe.1 h2).1;omega
instance (k:IntKind) (n:Int):Decidable (k.has n):=by unfold IntKind.has;infer_instance
def hasl (k:IntKind)(n:Int)(h:decide (k.has n)=true):k.has n:=Q7 h
def has_len {α:Type}{xs:List α}(h:xs.length<=maxLen):IntKind.i64.has (xs.length:Int):=Z.i64_has (by simp only[maxLen]at h;omega)
def has_nat {n:Nat}(h:n<=maxLen):IntKind.i64.has (n:Int):=Z.i64_has (by simp only[maxLen]at h;omega)
def has_min {k:IntKind}{a b:Int}(h1:k.has a)(h2:k.has b):k.has (min a b):=by
 rcases Int.le_total a b with h|h
 rw[Int.min_eq_left h];exact h1;rw[Int.min_eq_right h];exact h2
section
variable {X:QH}{C:Cx}{l:QI}{H:QJ}
def nil (k:Nat)(t:Ty)(e:QQ)(h: ∀a w,Fr a C.n C.ds l->Hp C ((k,.own t e none 0 [])::H) w->X a w)(E:hk H k=none:=by kernel_rfl): ∀a w,Fr a C.n C.ds l->Hp C H w->X a w:=λa w I N=>
 h a w I (N.add E rfl (λj W=>by cases W) (Own.nil t e 0 w _))
def snil (k:Nat)(t:Ty)(h: ∀a w,Fr a C.n C.ds l->Hp C ((k,.sh (.slice t) [.slice none 0 0] [])::H) w->X a w)(E:hk H k=none:=by kernel_rfl): ∀a w,Fr a C.n C.ds l->Hp C H w->X a w:=λa w I N=>
 h a w I (N.add E rfl (λj W=>by cases W) (Qhl t))
def frz (k:Nat)(js:QM){t:Ty}{e:QQ}{A:QK}{c:Nat}{xs:List t.den}(h: ∀a w,Fr a C.n C.ds l->Hp C ((k,.sh (.slice t) [.slice A xs.length c] xs)::ded js H) w->X a w)(E:hk H k=some (.own t e A c xs):=by rfl)(I:hng [k] js H=true:=by kernel_rfl): ∀a w,Fr a C.n C.ds l->Hp C H w->X a w:=λa w N W=>h a w N (Hp.dd (W.frz E) I)
def oko (k:Nat){t:Ty}{e:QQ}{A:QK}{c:Nat}{xs:List t.den}(h:(Ty.slice t).ok xs->∀a w,Fr a C.n C.ds l->Hp C H w->X a w)(E:hk H k=some (.own t e A c xs):=by rfl): ∀a w,Fr a C.n C.ds l->Hp C H w->X a w:=λa w W N=>by
 obtain⟨G,I,_⟩:=rowO E w N;exact h ⟨Wb I.1 I.2.1,I.ok⟩ a w W N
def cst (d:Nat){v v':Value}(e:v=v')(h: ∀a w,Fr a C.n C.ds ((d,v')::l)->Hp C H w->X a w)(h1:lk l d=some v:=by rfl): ∀a w,Fr a C.n C.ds l->Hp C H w->X a w:=λa w E I=>h a w (E.cons E (by rw[h1,e])) I
def Hp.mv {w:World}(N:Hp C H w){k k2:Nat}{r:Res}(h1:hk H k=some r)(hne:k2≠k)(h2: ∀u,hk H k2=some u->u=.dead)(hr:r.ref=none):Hp C ((k2,r)::(k,.dead)::drp k H) w:=by
 have hd:Hp C ((k,.dead)::drp k H) w:=N.upd (S:=[]) (Ch.refl w) (by simp) (by simp[Res.bl]) (λj E=>by cases E) λ_ _ _ _ _ _ _=>trivial;have hbk: ∀j b,Bk ((k2,r)::(k,.dead)::drp k H) j b->(j=k2/\b∈r.bl)\/(j≠k2/\j≠k/\Bk H j b):=λj b ⟨r2,I,h4⟩=>by
  rw[Qab]at I;split at I;rename_i e;injection I with I;subst I;exact .inl ⟨e.symm,h4⟩
  rename_i hn;rw[Qab]at I;split at I;injection I with I;subst I;cases h4
  rename_i hn2;rcases Qcy k H j r2 I with rfl|⟨W,_⟩
  cases h4;exact .inr ⟨Ne.symm hn,Ne.symm hn2,r2,W,h4⟩
 have hnb: ∀b,(∀j,¬Bk H j b)->∀j,¬Bk ((k2,r)::(k,.dead)::drp k H) j b:=λb hB j E=>by
  rcases hbk j b E with⟨_,I⟩|⟨_,_,I⟩
  exact hB k ⟨r,h1,I⟩;exact hB j I
 refine⟨N.ch,λj r2 E=>?_,λj b E=>?_,λj j' b E hj'=>?_,λj r2 i E hri=>?_⟩;rw[Qab]at E;split at E;injection E with E;subst E
 exact Res.to (N.hold k r h1) (S:=[]) (Ch.refl w) (λb hF _=>⟨by simp,hnb b hF.1,hF.2⟩) (λb hB _=>⟨by simp,hnb b hB⟩) (λi b hi _=>by rw[hr]at hi;cases hi) (by simp);rename_i hn;rw[Qab]at E;split at E;injection E with E;subst E;trivial
 rename_i hn2;rcases Qcy k H j r2 E with rfl|⟨W,h6⟩
 trivial;refine Res.to (N.hold j r2 W) (S:=[]) (Ch.refl w) (λb hF _=>⟨by simp,hnb b hF.1,hF.2⟩) (λb hB _=>⟨by simp,hnb b hB⟩) (λi b hi hB=>⟨by simp,?_⟩) (by simp);obtain⟨r3,h7,h8⟩:=hB;have hik:i≠k:=λe=>h6 (by rw[hi,e]);have hik2:i≠k2:=λe=>by subst e;rw[h2 _ h7]at h8;cases h8
 refine⟨r3,?_,h8⟩;rw[Qab,Qb (Ne.symm hik2),Qab,Qb (Ne.symm hik)];exact Qej h7 (by rw[(N.ref j r2 i W hi).2 r3 h7];simp);rcases hbk j b E with⟨_,I⟩|⟨_,_,I⟩
 exact N.bnd k b ⟨r,h1,I⟩;exact N.bnd j b I;rcases hbk j b E with⟨I,h4⟩|⟨_,I,h4⟩<;>rcases hbk j' b hj' with⟨W,h6⟩|⟨_,W,h6⟩
 rw[I,W];exact absurd (N.dis k j' b ⟨r,h1,h4⟩ h6) (Ne.symm W);exact absurd (N.dis k j b ⟨r,h1,h6⟩ h4) (Ne.symm I);exact N.dis j j' b h4 h6;rw[Qab]at E;split at E;injection E with E;subst E;rw[hr]at hri;cases hri
 rename_i hn;obtain⟨W,h6⟩:=hd.ref j r2 i E hri;refine⟨W,λr3 h7=>?_⟩;rw[Qab]at h7;split at h7;injection h7 with h7;subst h7;exact hr
 exact h6 r3 h7
def mv (k N:Nat)(js:QM){r:Res}(h: ∀a w,Fr a C.n C.ds l->Hp C ((N,r)::(k,.dead)::ded js H) w->X a w)(E:hk H k=some r:=by rfl)(hr:r.ref=none:=by rfl)(I:hk H N=none:=by kernel_rfl)(hj:hng [k] js H=true:=by kernel_rfl): ∀a w,Fr a C.n C.ds l->Hp C H w->X a w:=λa w hf hh=>h a w hf (Hp.dd2 (hh.mv E (λe=>by subst e;rw[E]at I;cases I) (λu W=>by rw[I]at W;cases W) hr) hj)
def gone (H:QJ)(k:Nat):Bool:=match hk H k with
 |none=>true
 |some .dead=>true
 |_=>false
def mvd (k I:Nat)(js:QM){r:Res}(h: ∀a w,Fr a C.n C.ds l->Hp C ((I,r)::(k,.dead)::ded js H) w->X a w)(N:hk H k=some r:=by rfl)(hr:r.ref=none:=by rfl)(E:Nat.beq I k=false:=by rfl)(W:gone H I=true:=by kernel_rfl)(hj:hng [k] js H=true:=by kernel_rfl): ∀a w,Fr a C.n C.ds l->Hp C H w->X a w:=λa w hf hh=>h a w hf (Hp.dd2 (hh.mv N (λe=>by rw[e,Y7]at E;cases E) (λu hu=>by
 unfold gone at W;rw[hu]at W;cases u<;>first|rfl|cases W) hr) hj)
end
section
variable {r:QN}{P:QR}{ops:QU}{Q:QG}{C:Cx}{l:QI}{H Hq:QJ}{m f:Nat}{li:List Bool}
def AH.cnd {ρ:Type}{A B R:Option ρ}{j:Nat}{b:Bool}(N:lk l j=some (.bool b))(E:(if b=true then A else B)=R)(ht:A=R->AH r P ops Q Hq m f li C ((j,.bool true)::l) H)(he:B=R->AH r P ops Q Hq m f li C ((j,.bool false)::l) H):AH r P ops Q Hq m f li C l H:=λa w I W=>by
 cases b with
 |true=>rw[Qc rfl]at E;exact ht E a w (I.cons I N) W
 |false=>rw[Qb (by simp)]at E;exact he E a w (I.cons I N) W
def AH.cnp {ρ:Type}{A B R:Option ρ}{j:Nat}{p:Prop}[Decidable p](N:lk l j=some (.bool (decide p)))(E:(if p then A else B)=R)(ht:p->A=R->AH r P ops Q Hq m f li C ((j,.bool true)::l) H)(he: ¬p->B=R->AH r P ops Q Hq m f li C ((j,.bool false)::l) H):AH r P ops Q Hq m f li C l H:=λa w I W=>by
 by_cases hp:p;rw[Qc hp]at E;exact ht hp E a w (I.cons I (by rw[N,Q4 hp])) W;rw[Qb hp]at E;exact he hp E a w (I.cons I (by rw[N,Wu hp])) W
def AH.pks (k kn:Nat){t:Ty}{A:QK}{c:Nat}{xs:List t.den}{i:Int}{v:t.den}(N:ix xs i=some v)(h:t.ok v->tele (lv t) λps=>∀b o,A=some ⟨b,o,none⟩->AH r P ops Q Hq m f li C l (hcat (kx (kn+1) (rs t v ps)) ((kn,.el none b (o+i.toNat*t.size) (cl t v ps))::H)))
  (E:hk H k=some (.sh (.slice t) [.slice A xs.length c] xs):=by rfl) (W:nok H kn (1+lv t)=true:=by kernel_rfl):AH r P ops Q Hq m f li C l H:=λa w hf hh=>by
 obtain⟨ps,hl,I,b,o,hA,h2⟩:=peek hh k kn N (rowS E) W;exact Qbq (h I) ps hl b o hA a w hf h2
def AH.pkl (k kn:Nat){t:Ty}{A:QK}{c:Nat}{xs:List t.den}{i:Int}{v:t.den}(N:ix xs i=some v)(h:t.ok v->tele (lv t) λps=>∀b o,A=some ⟨b,o,none⟩->AH r P ops Q Hq m f li C l (hcat (kx (kn+1) (rs t v ps)) ((kn,.el none b (o+i.toNat*t.size) (cl t v ps))::H)))
  (E:hk H k=some (.ln t A c xs):=by rfl) (W:nok H kn (1+lv t)=true:=by kernel_rfl):AH r P ops Q Hq m f li C l H:=λa w hf hh=>by
 obtain⟨ps,hl,I,b,o,hA,h2⟩:=peek hh k kn N (rowL E) W;exact Qbq (h I) ps hl b o hA a w hf h2
def AH.pko (k kn:Nat){t:Ty}{e:QQ}{A:QK}{c:Nat}{xs:List t.den}{i:Int}{v:t.den}(hi:ix xs i=some v)(h:t.ok v->tele (lv t) λps=>∀g,A=some ⟨g,0,none⟩->AH r P ops Q Hq m f li C l (hcat (kx (kn+1) (rs t v ps)) ((kn,.el (some k) g (i.toNat*t.size) (cl t v ps))::H)))
  (I:hk H k=some (.own t e A c xs):=by rfl) (hn:nok H kn (1+lv t)=true:=by kernel_rfl):AH r P ops Q Hq m f li C l H:=λa w hf hh=>by
 obtain⟨k',rfl,hv⟩:=Qaq hi;obtain⟨G,hR,hG⟩:=rowO I w hh;obtain⟨b,o,es,hA,hb,hbl,hc,N⟩:=hR.at hv;have ho:o=0:=by
  obtain⟨cells,hrow,_⟩:Own t e 0 w (Fh C H) A c xs:=hh.hold k _ I;rcases hrow.2 with⟨hv,_⟩|⟨g,cap,cur,hv,_⟩
  injection hv with hA' _ _;rw[hA]at hA';cases hA'
  injection hv with hA' _ _;rw[hA]at hA';injection hA' with hA';injection hA' with _ h2 _
 subst ho;rw[Wl]at hc;obtain⟨ps,hl,rfl,hrs⟩:=rep_cl (B:=Bk H) t (Qal t N);have hnk:hk H kn=none:=Qcd hn (Qr _) (by omega);have h1:Hp C ((kn,.el (some k) b (k'*t.size) (cl t v ps))::H) w:=hh.add hnk rfl (λj E r N=>by injection E with E;subst E;rw[I]at N;injection N with N;subst N;rfl) ⟨hc,hbl,hG b hb⟩;have hn2:nok H (kn+1) (rs t v ps).length=true:=by
  rw[Qdl t v ps hl];rw[Y6 1]at hn;simp only[nok,Qd]at hn;exact hn.2
 have hnn: ∀n W,nok H W n=true->(∀j,W<=j->j<W+n->j≠kn)->nok ((kn,.el (some k) b (k'*t.size) (cl t v ps))::H) W n=true:=by
  intro n;induction n with
  |zero=>intro _ _ _;rfl
  |succ n ih=>
   intro W h2 h3;simp only[nok,Qd]at h2 ⊢;refine⟨?_,ih (W+1) h2.2 λj h4 h5=>h3 j (by omega) (by omega)⟩;rw[Qab,Qb (Ne.symm (h3 W (Qr _) (by omega)))];exact h2.1
 have h2:Hp C (hcat (kx (kn+1) (rs t v ps)) ((kn,.el (some k) b (k'*t.size) (cl t v ps))::H)) w:=by
  refine h1.adds (hnn _ _ hn2 λj h4 _=>by omega) λr2 h4=>?_;obtain⟨h5,h6,h7⟩:=hrs r2 h4;have hbk: ∀j b',Bk ((kn,.el (some k) b (k'*t.size) (cl t v ps))::H) j b'↔Bk H j b':=λj b'=>by
   by_cases E:j=kn;subst E;rw[Bk.cons_eq];exact⟨λh=>by simp[Res.bl]at h,λ⟨_,h8,_⟩=>by rw[hnk]at h8;cases h8⟩;exact Bk.cons_ne E
  exact⟨h6,h7,Res.to h5 (S:=[]) (Ch.refl w) (λb' hF _=>⟨by simp,⟨λj E=>hF.1.1 j ((hbk j b').1 E),hF.1.2⟩,hF.2⟩) (λb' hB _=>⟨by simp,λj E=>hB j ((hbk j b').1 E)⟩) (λi b' _ hB=>⟨by simp,(hbk i b').2 hB⟩) (by simp)⟩
 exact Qbq (h (rep_ok t N)) ps hl b hA a w hf (by rw[We];exact h2)
def r_ixo {a:Act}{w:World}{d:Option Tmp}{T:QQ}{pos:String}{af:Array Edge}{n:Nat}{ds:List Deferred}{tt e:QQ}{x y:Operand}{A:QK}{b c:Nat}{t:Ty}{xs:List t.den}{i:Int}{kd:IntKind}{v:t.den}(I:ix xs i=some v)(N:A=some ⟨b,0,none⟩)(E:Fr a n ds l)
  (hx:ev l x=some (.slice A xs.length c):=by rfl) (W:ev l y=some (.int kd i):=by rfl) (ht:P.underlying tt=some (.slice e):=by rfl) (hs:szB P e=some t.size:=by kernel_rfl):(execOp a.eval ⟨d,.indexAddr tt x y,T,pos,af,none⟩).run P w=.ok (.value (.pointer (some ⟨b,i.toNat*t.size,none⟩))) w:=by
 obtain⟨k,rfl,hv⟩:=Qaq I;have:=r_indexAddrA (P:=P) (w:=w) (d:=d) (T:=T) (pos:=pos) (af:=af) (gd:=none) ht (Qaf hs) (E.eval hx) N (E.eval W) rfl (Qe.1 hv).1;rw[Wf,Wl]at this;exact this
def r_ixt {a:Act}{w:World}{d:Option Tmp}{T:QQ}{pos:String}{af:Array Edge}{n:Nat}{ds:List Deferred}{tt:QQ}{x y:Operand}{s:ByteArray}{kd:IntKind}{i:Int}{v:UInt8}(W:ix s.data.toList i=some v)(I:Fr a n ds l)(ht:P.underlying tt=some .string:=by rfl)(hx:ev l x=some (.string s):=by rfl)(hy:ev l y=some (.int kd i):=by rfl):
  (execOp a.eval ⟨d,.index tt x y,T,pos,af,none⟩).run P w=.ok (.value (.int .u8 (v.toNat:Int))) w:=by
 obtain⟨k,rfl,N⟩:=Qaq W;have E:=(Qe.1 N).1;have:=r_indexStr (P:=P) (w:=w) (d:=d) (T:=T) (pos:=pos) (af:=af) (gd:=none) ht (I.eval hx) (I.eval hy) rfl (show k<s.size from E);rw[this];have hb:bat s k=v:=by
  unfold bat;rw[Q1,<-Wi,N];rfl
 rw[hb]
def r_ixa {a:Act}{w:World}{d:Option Tmp}{T:QQ}{pos:String}{af:Array Edge}{n:Nat}{ds:List Deferred}{tt e:QQ}{x y:Operand}{A:QK}{b o c:Nat}{t:Ty}{xs:List t.den}{i:Int}{kd:IntKind}{v:t.den}(I:ix xs i=some v)(N:A=some ⟨b,o,none⟩)(E:Fr a n ds l)
  (hx:ev l x=some (.slice A xs.length c):=by rfl) (W:ev l y=some (.int kd i):=by rfl) (ht:P.underlying tt=some (.slice e):=by rfl) (hs:szB P e=some t.size:=by kernel_rfl):(execOp a.eval ⟨d,.indexAddr tt x y,T,pos,af,none⟩).run P w=.ok (.value (.pointer (some ⟨b,o+i.toNat*t.size,none⟩))) w:=by
 obtain⟨k,rfl,hv⟩:=Qaq I;have:=r_indexAddrA (P:=P) (w:=w) (d:=d) (T:=T) (pos:=pos) (af:=af) (gd:=none) ht (Qaf hs) (E.eval hx) N (E.eval W) rfl (Qe.1 hv).1;rw[Wf]at this;exact this
end
def lt {α β:Type}(x:α)(f:α->Option β):Option β:=f x
def lt_some {α β:Type}{x:α}{f:α->Option β}{y:β}(h:lt x f=some y): ∃v,x=v/\f v=some y:=⟨x,rfl,h⟩
def seen_lt: ∀{n:Nat} {sn:QM},sn.Nodup->(∀i∈sn,i<n)->sn.length<=n
 |0,sn,_,h2=>by
  cases sn with
  |nil=>simp
  |cons a l=>exact absurd (h2 a (Qh ..)) (by omega)
 |n+1,sn,h1,h2=>by
  have E:(sn.erase n).length<=n:=seen_lt (h1.erase n) λi N=>by
   have W:=List.Nodup.mem_erase_iff h1 |>.1 N;have:=h2 i W.2;omega
  by_cases I:n∈sn;rw[List.length_erase_of_mem I]at E;omega;rw[List.erase_of_not_mem I]at E;omega
def seen_all {α β:Type}{m:List α}{sn:QM}{body:α->Option (Option β)}(h: ∀i∈sn,∀p,m[i]?=some p->body p=some none)(I: ∀i,i<m.length->i∈sn): ∀x∈m,body x=some none:=λx hx=>by
 obtain⟨i,E,rfl⟩:=Yn hx;exact h i (I i E) _ (Qj E)
def seen_cons {α β:Type}{m:List α}{sn:QM}{body:α->Option (Option β)}{i:Nat}{p:α}(h: ∀i∈sn,∀p,m[i]?=some p->body p=some none)(hp:m[i]?=some p)(I:body p=some none): ∀j∈i::sn,∀p,m[j]?=some p->body p=some none:=λj E x hx=>by
 rcases Qn.1 E with rfl|E
 rw[hp]at hx;injection hx with hx;subst hx;exact I
 exact h j E x hx
def seen_bd {α:Type}{m:List α}{sn:QM}{i:Nat}{p:α}(h: ∀i∈sn,i<m.length)(hp:m[i]?=some p): ∀j∈i::sn,j<m.length:=λj E=>by
 rcases Qn.1 E with rfl|E
 exact(Qe.1 hp).1;exact h j E
def seen_f {n f:Nat}{sn:QM}{i:Nat}(h1:sn.Nodup)(h2: ∀j∈i::sn,j<n)(E:i∉sn)(I:f+sn.length=n+1):f-1<f/\(f-1)+(i::sn).length=n+1:=by
 have:=seen_lt (Xb.2 ⟨E,h1⟩) h2;simp only[Q2]at this ⊢;omega
def om {α β:Type}(x:Option α)(a:Option β)(f:α->Option β):Option β:=match x with
 |none=>a
 |some p=>f p
def om_n {α β:Type}{x:Option α}{a:Option β}{f:α->Option β}(h:x=none):om x a f=a:=by rw[h];rfl
def om_s {α β:Type}{x:Option α}{a:Option β}{f:α->Option β}{p:α}(h:x=some p):om x a f=f p:=by rw[h];rfl
def mrg {α β:Type}[DecidableEq β](body:α->Option (Option β))(rest:Option β):List α->Option β
 | []=>rest
 |x::l=>(body x).bind λq=>match q with
  |none=>mrg body rest l
  |some y=>if l.all (λz=>decide (body z=some none\/body z=some (some y)))then some y else none
def mrg_all {α β:Type}[DecidableEq β]{body:α->Option (Option β)}{rest:Option β}{r:β}: ∀{l:List α},mrg body rest l=some r->(∀x∈l,∃q,body x=some q/\(q=none\/q=some r))/\((∀x∈l,body x=some none)->rest=some r)
 | [],h=>⟨by simp,λ_=>h⟩
 |x::l,h=>by
  unfold mrg at h;obtain⟨q,hq,h⟩:=bd_some h;cases q with
  |none=>
   obtain⟨h1,h2⟩:=mrg_all (l:=l) h;refine⟨λz E=>?_,λI=>h2 λz E=>I z (Qf _ E)⟩;rcases Qn.1 E with rfl|E
   exact⟨none,hq,.inl rfl⟩;exact h1 z E
  |some y=>
   simp only[]at h;split at h;rename_i hall;injection h with h
   subst h;refine⟨λz E=>?_,λI=>?_⟩;rcases Qn.1 E with rfl|E
   exact⟨some y,hq,.inr rfl⟩;rcases Q7 (Q5.1 hall z E)with N|N
   exact⟨_,N,.inl rfl⟩;exact⟨_,N,.inr rfl⟩;have:=I x (Qh ..);rw[hq]at this;injection this with this
   cases this;cases h
section
variable {P:QR}{w:World}
def Qkf {g b m:Nat}{seen:QM}{es:List (Value×Value)}{ty:QQ}(hr:Rg w g b m seen)(hm:MapC w b es):
  ((∀i,i<m->i∈seen)/\(Instr.next (.pointer (some ⟨g,0,none⟩)) false ty).run P w=.ok (.tuple #[.bool false]) w)\/
  ∃i k v w',i<m/\i∉seen/\es[i]?=some (k,v)/\(Instr.next (.pointer (some ⟨g,0,none⟩)) false ty).run P w=.ok (.tuple #[.bool true,k,v]) w'/\Ch [g] w w'/\w'.heap.size=w.heap.size/\Rg w' g b m (i::seen)/\Lst w' g b k v:=by
 obtain⟨N,arr,clock,since,sb,hb,hlen,hg,hsc,hold,W,hseen⟩:=hr;obtain⟨arr',clock',hb',hes,_,_⟩:=hm;rw[hb]at hb';injection hb' with hb';injection hb' with hb' _
 have hb':=List.toArray_inj hb';subst hb';have hgl:=(Qv.1 hg).1;have hgetg:(getObj g).run P w=.ok (.mapIter (some b) since sb.toArray since) w:=by simp[getObj,Sem.run,hg]
 have hgetb:(getObj b).run P w=.ok (.map arr.toArray clock) w:=by simp[getObj,Sem.run,hb]
 have htest:=next_test_false sb.toArray arr.toArray since since (by simpa using hold) (Qr _);obtain⟨L,hL⟩: ∃L,L=arr.toArray.filter λe=> !sb.toArray.contains e.born:=⟨_,rfl⟩;have hLm: ∀e,e∈L.toList↔e∈arr/\e.born∉sb:=λe=>by rw[hL];simp
 have e1:L.filter (λx=>decide (x.born<since))=L:=Array.filter_eq_self.2 (λx hx=>by have:=(hLm x).1 (by simpa using hx);simpa using hold x this.1);have e2:L.filter (λx=>decide (x.born≥since))=#[]:=by
  rw[Jl];intro x hx;have:=hold x ((hLm x).1 (by simpa using hx)).1;simp;omega
 by_cases h0:L.size=0
 ·left
  have hLe:L=#[]:=Y2 h0;refine⟨λi I=>?_,?_⟩;obtain⟨e,he⟩: ∃e,arr[i]?=some e:=⟨_,Qj (by omega)⟩;refine(hseen i e he).1 (Classical.byContradiction λhn=>?_);have:=(hLm e).2 ⟨Qu he,hn⟩;rw[hLe]at this;simp at this
  ·simp only[Instr.next,Qp,hgetg,Qi,hgetb,htest,Q3,Wd,<-hL,e1,e2,Array.append_empty]
   rw[hLe];simp[Question.forced]
 ·right
  have hie:L.isEmpty=false:=by simp[Array.isEmpty,h0]
  have hj: ∃j,j<L.size/\∃E:World,(choose (.mapNext L.size)).run P w=.ok j E/\(E=w\/E=w.drew):=by
   rw[run_choose_drew];by_cases hfo:(Question.mapNext L.size).forced=true;rw[Qc hfo];exact⟨0,by omega,w,rfl,.inl rfl⟩;rw[Qb hfo];exact⟨_,Nat.mod_lt _ (by omega),_,rfl,.inr rfl⟩
  obtain⟨j,hjl,E,hch,hw1⟩:=hj;obtain⟨e,he⟩: ∃e,L[j]?=some e:=⟨_,Wg hjl⟩;have heL:e∈L.toList:=by have:=Qu (l:=L.toList) (i:=j) (by rw[Wi];exact he);exact this
  obtain⟨hea,hen⟩:=(hLm e).1 heL;obtain⟨i,I⟩:=Xm.1 hea;have hil:=(Qe.1 I).1;have hheap:E.heap=w.heap:=by rcases hw1 with rfl|rfl<;>rfl
  have hc1:Ch [] w E:=by rcases hw1 with rfl|rfl;exact Ch.refl _;exact Ch.drew _
  have hset:(setObj g (.mapIter (some b) since (sb.toArray.push e.born) clock)).run P E=.ok () (E.putObj g (.mapIter (some b) since (sb.toArray.push e.born) clock)):=by
   simp[setObj,Sem.run,World.putObj,hheap,hg]
  refine⟨i,e.key,e.val,E.putObj g (.mapIter (some b) since (sb.toArray.push e.born) clock),by omega,λhs=>hen ((hseen i e I).2 hs),by rw[<-hes,Q0,I];rfl,?_,hc1.then (Ch.putObj E g _),by simp[hheap],⟨N,arr,clock,since,sb++[e.born],?_,hlen,?_,hsc,hold,W,?_⟩,?_⟩
  ·simp only[Instr.next,Qp,hgetg,Qi,hgetb,htest,Q3,Wd,<-hL,e1,e2,hie,Array.append_empty,Array.empty_append,Array.size_map,hch,Array.getElem?_map,he,Wo,hset,Qs]
  rw[Wy (λh=>N h.symm),hheap];exact hb;rw[Wm (by rw[hheap];exact hgl)];subst hsc;simp;intro i' e' he';rw[Q8,Qq,Qn,hseen i' e' he'];constructor;rintro(h|h);exact .inr h;left;have hi'l:=(Qe.1 he').1;have:=(J7 W (i:=i') (j:=i) (h₀:=by simpa using hi'l) (h₁:=by simpa using hil)).1 (by
   simp only[J5];rw[(Qe.1 he').2,(Qe.1 I).2];exact h)
  exact this;rintro(h|h);right;subst h;rw[I]at he';injection he' with he';rw[he']
  exact .inl h;have h1:=Wm (w:=E) (r:=g) (o:=.mapIter (some b) since (sb.toArray.push e.born) clock) (by rw[hheap];exact hgl);have h2:(E.putObj g (.mapIter (some b) since (sb.toArray.push e.born) clock)).heap[b]?=some (.map arr.toArray clock):=by rw[Wy (λh=>N h.symm),hheap];exact hb
  have hf:arr.find? (·.born==e.born)=some e:=by
   cases hfi:arr.find? (·.born==e.born)with
   |none=>have:=List.find?_eq_none.1 hfi e hea;simp at this
   |some e2=>
    have h3:=List.find?_some hfi;obtain⟨j,hj⟩:=Xm.1 (List.mem_of_find?_eq_some hfi);have hjl:=(Qe.1 hj).1;have:=(J7 W (i:=j) (j:=i) (h₀:=by simpa using hjl) (h₁:=by simpa using hil)).1 (by
     simp only[J5];rw[(Qe.1 hj).2,(Qe.1 I).2];simpa using h3)
    subst this;rw[I]at hj;exact hj.symm
  exact⟨since,clock,e.born,sb.toArray,arr,e,h1,h2,hf,rfl,rfl⟩
end
section
variable {r:QN}{P:QR}{ops:QU}{Q:QG}{rest lst:QT}{C:Cx}{l:QI}{H:QJ}{d:Nat}{op:Op}{T:QQ}{pos:String}{af:Array Edge}
variable {κ:Type}[DecidableEq κ]{enc:κ->Value}{kt et tt:QQ}{t:Ty}{agg:Bool}{b:Nat}{m:List (κ×t.den)}
def r_lkf {a:Act}{w:World}{d:Option Tmp}{x y:Operand}{z v:t.den}{zs:QL}{ok:Bool}(k:Nat)(K:Ky P kt enc)(key:κ)(hz: ∀w,(zeroValue et).run P w=.ok (vof agg zs) w)(hD:Dat H t zs z)(hv:mget z m key=v)(hl:lv t=0)(I:Fr a C.n C.ds l)(N:Hp C H w)
  (E:asmp (hk H k)=some (.mp κ enc t agg b m):=by rfl) (hx:ev l x=some (.map (some b)):=by rfl) (hy:ev l y=some (enc key):=by rfl) (ht:P.underlying tt=some (.map kt et):=by rfl):
  (execOp a.eval ⟨d,.lookup tt x y ok,T,pos,af,none⟩).run P w=.ok (.value (if ok then .tuple #[vof agg (cl t v []),.bool (mhas m key)]else vof agg (cl t v []))) w:=by
 subst hv;obtain⟨cs,h1,h2⟩:=run_lookup (zs:=zs) K ht hz (Dat.rep N t hD) (Qig N E) rfl key ok;obtain⟨ps,W,h4,_⟩:=rep_cl (B:=Bk H) t h2;rw[hl]at W;have:ps=[]:=Wz W;subst this;subst h4;exact r_lookup h1 (I.eval hx) (I.eval hy)
omit [DecidableEq κ]in
def AL.rgm (k kn:Nat){x:Operand}(h: ∀g,AL r P ops Q rest C ((d,.pointer (some ⟨g,0,none⟩))::l) ((kn,.mit k g b m.length [] none)::H))
  (E:hk H k=some (.mp κ enc t agg b m):=by rfl) (ht:P.underlying tt=some (.map kt et):=by rfl) (hx:ev l x=some (.map (some b)):=by rfl) (hd:Nat.ble (d+1) C.n=true:=by rfl) (hn:hk H kn=none:=by kernel_rfl):AL r P ops Q (⟨some d,.range tt x,T,pos,af,none⟩::rest) C l H:=λa w hf W=>
 Z.st_rangeMt hf hd ht hx (W.hold k _ E) λg w' a' hg hs hR N hf'=>h g a' w' hf' (W.new hn N (λb' hb'=>by simp only[Res.bl,Qq]at hb';omega) (λj hj r I=>by
   simp only[Res.ref,Qg]at hj;subst hj;rw[E]at I;injection I with I;subst I;rfl) λF B _ _ hB=>⟨hR,hB k b ⟨_,E,by simp[Res.bl]⟩,λkv h=>by cases h⟩)
omit [DecidableEq κ]in
def AL.nxm (k ki kn:Nat){x:Operand}{g:Nat}{seen:QM}{la:Option (Value×Value)}
  (h1:(∀i,i<m.length->i∈seen)->AL r P ops Q rest C ((d,.tuple #[.bool false])::l) H)
  (h2: ∀i p,m[i]?=some p->i∉seen->t.ok p.2->tele (lv t) λps=>AL r P ops Q rest C ((d,.tuple #[.bool true,enc p.1,vof agg (cl t p.2 ps)])::l) (hcat (kx kn (rs t p.2 ps)) ((ki,.mit k g b m.length (i::seen) (some (enc p.1,vof agg (cl t p.2 ps))))::H)))
  (I:hk H k=some (.mp κ enc t agg b m):=by rfl) (E:hk H ki=some (.mit k g b m.length seen la):=by rfl) (hx:ev l x=some (.pointer (some ⟨g,0,none⟩)):=by rfl) (hd:Nat.ble (d+1) C.n=true:=by rfl)
  (hn: ∀s la,nok ((ki,.mit k g b m.length s la)::H) kn (lv t)=true:=by intro _ _;kernel_rfl) (N:hng [ki] [] H=true:=by kernel_rfl):AL r P ops Q (⟨some d,.next x false,T,pos,af,none⟩::rest) C l H:=λa w hf hh=>by
 have hkk:k≠ki:=λe=>by subst e;rw[I]at E;injection E with E;cases E
 obtain⟨es,hmc,hl,h3⟩:Mt enc t agg w (Fh C H) b m:=hh.hold k _ I;rcases Qkf (P:=P) (ty:=T) (hh.hold ki _ E).1 hmc with⟨h4,h5⟩|⟨i,kv,v,w',i1,i2,i3,i4,i5,i6,i7,i8⟩
 refine Z.val hf hd ?_ λa' hf'=>h1 h4 a' w hf' hh;simp only[execOp,hf.eval hx,Qp,h5,Qi,Qs];obtain⟨p,hp⟩: ∃p,m[i]?=some p:=⟨_,Qj i1⟩;obtain⟨cs,h6,h7⟩:=h3 i p hp;rw[h6]at i3;injection i3 with i3;injection i3 with e1 e2
 subst e1;subst e2;have hup: ∀la,(∀kv,la=some kv->Lst w' g b kv.1 kv.2)->Hp C ((ki,.mit k g b m.length (i::seen) la)::H) w':=λla hla=>Hp.dd (js:=[]) (hh.upd i5 (λb' hb'=>⟨_,E,by simpa[Res.bl] using hb'⟩) (λb' hb'=>.inl ⟨_,E,hb'⟩) (λj N=>by
   simp only[Res.ref,Qg]at N;subst N;exact⟨hkk,λr hr=>by rw[I]at hr;injection hr with hr;subst hr;rfl⟩) λF B _ _ _ hB _=>⟨i7,hB k b rfl ⟨_,I,by simp[Res.bl]⟩,hla⟩) N
 have hr': ∀la,t.rep w' (Fh C ((ki,.mit k g b m.length (i::seen) la)::H)) cs p.2:=λla=>by
  refine rep_to h7 i5 λb' hb' hl'=>⟨λhm=>hb'.1 ki ⟨_,E,by simpa[Res.bl] using hm⟩,⟨λj N=>?_,hb'.2⟩⟩;by_cases W:j=ki;subst W;have h0:=Bk.cons_eq.1 N;exact hb'.1 j ⟨_,E,h0⟩;obtain⟨r2,h8,h9⟩:=(Bk.cons_ne W).1 N;exact hb'.1 j ⟨r2,h8,h9⟩
 have hok:=rep_ok t h7;obtain⟨ps,hl2,rfl,h9⟩:=Qhy (hup (some (enc p.1,vof agg cs)) (λkv h=>by injection h with h;subst h;exact i8)) (hr' _) kn (hn _ _);refine Z.valw hf hd ?_ λa' hf'=>Qbq (h2 i p hp i2 hok) ps hl2 a' w' hf' h9;simp only[execOp,hf.eval hx,Qp,i4,Qi,Qs]
def AL.ent (ki:Nat){x:Operand}{k g b n:Nat}{seen:QM}{kv vv:Value}(h:AL r P ops Q rest C ((d,.tuple #[kv,vv])::l) H)
  (E:hk H ki=some (.mit k g b n seen (some (kv,vv))):=by rfl) (hx:ev l x=some (.pointer (some ⟨g,0,none⟩)):=by rfl) (I:Nat.ble (d+1) C.n=true:=by rfl):AL r P ops Q (⟨some d,.entry x,T,pos,af,none⟩::rest) C l H:=
 AL.val I (λa w N W=>by
  have:=Lst.run (P:=P) ((W.hold ki _ E).2.2 _ rfl);simp only[execOp,N.eval hx,Qp,this,Qi,Qs]) h
def okm {X:QH}(k:Nat)(key:κ){z v:t.den}{zs:QL}(W:Dat H t zs z)(hv:mget z m key=v)(h:t.ok v->∀a w,Fr a C.n C.ds l->Hp C H w->X a w)(E:asmp (hk H k)=some (.mp κ enc t agg b m):=by rfl): ∀a w,Fr a C.n C.ds l->Hp C H w->X a w:=λa w hf I=>by
 subst hv;refine h ?_ a w hf I;cases N:mhas m key with
 |false=>rw[mget_none N];exact rep_ok t (Dat.rep I t W)
 |true=>
  obtain⟨es,_,_,h3⟩:Mt enc t agg w (Fh C H) b m:=Qig I E;obtain⟨i,hi⟩:=Xm.1 (mget_mem (z:=z) N);obtain⟨cs,_,h5⟩:=h3 i _ hi;exact rep_ok t h5
end
section
variable {r:QN}{P:QR}{ops:QU}{Q:QG}{rest lst:QT}{C:Cx}{l:QI}{H:QJ}{d:Nat}{op:Op}{T:QQ}{pos:String}{af:Array Edge}
def r_indexArr {a:Act}{w:World}{dd:Option Tmp}{gd:Option (Nat×Bool)}{tt e:QQ}{n sz g o:Nat}{x y:Operand}{i:Int}{kd:IntKind}(E:P.underlying tt=some (.array n e))(I: ∀w,(sizeOf e).run P w=.ok sz w)(hx:a.eval x=.pointer (some ⟨g,o,none⟩))(N:a.eval y=.int kd i)(h0:0<=i)(h1:i<n):
  (execOp a.eval ⟨dd,.indexAddr tt x y,T,pos,af,gd⟩).run P w=.ok (.value (.pointer (some ⟨g,o+i.toNat*sz,none⟩))) w:=by
 have:=Wf g o (i.toNat*sz);simp[execOp,Instr.indexAt,hx,N,asIntOf,Ql E,I,h0,h1,Instr.sureAddr,this]
def AL.ixb (k kn:Nat){τ:Type}(f:τ->Value)(vals:List τ){tt e bt:QQ}{n g o:Nat}{cs:QL}{x y:Operand}{i:Int}{kd:IntKind}{v:τ}(E:ix vals i=some v)
  (h:AL r P ops Q rest C ((d,.pointer (some ⟨g,o+i.toNat*1,none⟩))::l) ((kn,.el (some k) g (o+i.toNat*1) [f v])::H))
  (W:hk H k=some (.blk g bt cs):=by rfl) (hx:ev l x=some (.pointer (some ⟨g,o,none⟩)):=by rfl) (hy:ev l y=some (.int kd i):=by rfl) (ht:P.underlying tt=some (.array n e):=by rfl) (hS:szB P e=some 1:=by kernel_rfl) (hl:vals.length=n:=by rfl) (hcs:(cs.drop o).take n=vals.map f:=by rfl)
  (hd:Nat.ble (d+1) C.n=true:=by rfl) (hn:hk H kn=none:=by kernel_rfl):AL r P ops Q (⟨some d,.indexAddr tt x y,T,pos,af,none⟩::rest) C l H:=λa w hf hh=>by
 subst hl;have I:=o_du E;obtain⟨j,rfl,hj⟩:=Qaq E;have hB:Blk w g bt cs:=hh.hold k _ W;refine Z.val hf hd (r_indexArr ht (Qaf hS) (hf.eval hx) (hf.eval hy) I.1 I.2) λa' hf'=>h a' w hf' (hh.add hn rfl (λi E r N=>by
   simp only[Res.ref,Qg]at E;subst E;rw[W]at N;injection N with N;subst N;rfl) ⟨λq u hu=>?_,hB.lt,⟨_,W,by simp[Res.bl]⟩⟩)
 cases q with
 |succ q=>simp at hu
 |zero=>
  simp only[Wp,Qg]at hu;subst hu;rw[Wf,Jw,hB.cell,We,Nat.mul_one];have hlt:=(Qe.1 hj).1;have h3:((cs.drop o).take vals.length)[j]?=some (f v):=by rw[hcs,Q0,hj];rfl
  rw[Wt hlt,Wj]at h3;exact h3
end
section
variable {P:QR}{C:Cx}{l:QI}{H:QJ}
def nilS {X:QH}(k:Nat){t:Ty}{A:QK}{n c:Nat}{xs:List t.den}(N:A.isNone=true)(h:xs=[]->∀a w,Fr a C.n C.ds l->Hp C H w->X a w)(E:hk H k=some (.sh (.slice t) [.slice A xs.length c] xs):=by rfl): ∀a w,Fr a C.n C.ds l->Hp C H w->X a w:=λa w W I=>
 h (rep_none (I.hold k _ E) N) a w W I
def Row.none {t:Ty}{w:World}{F G:Nat->Prop}{A:QK}{c:Nat}{xs:List t.den}(h:Row t w F G A c xs)(I:A.isNone=true):xs=[]:=by
 obtain⟨_,_,_,_,E,_⟩:=h;rcases E with E|⟨b,o,rfl,_⟩
 exact Wz E;cases I
def nilL {X:QH}(k:Nat){t:Ty}{A:QK}{c:Nat}{xs:List t.den}(N:A.isNone=true)(h:xs=[]->∀a w,Fr a C.n C.ds l->Hp C H w->X a w)(E:hk H k=some (.ln t A c xs):=by rfl): ∀a w,Fr a C.n C.ds l->Hp C H w->X a w:=λa w W I=>by
 obtain⟨G,hR,_⟩:=rowL E w I;exact h (Row.none hR N) a w W I
def AX.cnn {r:QN}{Y:QG}{K:List Kx}{c:Operand}{x y:Code}{b:Bool}(N:ev l c=some (.bool b))(W:b=true->AX r P Y K x C l H)(he:b=false->AX r P Y K y C l H):AX r P Y K (.cond c x y) C l H:=λa w E I=>Z.cond E N (λh=>W h a w E I) (λh=>he h a w E I)
end
section
variable {r:QN}{P:QR}{ops:QU}{Q:QG}{rest:QT}{C:Cx}{l:QI}{H:QJ}{d:Nat}{T:QQ}{pos:String}{af:Array Edge}
end
def szl (b:ByteArray)(h:decide (b.size<=maxLen)=true):b.size<=maxLen:=Q7 h
def wrap_has (k:IntKind)(n:Int):k.has (k.wrap n):=by
 cases k<;>simp[IntKind.has,IntKind.min,IntKind.max,IntKind.wrap,IntKind.bits,IntKind.signed]<;>omega
end Go.A
namespace Go.Z
section
variable {P:QR}{a:Act}{w:World}
def resv3 {fn:Func}{r1 r2 r3:ResultVar}{v1 v2 v3:Value}(h:fn.results=#[r1,r2,r3])(h1:RV P a.tmps w r1 v1)(h2:RV P a.tmps w r2 v2)(E:RV P a.tmps w r3 v3):(results fn a.tmps).run P w=.ok (.tuple #[v1,v2,v3]) w:=by
 cases r1<;>cases r2<;>cases r3<;>simp only[RV,Q1]at h1 h2 E;simp[results,h,asAddr,h1,h2,E];obtain⟨_,I,N⟩:=E;simp[results,h,asAddr,h1,h2,I,N];obtain⟨_,W,q2⟩:=h2;simp[results,h,asAddr,h1,W,q2,E];obtain⟨_,W,q2⟩:=h2;obtain⟨_,I,N⟩:=E;simp[results,h,asAddr,h1,W,q2,I,N];obtain⟨_,p1,q1⟩:=h1;simp[results,h,asAddr,p1,q1,h2,E];obtain⟨_,p1,q1⟩:=h1;obtain⟨_,I,N⟩:=E;simp[results,h,asAddr,p1,q1,h2,I,N];obtain⟨_,p1,q1⟩:=h1;obtain⟨_,W,q2⟩:=h2;simp[results,h,asAddr,p1,q1,W,q2,E];obtain⟨_,p1,q1⟩:=h1;obtain⟨_,W,q2⟩:=h2;obtain⟨_,I,N⟩:=E;simp[results,h,asAddr,p1,q1,W,q2,I,N]
end
end Go.Z
end
section
namespace Go.A
open Go.RowKit Go.Z
def Seqk (P:QR)(gf:FuncId)(cap:QL)(N:Nat)(E:Nat->World->World->QL->Prop)(Dat:Nat->World->Prop):Prop:=
 ∀(lid:Nat) (w:World) (J:Nat->World->Prop) (Jx:World->Prop),(∀k W W',J k W->Ch [] W W'->J k W')->(∀W W',Jx W->Ch [] W W'->Jx W')->(∀k W,J k W->Dat k W)->J 0 w->
  (∀k W0 W args,k<N->J k W0->Ch [] W0 W->E k W0 W args->YieldAt (FW none) 0 P lid args.toArray W λe W'=>(e=.returned (.bool true)/\J (k+1) W')\/(e=.returned (.bool false)/\Jx W'))->
  Calls P gf (.func (.yield lid) #[] #[]::cap).toArray w λe W'=>e=.returned (.tuple #[])/\(J N W'\/Jx W')
def RK (D L:Nat)(o:Obj)(I:Nat->World->Prop)(X:Exit->World->Prop)(k:Nat)(e:Exit)(W':World):Prop:=
 W'.heap[L]?=some o/\Dfr W' D/\match e with
  | .normal=>I (k+1) W'
  | .ret=>X .ret W'
  | .exit id=>X (.exit id) W'
  |_=>False
def RQ (D L:Nat)(o:Obj)(I:Nat->World->Prop)(X:Exit->World->Prop)(k:Nat):QG:=λe _ W'=>RK D L o I X k e W'
def RQ.pq {D L:Nat}{o:Obj}{I:Nat->World->Prop}{X:Exit->World->Prop}{k:Nat}:Pq (RQ D L o I X k):=λ_ _ _ _ _ h=>h
section
variable {P:QR}{Q:QG}{a:Act}{w:World}{n:Nat}{ds:List Deferred}{l:QI}
def rangeK {g:Operand}{ps:QM}{assign body:Code}{gf:FuncId}{cap:QL}(hf:Fr a n ds l)(hg:ev l g=some (.func (.func gf) #[] cap.toArray))
  (hcf: ∀args w,(callFunc gf args).run P w=.ok (.enter gf args) w) (N:Nat) (E:Nat->World->World->QL->Prop) (Dat:Nat->World->Prop) (I:Nat->World->Prop) (X:Exit->World->Prop) (hseq:Seqk P gf cap N E Dat)
  (hlen: ∀k W0 W args,E k W0 W args->args.length=ps.length) (hps: ∀p,p∈ps->p<n)
  (hI0: ∀W1,(∃W',Ch [] w W'/\W'.heap.size=w.heap.size+1/\Dfr W' w.heap.size/\Ch [] W' W1/\W1.heap.size=W'.heap.size+1)->(∃o,W1.heap[w.heap.size+1]?=some o)->I 0 W1)
  (hst: ∀k W W',I k W->Ch [w.heap.size+1] W W'->I k W') (hxt: ∀e W W',X e W->Ch [w.heap.size+1] W W'->X e W') (hdat: ∀k W,I k W->Dat k W)
  (hround: ∀k W0 W args a o,k<N->I k W0->Ch [] W0 W->w.heap.size+1<W0.heap.size->E k W0 W args->args.length=ps.length->W.heap[w.heap.size+1]?=some o->Dfr W w.heap.size->Fr a n [] (bindl ps args l)->
   WP (some (w.heap.size+1)) P assign (λe a1 W1=>e=.normal/\W1.heap[w.heap.size+1]?=some o/\Dfr W1 w.heap.size/\∀W2 o2,Ch [w.heap.size+1] W1 W2->W2.heap[w.heap.size+1]?=some o2->Dfr W2 w.heap.size->
    WP (some (w.heap.size+1)) P body (RQ w.heap.size (w.heap.size+1) o2 I X k) a1 W2) a W)
  (hdone: ∀W a',I N W->Dfr W w.heap.size->Fr a' n (mkD w.heap.size::ds) l->Q .normal a' W)
  (hret: ∀W a',X .ret W->Dfr W w.heap.size->Fr a' n (mkD w.heap.size::ds) l->Q .ret a' W)
  (hexit: ∀id W a',X (.exit id) W->Dfr W w.heap.size->Fr a' n (mkD w.heap.size::ds) l->Q (.exit id) a' W):WP none P (Code.rangeFunc g ps.toArray assign body) Q a w:=by
 refine wpIn_rangeFunc λfn hfn=>?_;obtain⟨rec,hrec⟩: ∃rec:LoopState->Option Code->Loop,rec=λst pe=>{state:=st,pending:=pe,fn,tmps:=a.tmps,params:=ps.toArray,assign,body,defers:=w.heap.size}:=⟨_,rfl⟩;obtain⟨W1,hW1⟩: ∃W1,(w.alloc (.deferred (some []))).alloc (.loop (rec .ready none))=W1:=⟨_,rfl⟩;have hL1:W1.heap[w.heap.size+1]?=some (.loop (rec .ready none)):=by
  rw[<-hW1];have:=Xe (w.alloc (.deferred (some []))) (.loop (rec .ready none));rwa[World.size_alloc]at this
 have hK1:Dfr W1 w.heap.size:=by
  rw[<-hW1];exact(Below.heap_alloc _ _ _ (by simp)).trans (Xe w _)
 have up: ∀{W W':World},Ch [] W W'->Ch [w.heap.size+1] W W':=λh=>h.mono (by simp);have hI1:I 0 W1:=hI0 W1 ⟨_,Ch.alloc w _,World.size_alloc ..,Xe w _,by rw[<-hW1];exact Ch.alloc _ _,by rw[<-hW1];exact World.size_alloc ..⟩ ⟨_,hL1⟩;have hfr:a.eval g=.func (.func gf) #[] cap.toArray:=hf.eval hg;have hcall:=hseq (w.heap.size+1) W1
  (λk W=>I k W/\W.heap[w.heap.size+1]?=some (.loop (rec .ready none))/\Dfr W w.heap.size)
  (λW=>∃e c,X e W/\((e=.ret/\c=Code.ret)\/∃id,e=.exit id/\c=Code.exit id)/\W.heap[w.heap.size+1]?=some (.loop (rec .done (some c)))/\Dfr W w.heap.size)
  (λk W W' ⟨h1,h2,h3⟩ hc=>⟨hst k W W' h1 (up hc),(hc.block _ (Qv.1 h2).1 (by simp)).trans h2,h3.ch hc (by simp)⟩)
  (λW W' ⟨e,c,h1,h0,h2,h3⟩ hc=>⟨e,c,hxt e W W' h1 (up hc),h0,(hc.block _ (Qv.1 h2).1 (by simp)).trans h2,h3.ch hc (by simp)⟩)
  (λk W h=>hdat k W h.1) ⟨hI1,hL1,hK1⟩ ?_
 ·refine⟨w.heap.size+1,[mkD w.heap.size],W1,{target:=.fn (.func gf) cap.toArray,args:=#[.func (.yield (w.heap.size+1)) #[] #[]]},W1,gf,
   (.func (.yield (w.heap.size+1)) #[] #[]::cap).toArray,W1,?_,?_,λ_ _=>trivial,?_,(λh=>by cases h),(callsFW hcall).mono ?_⟩
  rw[<-hW1,hrec];exact run_enterLoop_outer _ _ _ _ _;simp only[resolve,hfr];simp[go_sem];simp[invoke,go_sem,hcf]
  ·have fin: ∀(W:World) (st:LoopState) (pe:Option Code),W.heap[w.heap.size+1]?=some (.loop (rec st pe))->st≠ .busy->Dfr W w.heap.size->
     ∃W',(Instr.endLoop (w.heap.size+1)).run P W=.ok pe W'/\Ch [w.heap.size+1] W W'/\Dfr W' w.heap.size:=λW st pe hl hb hk=>by
    have:=run_endLoop (P:=P) hl (by rw[hrec];exact hb);rw[hrec]at this;exact⟨_,this,Ch.putObj _ _ _,hk.ch (Ch.putObj _ _ _) (by simp)⟩
   rintro e W ⟨rfl,⟨h1,h2,h3⟩|⟨e,c,h1,h0,h2,h3⟩⟩;obtain⟨W',hr,hc,hk⟩:=fin W .ready none h2 (by simp) h3;exact⟨none,W',hr,hdone W' _ (hst N W W' h1 hc) hk ⟨hf.size,by show [mkD w.heap.size]++a.defers=_;rw[hf.defs];rfl,hf.get⟩⟩
   ·obtain⟨W',hr,hc,hk⟩:=fin W .done (some c) h2 (by simp) h3
    have hfr':Fr {a with defers:=[mkD w.heap.size]++a.defers} n (mkD w.heap.size::ds) l:=⟨hf.size,by show [mkD w.heap.size]++a.defers=_;rw[hf.defs];rfl,hf.get⟩;refine⟨some c,W',hr,?_⟩;rcases h0 with⟨rfl,rfl⟩|⟨id,rfl,rfl⟩
    exact wpIn_ret (hret W' _ (hxt _ W W' h1 hc) hk hfr');exact wpIn_exit (hexit id W' _ (hxt _ W W' h1 hc) hk hfr')
 ·rintro k W0 W args hk ⟨h1,h2,h3⟩ hc hEk
  have hlt:w.heap.size+1<W0.heap.size:=(Qv.1 h2).1;have hl:W.heap[w.heap.size+1]?=some (.loop (rec .ready none)):=(hc.block _ hlt (by simp)).trans h2;have hkk:Dfr W w.heap.size:=h3.ch hc (by simp);have hlen':=hlen k W0 W args hEk;have hy:=run_yield (P:=P) (args:=args.toArray) hl (by rw[hrec];simpa using hlen');refine⟨fn,_,assign,body,by rw[hrec]at hy;exact hy,roundIn_of_wpIn hfn ?_⟩;have hfr0:Fr ⟨(ps.zip args).foldl (λt (p,v)=>t.setIfInBounds p v) a.tmps,[]⟩ n [] (bindl ps args l):=bind_fr ps args hps ⟨hf.size,rfl,hf.get⟩;have hzip:((rec .ready none).params.zip args.toArray).foldl (λt (p,v)=>t.setIfInBounds p v) (rec .ready none).tmps=(ps.zip args).foldl (λt (p,v)=>t.setIfInBounds p v) a.tmps:=by
   rw[hrec];simp
  rw[hrec]at hzip;simp only at hzip;rw[hzip];refine wpIn_mono (hround k W0 W args _ _ hk h1 hc hlt hEk hlen' hl hkk hfr0) ?_;rintro e a1 W' ⟨rfl,hl',hk',hbody⟩;refine⟨_,run_beginRound hl' (by rw[hrec]),?_⟩;have hltW:w.heap.size+1<W'.heap.size:=(Qv.1 hl').1;have hc2:Ch [w.heap.size+1] W' (W'.putObj (w.heap.size+1) (.loop {rec .ready none with state:=.busy})):=Ch.putObj _ _ _;have hl2:(W'.putObj (w.heap.size+1) (.loop {rec .ready none with state:=.busy})).heap[w.heap.size+1]?=some (.loop {rec .ready none with state:=.busy}):=Wm hltW;have hk2:=hk'.ch hc2 (by simp);refine wpIn_mono (hbody _ _ hc2 hl2 hk2) ?_;have fin: ∀(jump:Option Code) (W3:World),W3.heap[w.heap.size+1]?=some (.loop {rec .ready none with state:=.busy})->Dfr W3 w.heap.size->
    ∃W4,(Instr.endRound (w.heap.size+1) jump).run P W3=.ok (.bool jump.isNone) W4/\Ch [w.heap.size+1] W3 W4/\W4.heap[w.heap.size+1]?=some (.loop (rec (if jump.isNone then .ready else .done) jump))/\Dfr W4 w.heap.size:=λjump W3 hl3 hk3=>by
   have hend:=run_endRound (P:=P) jump hl3;rw[hrec]at hend ⊢;exact⟨_,hend,Ch.putObj _ _ _,Wm (Qv.1 hl3).1,hk3.ch (Ch.putObj _ _ _) (by simp)⟩
  rintro e a3 W3 ⟨hl3,hk3,hp⟩;cases e with
  |normal=>
   obtain⟨W4,hr,hc4,hl4,hk4⟩:=fin none W3 hl3 hk3;exact⟨_,W4,hr,.inl ⟨rfl,hst _ _ _ hp hc4,hl4,hk4⟩⟩
  |ret=>
   obtain⟨W4,hr,hc4,hl4,hk4⟩:=fin (some .ret) W3 hl3 hk3;exact⟨_,W4,hr,.inr ⟨rfl,.ret,.ret,hxt _ _ _ hp hc4,.inl ⟨rfl,rfl⟩,hl4,hk4⟩⟩
  |exit id=>
   obtain⟨W4,hr,hc4,hl4,hk4⟩:=fin (some (.exit id)) W3 hl3 hk3;exact⟨_,W4,hr,.inr ⟨rfl,.exit id,.exit id,hxt _ _ _ hp hc4,.inr ⟨id,rfl,rfl⟩,hl4,hk4⟩⟩
  |goto t=>exact hp.elim
  |panic ch=>exact hp.elim
  |outgrown=>exact hp.elim
end
abbrev lpT:Obj->Prop:=λ_=>True
abbrev dfT:Obj->Prop:=λo=>o=.deferred (some [])
def Res.hasb:Res->Bool
 | .own ..=>true
 | .blk ..=>true
 | .mp ..=>true
 | .si ..=>true
 | .ob ..=>true
 | .mr ..=>true
 | .gn ..=>true
 |_=>false
def Res.nob: ∀{r:Res},r.hasb=false->r.ref=none->r.bl=[]
 | .dead,_,_=>rfl
 | .sh ..,_,_=>rfl
 | .ln ..,_,_=>rfl
 | .el ..,_,_=>rfl
 | .own ..,h,_=>by cases h
 | .blk ..,h,_=>by cases h
 | .mp ..,h,_=>by cases h
 | .mit ..,_,h=>by cases h
 | .si ..,h,_=>by cases h
 | .ob ..,h,_=>by cases h
 | .lmp ..,_,_=>rfl
 | .mr ..,h,_=>by cases h
 | .gn ..,h,_=>by cases h
def mvl (H:QJ):QM->List (Nat×Nat)
 | []=>[]
 |k::ks=>match hk H k with
  |some r=>bif rok [] r.ref then(bif r.hasb then(k,k)::mvl H ks else mvl H ks)else mvl H ks
  |none=>mvl H ks
def Qkh {o:QN}(h:rok [] o=true):o=none:=by
 cases o with
 |none=>rfl
 |some j=>simp[rok]at h
def Qfb (H:QJ): ∀ks:QM,Sub H (kpH H [] ks) (mvl H ks) []
 | []=>.nil
 |k::ks=>by
  unfold kpH mvl;cases I:hk H k with
  |none=>exact Qfb H ks
  |some r=>
   simp only[];cases E:rok [] r.ref with
   |false=>exact Qfb H ks
   |true=>
    cases N:r.hasb with
    |false=>exact .s k (Qfb H ks) I (Res.nob N (Qkh E)) (Qkh E)
    |true=>exact .m k (Qfb H ks) I (Qkh E)
def Hp.nds {n n':Nat}{ds ds':List Deferred}{w0:World}{S:QM}{F:Nat->Prop}{H:QJ}{w:World}(h:Hp ⟨n,ds,w0,S,F⟩ H w):Hp ⟨n',ds',w0,S,F⟩ H w:=⟨h.ch,h.hold,h.bnd,h.dis,h.ref⟩
def fin_round {C:Cx}{H He:QJ}{W W':World}{n:Nat}{ds:List Deferred}{bs:QM}(E:Hp C H W)(I:Hp ⟨n,ds,W,blks H (mvl H bs),Fh C H⟩ He W')(gs:QM)(M:Nat)(ps:List (Nat×Nat)){Ho:QJ}
  (h1:(outs (kpH He gs gs)&&frs M H (kpH He gs gs))=true) (h2:ren (hcat (sft M (kpH He gs gs)) (kill ((mvl H bs).map (·.2)) H)) ps=Ho) (N:nod (ps.map (·.1))=true) (h4:nod (ps.map (·.2))=true):Hp C Ho W':=by
 rw[Qd]at h1;subst h2;exact(E.back (I.keep gs).nds h1.1 h1.2).ren ps N h4
abbrev HK (kd kl D L:Nat) (p:Obj->Prop) (nh H:QJ):QJ:=(kl,.ob L p)::(kd,.ob D dfT)::hcat nh H
def IK (C:Cx)(kd kl D L:Nat)(J:Nat->QJ->Prop)(H:QJ):Nat->World->Prop:=λk W=>∃nh,J k nh/\Hp C (HK kd kl D L lpT nh H) W
def XK (P:QR)(Y:QG)(K:List Kx)(C:Cx)(l:QI)(D L:Nat):Exit->World->Prop:=λe W=>∀W',Ch [L] W W'->∀a',Fr a' C.n (mkD D::C.ds) l->kont none P Y K e a' W'
def nrf (k:Nat)(H:QJ):Bool:=H.all λp=>match p.2.ref with
 |none=>true
 |some j=> !(Nat.beq j k)
def hk_mem: ∀{H:QJ} {k:Nat} {r:Res},hk H k=some r->(k,r)∈H
 | [],_,_,h=>by cases h
 |(d,u)::q,k,r,h=>by
  rw[Qab]at h;split at h;rename_i e;subst e;injection h with h;subst h;exact Qh ..
  exact Qf _ (hk_mem h)
def nrf_spec {k:Nat}{H:QJ}(h:nrf k H=true){j:Nat}{r:Res}(E:hk H j=some r):r.ref≠some k:=λe=>by
 have:=Q5.1 h _ (hk_mem E);simp[e]at this
def Hp.ob {C:Cx}{H:QJ}{w w':World}{k L:Nat}{p q:Obj->Prop}{o:Obj}(h:Hp C ((k,.ob L p)::H) w)(hr:nrf k H=true)(hc:Ch [L] w w')(ho:w'.heap[L]?=some o)(hq:q o):Hp C ((k,.ob L q)::H) w':=by
 have hsame: ∀j b,Bk ((k,.ob L q)::H) j b↔Bk ((k,.ob L p)::H) j b:=λj b=>by
  by_cases E:j=k;subst E;rw[Bk.cons_eq,Bk.cons_eq];exact Iff.rfl;rw[Bk.cons_ne E,Bk.cons_ne E]
 have hL: ∀b,(∀j,¬Bk ((k,.ob L p)::H) j b)->b∉[L]:=λb I W=>by
  rw[Qq]at W;subst W;exact I k (Bk.cons_eq.2 (by simp[Res.bl]))
 have hnb: ∀b,(∀j,¬Bk ((k,.ob L p)::H) j b)->∀j,¬Bk ((k,.ob L q)::H) j b:=λb I j E=>I j ((hsame j b).1 E);have hLk: ∀j b,Bk ((k,.ob L p)::H) j b->j≠k->b∉[L]:=λj b I E W=>by
  rw[Qq]at W;subst W;exact E (h.dis j k b I (Bk.cons_eq.2 (by simp[Res.bl])))
 refine⟨?_,λj r E=>?_,λj b E=>?_,λj j' b E hj'=>h.dis j j' b ((hsame j b).1 E) ((hsame j' b).1 hj'),λj r i E hri=>?_⟩;have N:=h.ch;refine⟨hc.os.trans N.os,hc.tape.trans N.tape,hc.output.trans N.output,Wb N.size hc.size,λb I hn=>?_⟩;rw[hc.block b (Qw I N.size) (λW=>?_)];exact N.block b I hn;rw[Qq]at W;subst W;rcases(h.bnd k b (Bk.cons_eq.2 (by simp[Res.bl]))).1 with h1|h1
 omega;exact hn h1;rw[Qab]at E;split at E;injection E with E;subst E;exact⟨o,ho,hq⟩
 rename_i hn;have hj':hk ((k,.ob L p)::H) j=some r:=by rw[Qab,Qb hn];exact E
 refine Res.to (h.hold j r hj') hc (λb I _=>⟨hL b I.1,hnb b I.1,I.2⟩) (λb I _=>⟨hL b I,hnb b I⟩) (λi b hi hB=>⟨hLk i b hB λe=>nrf_spec hr E (by rw[hi,e]),(hsame i b).2 hB⟩) λb I=>hLk j b ⟨r,hj',I⟩ (Ne.symm hn);obtain⟨h1,h2⟩:=h.bnd j b ((hsame j b).1 E);exact⟨h1,Qw h2 hc.size⟩;rw[Qab]at E;split at E;injection E with E;subst E;cases hri
 rename_i hn;obtain⟨h5,h6⟩:=h.ref j r i (by rw[Qab,Qb hn];exact E) hri;refine⟨h5,λr2 h7=>?_⟩;rw[Qab]at h7;split at h7;injection h7 with h7;subst h7;rfl
 rename_i hn2;exact h6 r2 (by rw[Qab,Qb hn2];exact h7)
def Hp.obj {C:Cx}{H:QJ}{w w':World}{k L:Nat}{p q:Obj->Prop}{o:Obj}(h:Hp C H w)(E:hk H k=some (.ob L p))(N:Ch [L] w w')(W:w'.heap[L]?=some o)(hq:q o):Hp C ((k,.ob L q)::drp k H) w':=
 h.upd N (λb I=>by rw[Qq]at I;subst I;exact⟨_,E,by simp[Res.bl]⟩) (λb I=>.inl ⟨_,E,I⟩) (λj hj=>by cases hj) λF B _ _ _ _ _=>⟨o,W,hq⟩
def El (t:Ty)(ag:QL->QL)(xs:List t.den)(Φ:Nat->World->Nat->Prop):Nat->World->World->QL->Prop:=λk W0 W args=>
 ∃x cs,xs[k]?=some x/\args=ag cs/\t.rep W (λb=>Φ k W0 b\/W0.heap.size<=b) cs x
def Sq (P:QR)(gf:FuncId)(cap:QL)(Hc:QJ)(t:Ty)(ag:QL->QL)(xs:List t.den):Prop:=
 ∀Φ:Nat->World->Nat->Prop,Seqk P gf cap xs.length (El t ag xs Φ) (λk W=>Hp ⟨0,[],W,[],Φ k W⟩ Hc W)
def Qbh: ∀{l:QM},nod l=true↔l.Nodup
 | []=>by simp[nod]
 |k::l=>by
  simp only[nod,Qd,X0,Xb,Qbh (l:=l)];refine and_congr ⟨λh E=>?_,λh=>?_⟩ Iff.rfl;rw[J1]at h;exact h k E (Y7 k);rw[J1];exact λx hx e=>h (by rw[Qk e];exact hx)
def Qhx (H:QJ)(all:QM): ∀ks:QM,List.Sublist ((kpH H all ks).map (·.1)) ks
 | []=>List.Sublist.refl _
 |k::ks=>by
  unfold kpH;cases hk H k with
  |none=>exact(Qhx H all ks).cons k
  |some r=>
   simp only[];cases rok all r.ref with
   |false=>exact(Qhx H all ks).cons k
   |true=>exact(Qhx H all ks).cons_cons k
def Qfr (H:QJ): ∀ks:QM,List.Sublist ((mvl H ks).map (·.2)) ks
 | []=>List.Sublist.refl _
 |k::ks=>by
  unfold mvl;cases hk H k with
  |none=>exact(Qfr H ks).cons k
  |some r=>
   simp only[];cases rok [] r.ref with
   |false=>exact(Qfr H ks).cons k
   |true=>cases r.hasb with
    |false=>exact(Qfr H ks).cons k
    |true=>exact(Qfr H ks).cons_cons k
def MF (P:QR)(D L:Nat)(o:Obj)(Yb:Obj->QG)(body:Code):QH:=λa1 W1=>W1.heap[L]?=some o/\Dfr W1 D/\∀W2 o2,Ch [L] W1 W2->W2.heap[L]?=some o2->Dfr W2 D->WP (some L) P body (Yb o2) a1 W2
section
variable {P:QR}{Y:QG}{K:List Kx}{C:Cx}{l:QI}{H:QJ}
def AX.rgf {g:Operand}{ps:QM}{assign body:Code}{gf:FuncId}{cap:QL}{Hc:QJ}{t:Ty}{ag:QL->QL}{xs:List t.den}
  (kd kl kn:Nat) (E gs bs:QM) (J:Nat->QJ->Prop) (nh:QJ) (hcf: ∀args w,(callFunc gf args).run P w=.ok (.enter gf args) w) (hseq:Sq P gf cap Hc t ag xs) (hag: ∀cs,(ag cs).length=ps.length) (hJ0:J 0 nh)
  (hsub: ∀k nh D L,J k nh->(∃ls,Sub (HK kd kl D L lpT nh (kpH H E E)) Hc [] ls)/\nrf kl ((kd,.ob D dfT)::hcat nh (kpH H E E))=true/\∀o,nok (kpH (HK kd kl D L (λx=>x=o) nh (kpH H E E)) [] bs) kn (lv t)=true)
  (hround: ∀k nh x D L W o,J k nh->xs[k]?=some x->t.ok x->Hp C (HK kd kl D L (λx=>x=o) nh (kpH H E E)) W->tele (lv t) λpl=>
   AX (some L) P (λ_ _ _=>False) [.m (MF P D L o (λo2=>RQ D L o2 (IK C kd kl D L J (kpH H E E)) (XK P Y K C l D L) k) body)] assign
    ⟨C.n,[],W,blks (HK kd kl D L (λx=>x=o) nh (kpH H E E)) (mvl (HK kd kl D L (λx=>x=o) nh (kpH H E E)) bs),Fh C (HK kd kl D L (λx=>x=o) nh (kpH H E E))⟩ (bindl ps (ag (cl t x pl)) l)
    (hcat (kx kn (rs t x pl)) (kpH (HK kd kl D L (λx=>x=o) nh (kpH H E E)) [] bs)))
  (hdone: ∀nh D L,J xs.length nh->AE none P Y K .normal ⟨C.n,mkD D::C.ds,C.w0,C.S,C.F⟩ l (HK kd kl D L lpT nh (kpH H E E)))
  (hg:ev l g=some (.func (.func gf) #[] cap.toArray):=by rfl) (hps:ps.all (λp=>Nat.ble (p+1) C.n)=true:=by rfl) (h0:kpH H gs gs=hcat nh (kpH H E E):=by kernel_rfl)
  (hn1:hk (hcat nh (kpH H E E)) kd=none:=by kernel_rfl) (hn2:hk (hcat nh (kpH H E E)) kl=none:=by kernel_rfl) (hne:Nat.beq kd kl=false:=by rfl) (hbs:nod bs=true:=by rfl) (hHc:nod (Hc.map (·.1))=true:=by rfl):
  AX none P Y K (.rangeFunc g ps.toArray assign body) C l H:=λa w hf hh=>by
 have hne:kd≠kl:=λe=>by rw[e,Y7]at hne;cases hne
 obtain⟨Φ,hΦ⟩: ∃Φ:Nat->World->Nat->Prop,Φ=λk W b=>∃h:IK C kd kl w.heap.size (w.heap.size+1) J (kpH H E E) k W,Fh C (HK kd kl w.heap.size (w.heap.size+1) lpT (Classical.choose h) (kpH H E E)) b:=⟨_,rfl⟩;have hΦe: ∀k W (h:IK C kd kl w.heap.size (w.heap.size+1) J (kpH H E E) k W),Φ k W=Fh C (HK kd kl w.heap.size (w.heap.size+1) lpT (Classical.choose h) (kpH H E E)):=λk W h=>by
  subst hΦ;funext b;exact propext ⟨λ⟨_,h2⟩=>h2,λh2=>⟨h,h2⟩⟩
 have hlast: ∀{k:Nat} {nh:QJ} {D:Nat},J k nh->nrf kl ((kd,.ob D dfT)::hcat nh (kpH H E E))=true:=λh=>(hsub _ _ _ 0 h).2.1;refine rangeK hf hg hcf xs.length _ _ (IK C kd kl w.heap.size (w.heap.size+1) J (kpH H E E)) (XK P Y K C l w.heap.size (w.heap.size+1)) (hseq Φ) (λk W0 W args ⟨x,cs,_,h2,_⟩=>by rw[h2];exact hag cs) (λp hp=>Qm (Q5.1 hps p hp)) ?_ ?_ ?_ ?_ ?_ ?_ ?_ ?_;rintro W1 ⟨W',hc1,hz1,hd,hc2,hz2⟩ ⟨o,ho⟩;refine⟨nh,hJ0,?_⟩;have h1:Hp C (hcat nh (kpH H E E)) w:=hh.cov gs h0;have h2:Hp C ((kd,.ob w.heap.size dfT)::hcat nh (kpH H E E)) W':=h1.new hn1 hc1 (λb I=>by simp only[Res.bl,Qq]at I;omega) (λj N=>by cases N) λF B _ _ _=>⟨_,hd,rfl⟩;refine h2.new (by rw[Qab,Qb hne];exact hn2) hc2 (λb I=>by simp only[Res.bl,Qq]at I;omega) (λj N=>by cases N) λF B _ _ _=>⟨o,ho,trivial⟩;rintro k W W' ⟨nh,hJ,hW⟩ hc;obtain⟨o,ho,_⟩: ∃o,W.heap[w.heap.size+1]?=some o/\lpT o:=hW.hold kl (.ob (w.heap.size+1) lpT) (by rw[Qab,Qc rfl]);have hlt:=Qw (Qv.1 ho).1 hc.size;exact⟨nh,hJ,hW.ob (hlast hJ) hc (Wg hlt) trivial⟩;exact λe W W' h hc W2 hc2=>h W2 (Ch.then (U:=[w.heap.size+1]) hc hc2 (by simp) (by simp));intro k W h;rw[hΦe k W h];obtain⟨hJ,hW⟩:=Classical.choose_spec h;obtain⟨ls,hS⟩:=(hsub _ _ w.heap.size (w.heap.size+1) hJ).1;exact hS.hp hW hHc rfl (by simp);intro k W0 W args a1 o hk1 hI hc hlt ⟨x,cs,hx,hargs,hrep⟩ hlen ho hdf hfr;rw[hΦe k W0 hI]at hrep;obtain⟨hJ,hW⟩:=Classical.choose_spec hI;obtain⟨nh,hnh⟩: ∃nh,nh=Classical.choose hI:=⟨_,rfl⟩;rw[<-hnh]at hrep hJ hW;have hW1:Hp C (HK kd kl w.heap.size (w.heap.size+1) (λx=>x=o) nh (kpH H E E)) W:=hW.ob (hlast hJ) (hc.mono (by simp)) ho rfl;have I:=(Qfb (HK kd kl w.heap.size (w.heap.size+1) (λx=>x=o) nh (kpH H E E)) bs).hp hW1 (Qbh.2 ((Qhx _ _ bs).nodup (Qbh.1 hbs))) (Qbh.2 ((Qfr _ bs).nodup (Qbh.1 hbs))) (by simp);have hrep2:t.rep W (Fh ⟨C.n,[],W,blks (HK kd kl w.heap.size (w.heap.size+1) (λx=>x=o) nh (kpH H E E)) (mvl (HK kd kl w.heap.size (w.heap.size+1) (λx=>x=o) nh (kpH H E E)) bs),Fh C (HK kd kl w.heap.size (w.heap.size+1) (λx=>x=o) nh (kpH H E E))⟩ (kpH (HK kd kl w.heap.size (w.heap.size+1) (λx=>x=o) nh (kpH H E E)) [] bs)) cs x:=by
  have hnb: ∀b,(∀j,¬Bk (HK kd kl w.heap.size (w.heap.size+1) (λx=>x=o) nh (kpH H E E)) j b)->∀j,¬Bk (kpH (HK kd kl w.heap.size (w.heap.size+1) (λx=>x=o) nh (kpH H E E)) [] bs) j b:=λb hB j ⟨r,h1,h2⟩=>hB j ⟨r,(Qdn h1).1,h2⟩;have hpq: ∀j b,Bk (HK kd kl w.heap.size (w.heap.size+1) (λx=>x=o) nh (kpH H E E)) j b->Bk (HK kd kl w.heap.size (w.heap.size+1) lpT nh (kpH H E E)) j b:=λj b N=>by
   by_cases e:j=kl;subst e;rw[Bk.cons_eq]at N ⊢;exact N;rw[Bk.cons_ne e]at N ⊢;exact N
  refine rep_to hrep (S:=[]) (Ch.refl W) λb I hl=>⟨by simp,?_⟩;have:Fh C (HK kd kl w.heap.size (w.heap.size+1) (λx=>x=o) nh (kpH H E E)) b:=by
   rcases I with I|I
   exact⟨λj N=>I.1 j (hpq j b N),I.2⟩;exact⟨λj N=>by have:=(hW.bnd j b (hpq j b N)).2;omega,.inr (.inl (Wb hW.ch.size I))⟩
  exact⟨hnb b this.1,.inl this⟩
 obtain⟨pl,hpl,hcs,hb2⟩:=Qhy I.nds hrep2 kn ((hsub _ _ w.heap.size (w.heap.size+1) hJ).2.2 o);subst hcs;rw[hargs]at hfr;refine wpIn_mono (Qbq (hround k nh x w.heap.size (w.heap.size+1) W o hJ hx (rep_ok t hrep) hW1) pl hpl a1 W hfr hb2) λe a2 W2 he=>?_;cases e with
 |normal=>exact⟨rfl,he⟩
 |_=>exact False.elim he
 rintro W a' ⟨nh,hJ,hW⟩ hd hf';exact hdone nh _ _ hJ a' W hf' hW.nds;exact λW a' hX hd hf'=>hX W (Ch.refl' _ _) a' hf';exact λid W a' hX hd hf'=>hX W (Ch.refl' _ _) a' hf'
def AE.flip {D L:Nat}{o:Obj}{Yb:Obj->QG}{body:Code}(kd kl:Nat)(h: ∀E,AX (some L) P (Yb E) [] body ⟨C.n,[],C.w0,C.S,C.F⟩ l ((kl,.ob L (λx=>x=E))::H))(I:C.ds=[]:=by rfl)
  (h1:hk H kl=some (.ob L (λx=>x=o)):=by rfl) (h2:hk H kd=some (.ob D dfT):=by rfl) (hj:hng [kl] [] H=true:=by kernel_rfl):AE (some L) P Y (.m (MF P D L o Yb body)::K) .normal C l H:=λa w hf N=>by
 obtain⟨o',ho',e⟩: ∃o',w.heap[L]?=some o'/\o'=o:=N.hold kl _ h1;obtain⟨d,hd,e2⟩: ∃d,w.heap[D]?=some d/\d=.deferred (some []):=N.hold kd _ h2;subst e;subst e2;rw[I]at hf;exact⟨ho',hd,λW2 E hc W _=>h E a W2 hf (Hp.dd (js:=[]) (N.obj (q:=λx=>x=E) h1 hc W rfl) hj).nds⟩
def Qen {n:Nat}{ds:List Deferred}{W W':World}{kd kl D L M:Nat}{p:Obj->Prop}{E:Obj}{nh Hk He Ho:QJ}{bs gs:QM}{ps:List (Nat×Nat)}(I:Hp C (HK kd kl D L p nh Hk) W)(N:Hp ⟨n,ds,W,blks (HK kd kl D L p nh Hk) (mvl (HK kd kl D L p nh Hk) bs),Fh C (HK kd kl D L p nh Hk)⟩ He W')
  (hkd:hk He kd=some (.ob D dfT)) (hkl:hk He kl=some (.ob L (λx=>x=E))) (h1:(outs (kpH He gs gs)&&frs M (HK kd kl D L p nh Hk) (kpH He gs gs))=true)
  (h2:ren (hcat (sft M (kpH He gs gs)) (kill ((mvl (HK kd kl D L p nh Hk) bs).map (·.2)) (HK kd kl D L p nh Hk))) ps=(kl,.ob L (λx=>x=E))::Ho) (h3:nod (ps.map (·.1))=true) (h4:nod (ps.map (·.2))=true) (h5:nrf kl Ho=true):
  W'.heap[L]?=some E/\Dfr W' D/\∀W2,Ch [L] W' W2->Hp C ((kl,.ob L lpT)::Ho) W2:=by
 obtain⟨o',ho',e⟩: ∃o',W'.heap[L]?=some o'/\o'=E:=N.hold kl _ hkl;obtain⟨d,hd,e2⟩: ∃d,W'.heap[D]?=some d/\d=.deferred (some []):=N.hold kd _ hkd;subst e;subst e2;refine⟨ho',hd,λW2 hc=>?_⟩;have:=fin_round I N gs M ps h1 h2 h3 h4;exact this.ob h5 hc (Wg (Qw (Qv.1 ho').1 hc.size)) trivial
def AE.bn {X:Exit->World->Prop}{k n:Nat}{W:World}{kd kl D L:Nat}{p:Obj->Prop}{E:Obj}{nh Hk He:QJ}{J:Nat->QJ->Prop}{bs:QM}{S:QM}{F:Nat->Prop}(I:Hp C (HK kd kl D L p nh Hk) W)(gs:QM)(M:Nat)(ps:List (Nat×Nat))(nh':QJ)(hJ:J (k+1) nh')
  (hS:S=blks (HK kd kl D L p nh Hk) (mvl (HK kd kl D L p nh Hk) bs)) (hF:F=Fh C (HK kd kl D L p nh Hk))
  (N:hk He kd=some (.ob D dfT):=by rfl) (hkl:hk He kl=some (.ob L (λx=>x=E)):=by rfl) (h1:(outs (kpH He gs gs)&&frs M (HK kd kl D L p nh Hk) (kpH He gs gs))=true:=by kernel_rfl)
  (h2:ren (hcat (sft M (kpH He gs gs)) (kill ((mvl (HK kd kl D L p nh Hk) bs).map (·.2)) (HK kd kl D L p nh Hk))) ps=(kl,.ob L (λx=>x=E))::(kd,.ob D dfT)::hcat nh' Hk:=by kernel_rfl) (h3:nod (ps.map (·.1))=true:=by rfl) (h4:nod (ps.map (·.2))=true:=by rfl) (h5:nrf kl ((kd,.ob D dfT)::hcat nh' Hk)=true:=by kernel_rfl):
  AE (some L) P (RQ D L E (IK C kd kl D L J Hk) X k) [] .normal ⟨n,[],W,S,F⟩ l He:=λa w hf hh=>by
 subst hS;subst hF;obtain⟨h6,h7,h8⟩:=Qen I hh N hkl h1 h2 h3 h4 h5;exact⟨h6,h7,nh',hJ,h8 w (Ch.refl' _ _)⟩
def kont_exit {r:QN}{id:Nat}{a:Act}{w:World}: ∀{K:List Kx},popx id K=none->Y (.exit id) a w->kont r P Y K (.exit id) a w
 | [],_,h=>h
 | .b i::K,hp,h=>by
  unfold popx at hp;show(if id=i then kont r P Y K .normal a w else kont r P Y K (.exit id) a w);cases E:Nat.beq i id with
  |true=>rw[E]at hp;cases hp
  |false=>rw[E]at hp;rw[Qb (λe=>by subst e;simp at E)];exact kont_exit hp h
 | .c _::K,hp,h=>kont_exit (K:=K) hp h
 | .m _::K,hp,h=>kont_exit (K:=K) hp h
 | .s::K,hp,h=>kont_exit (K:=K) hp h
def AE.x {r:QN}{id:Nat}{K':List Kx}(e:popx id K=some K')(h:AE r P Y K' .normal C l H):AE r P Y K (.exit id) C l H:=λa w E I=>popx_spec e (h a w E I)
def AX.bret {Kb:List Kx}{I:Nat->World->Prop}{lo:QI}{k n:Nat}{W:World}{kd kl D L:Nat}{p:Obj->Prop}{E:Obj}{nh Hk He:QJ}{bs:QM}{S:QM}{F:Nat->Prop}(N:Hp C (HK kd kl D L p nh Hk) W)(gs:QM)(M:Nat)(ps:List (Nat×Nat))(Ho:QJ)
  (hout:AE none P Y K .ret ⟨C.n,mkD D::C.ds,C.w0,C.S,C.F⟩ lo ((kl,.ob L lpT)::Ho)) (hS:S=blks (HK kd kl D L p nh Hk) (mvl (HK kd kl D L p nh Hk) bs)) (hF:F=Fh C (HK kd kl D L p nh Hk))
  (hkd:hk He kd=some (.ob D dfT):=by rfl) (hkl:hk He kl=some (.ob L (λx=>x=E)):=by rfl) (h1:(outs (kpH He gs gs)&&frs M (HK kd kl D L p nh Hk) (kpH He gs gs))=true:=by kernel_rfl)
  (h2:ren (hcat (sft M (kpH He gs gs)) (kill ((mvl (HK kd kl D L p nh Hk) bs).map (·.2)) (HK kd kl D L p nh Hk))) ps=(kl,.ob L (λx=>x=E))::Ho:=by kernel_rfl) (h3:nod (ps.map (·.1))=true:=by rfl) (h4:nod (ps.map (·.2))=true:=by rfl) (h5:nrf kl Ho=true:=by kernel_rfl):
  AX (some L) P (RQ D L E I (XK P Y K C lo D L) k) Kb .ret ⟨n,[],W,S,F⟩ l He:=λa w hf hh=>by
 subst hS;subst hF;obtain⟨h6,h7,h8⟩:=Qen N hh hkd hkl h1 h2 h3 h4 h5;exact wpIn_ret (kont_ret ⟨h6,h7,λW' hc a' hf'=>hout a' W' hf' (h8 W' hc).nds⟩)
def AX.bexit {Kb:List Kx}{id:Nat}{I:Nat->World->Prop}{lo:QI}{k n:Nat}{W:World}{kd kl D L:Nat}{p:Obj->Prop}{E:Obj}{nh Hk He:QJ}{bs:QM}{S:QM}{F:Nat->Prop}(N:Hp C (HK kd kl D L p nh Hk) W)(gs:QM)(M:Nat)(ps:List (Nat×Nat))(Ho:QJ)
  (hout:AE none P Y K (.exit id) ⟨C.n,mkD D::C.ds,C.w0,C.S,C.F⟩ lo ((kl,.ob L lpT)::Ho)) (hS:S=blks (HK kd kl D L p nh Hk) (mvl (HK kd kl D L p nh Hk) bs)) (hF:F=Fh C (HK kd kl D L p nh Hk))
  (hpx:popx id Kb=none:=by rfl) (hkd:hk He kd=some (.ob D dfT):=by rfl) (hkl:hk He kl=some (.ob L (λx=>x=E)):=by rfl) (h1:(outs (kpH He gs gs)&&frs M (HK kd kl D L p nh Hk) (kpH He gs gs))=true:=by kernel_rfl)
  (h2:ren (hcat (sft M (kpH He gs gs)) (kill ((mvl (HK kd kl D L p nh Hk) bs).map (·.2)) (HK kd kl D L p nh Hk))) ps=(kl,.ob L (λx=>x=E))::Ho:=by kernel_rfl) (h3:nod (ps.map (·.1))=true:=by rfl) (h4:nod (ps.map (·.2))=true:=by rfl) (h5:nrf kl Ho=true:=by kernel_rfl):
  AX (some L) P (RQ D L E I (XK P Y K C lo D L) k) Kb (.exit id) ⟨n,[],W,S,F⟩ l He:=λa w hf hh=>by
 subst hS;subst hF;obtain⟨h6,h7,h8⟩:=Qen N hh hkd hkl h1 h2 h3 h4 h5;exact wpIn_exit (kont_exit hpx ⟨h6,h7,λW' hc a' hf'=>hout a' W' hf' (h8 W' hc).nds⟩)
end
def bodyQ (P:QR)(fn:Func)(R:Ending->World->Prop):QG
 | .normal,a,w=>bodyPostM (FW none) 0 P fn R .normal a w
 | .ret,a,w=>bodyPostM (FW none) 0 P fn R .ret a w
 |_,_,_=>False
def unob:QJ->QJ
 | []=>[]
 |(k,r)::H=>(k,match r with
  | .ob _ _=>.dead
  |r=>match r.ref with
   |none=>r
   |some _=>.dead)::unob H
def Qhv: ∀{H:QJ} {k:Nat} {r:Res},hk (unob H) k=some r->r=.dead\/(hk H k=some r/\r.ref=none/\∀g p,r≠ .ob g p)
 | [],_,_,h=>by cases h
 |(d,u)::H,k,r,h=>by
  unfold unob at h;rw[Qab]at h ⊢;split at h;rename_i e;rw[Qc e];injection h with h
  cases u with
  |ob g p=>exact .inl h.symm
  |el k b o cs=>cases k with
   |none=>subst h;exact .inr ⟨rfl,rfl,λg p e=>by cases e⟩
   |some j=>exact .inl h.symm
  |mit k g b n s la=>exact .inl h.symm
  |_=>subst h;exact .inr ⟨rfl,rfl,λg p e=>by cases e⟩
  rename_i e;rw[Qb e];exact Qhv h
def okD (H:QJ):QM->QM->Prop
 | [],[]=>True
 |D::Ds,k::ks=>hk H k=some (.ob D dfT)/\okD H Ds ks
 |_,_=>False
def Qia {H:QJ}: ∀{Ds ks:QM},okD H Ds ks->∀D,D∈Ds->∃k,k∈ks/\hk H k=some (.ob D dfT)
 | [],_,_,D,h=>by cases h
 |D::Ds,[],h,_,_=>by cases h
 |D::Ds,k::ks,h,E,I=>by
  rcases Qn.1 I with rfl|I
  exact⟨k,Qh ..,h.1⟩;obtain⟨j,h1,h2⟩:=Qia h.2 E I;exact⟨j,Qf _ h1,h2⟩
def Qiz {C:Cx}{H:QJ}{w:World}(I:Hp C H w): ∀{Ds ks:QM},okD H Ds ks->ks.Nodup->Ds.Nodup
 | [],_,_,_=>Je
 |D::Ds,[],h,_=>by cases h
 |D::Ds,k::ks,h,E=>by
  rw[Xb]at E ⊢;refine⟨λN=>?_,Qiz I h.2 E.2⟩;obtain⟨j,h1,h2⟩:=Qia h.2 D N;have:=I.dis k j D ⟨_,h.1,by simp[Res.bl]⟩ ⟨_,h2,by simp[Res.bl]⟩;exact E.1 (this▸h1)
def Hp.unob {C:Cx}{H:QJ}{w w':World}{Ds:QM}(h:Hp C H w)(hD: ∀D,D∈Ds->∃k,hk H k=some (.ob D dfT))(hc:Ch Ds w w'):Hp C (A.unob H) w':=by
 have E: ∀j b,Bk (A.unob H) j b->Bk H j b/\b∉Ds:=λj b ⟨r,h1,h2⟩=>by
  rcases Qhv h1 with rfl|⟨h3,_,h4⟩
  cases h2;refine⟨⟨r,h3,h2⟩,λhm=>?_⟩;obtain⟨k,h5⟩:=hD b hm;have:=h.dis j k b ⟨r,h3,h2⟩ ⟨_,h5,by simp[Res.bl]⟩;subst this;rw[h3]at h5;injection h5 with h5;exact h4 _ _ h5
 have hfree: ∀b,(∀k,¬Bk H k b)->b∉Ds/\∀k,¬Bk (A.unob H) k b:=λb I=>⟨λhm=>by obtain⟨k,h5⟩:=hD b hm;exact I k ⟨_,h5,by simp[Res.bl]⟩,λj W=>I j (E j b W).1⟩;refine⟨?_,λj r W=>?_,λj b W=>?_,λj j' b W hj'=>h.dis j j' b (E j b W).1 (E j' b hj').1,λj r i W hri=>?_⟩;have N:=h.ch;refine⟨hc.os.trans N.os,hc.tape.trans N.tape,hc.output.trans N.output,Wb N.size hc.size,λb I hn=>?_⟩;rw[hc.block b (Qw I N.size) (λhm=>?_)];exact N.block b I hn;obtain⟨k,h5⟩:=hD b hm;rcases(h.bnd k b ⟨_,h5,by simp[Res.bl]⟩).1 with h1|h1
 omega;exact hn h1;rcases Qhv W with rfl|⟨h3,h4,h5⟩
 trivial;exact Res.to (h.hold j r h3) hc (λb I _=>⟨(hfree b I.1).1,(hfree b I.1).2,I.2⟩) (λb I _=>hfree b I) (λi b hi _=>by rw[h4]at hi;cases hi) λb I=>(E j b ⟨r,W,I⟩).2;exact⟨(h.bnd j b (E j b W).1).1,Qw (h.bnd j b (E j b W).1).2 hc.size⟩;rcases Qhv W with rfl|⟨_,h4,_⟩
 cases hri;rw[h4]at hri;cases hri
section
variable {r:QN}{P:QR}{K:List Kx}{l:QI}{H:QJ}
def Ct.enterM {f:FuncId}{fn:Func}{c:Code}{vs:QL}{n:Nat}{S:QM}{R:Value->QJ->Prop}(E:P.funcs[f]?=some fn)(I:fn.body=some c)(N:fn.ntmps=n)(W:Nat.ble vs.length n=true)
  (h: ∀w F,AX none P (bodyQ P fn λe w'=>∃v H',e=.returned v/\R v H'/\Hp ⟨0,[],w,S,F⟩ H' w') [] c ⟨n,[],w,S,F⟩ (argl vs 0) H):Ct P f vs H S R:=λw F hh=>
 Z.enterM E I N (Qm W) λa hf'=>wpIn_mono (h w F a w hf' hh.nds) λe a w h=>(by cases e<;>first|exact h|exact False.elim h)
def AE.rtM {fn:Func}{w0:World}{S:QM}{F:Nat->Prop}{n:Nat}{R:Value->QJ->Prop}{Ds:QM}{ds:List Deferred}(kds:QM)(ps:List (Nat×Nat))(v:Value)(I:okD H Ds kds)(hres: ∀a w,Fr a n ds l->Hp ⟨n,ds,w0,S,F⟩ (A.unob H) w->(results fn a.tmps).run P w=.ok v w)(hR:R v (A.ren (A.unob H) ps))(N:marks Ds=ds:=by rfl)(hk:nod kds=true:=by rfl)(h1:nod (ps.map (·.1))=true:=by rfl)(h2:nod (ps.map (·.2))=true:=by rfl):
  AE r P (bodyQ P fn λe w'=>∃v H',e=.returned v/\R v H'/\Hp ⟨0,[],w0,S,F⟩ H' w') K .ret ⟨n,ds,w0,S,F⟩ l H:=λa w hf W=>by
 subst N;refine kont_ret (retM hf (λD hm=>?_) (Qiz W I (Qbh.1 hk)) λw' hc _=>?_);obtain⟨k,_,E⟩:=Qia I D hm;obtain⟨d,hd,e2⟩: ∃d,w.heap[D]?=some d/\d=.deferred (some []):=W.hold k _ E;subst e2;exact hd;have E:=W.unob (λD hm=>by obtain⟨k,_,E⟩:=Qia I D hm;exact⟨k,E⟩) hc;exact⟨v,hres a w' hf E,v,_,rfl,hR,(E.ren ps h1 h2).nds⟩
def AX.rtM {fn:Func}{w0:World}{S:QM}{F:Nat->Prop}{n:Nat}{R:Value->QJ->Prop}{Ds:QM}{ds:List Deferred}(kds:QM)(ps:List (Nat×Nat))(v:Value)(I:okD H Ds kds)(hres: ∀a w,Fr a n ds l->Hp ⟨n,ds,w0,S,F⟩ (A.unob H) w->(results fn a.tmps).run P w=.ok v w)(N:R v (A.ren (A.unob H) ps))(E:marks Ds=ds:=by rfl)(hk:nod kds=true:=by rfl)(h1:nod (ps.map (·.1))=true:=by rfl)(h2:nod (ps.map (·.2))=true:=by rfl):
  AX r P (bodyQ P fn λe w'=>∃v H',e=.returned v/\R v H'/\Hp ⟨0,[],w0,S,F⟩ H' w') K .ret ⟨n,ds,w0,S,F⟩ l H:=λa w W hh=>wpIn_ret (AE.rtM kds ps v I hres N E hk h1 h2 a w W hh)
end
structure Yl (P:QR) (lid:Nat) (J:Nat->World->Prop) (Jx:World->Prop) (Φ:Nat->World->Nat->Prop) (Hc:QJ) (t:Ty) (ag:QL->QL) (xs:List t.den):Prop where
 js: ∀k W W',J k W->Ch [] W W'->J k W'
 jx: ∀W W',Jx W->Ch [] W W'->Jx W'
 dat: ∀k W,J k W->Hp ⟨0,[],W,[],Φ k W⟩ Hc W
 y: ∀k W0 W args,k<xs.length->J k W0->Ch [] W0 W->El t ag xs Φ k W0 W args->YieldAt (FW none) 0 P lid args.toArray W λe W'=>(e=.returned (.bool true)/\J (k+1) W')\/(e=.returned (.bool false)/\Jx W')
def Rem {α:Type}(xs:List α)(k:Nat)(rs:List α):Prop:=xs.drop k=rs/\k<=xs.length
def Rem.zero {α:Type}(xs:List α):Rem xs 0 xs:=⟨rfl,Ya _⟩
def Rem.nil {α:Type}{xs:List α}{k:Nat}(h:Rem xs k []):k=xs.length:=by
 have:=List.drop_eq_nil_iff.1 h.1;have:=h.2;omega
def Rem.at {α:Type}{xs rs:List α}{k:Nat}{x:α}(h:Rem xs k (x::rs)):xs[k]?=some x:=by
 have h1:=h.1;have:(xs.drop k)[0]?=some x:=by rw[h1];rfl
 rw[Wj]at this;simpa using this
def Rem.next {α:Type}{xs rs:List α}{k:Nat}{x:α}(h:Rem xs k (x::rs)):Rem xs (k+1) rs:=by
 refine⟨?_,?_⟩;rw[<-Yq,h.1];rfl;exact(Qe.1 h.at).1
def cns {α:Type}(x:α)(r:Option (List α)):Option (List α):=r.map (x:: ·)
def cns_some {α:Type}{x:α}{r:Option (List α)}{rs:List α}(h:cns x r=some rs): ∃rs',rs=x::rs'/\r=some rs':=by
 cases r with
 |none=>cases h
 |some l=>exact⟨l,(Xg h).symm,rfl⟩
abbrev CY (n:Nat) (Φ:Nat->World->Nat->Prop) (i:Nat×World):Cx:=⟨n,[],i.2,[],Φ i.1 i.2⟩
section
variable {P:QR}{lid:Nat}{J:Nat->World->Prop}{Jx:World->Prop}{Φ:Nat->World->Nat->Prop}{Hc:QJ}{t:Ty}{ag:QL->QL}{xs:List t.den}{n:Nat}
def Sq.enter {gf:FuncId}{fn:Func}{c:Code}{cap:QL}(N:P.funcs[gf]?=some fn)(W:fn.body=some c)(hn:fn.ntmps=n)(hm:Nat.ble (cap.length+1) n=true)
  (h: ∀lid w J Jx Φ,Yl P lid J Jx Φ Hc t ag xs->J 0 w->AX none P (bodyPost P fn λe W'=>e=.returned (.tuple #[])/\(J xs.length W'\/Jx W')) [] c (CY n Φ (0,w)) (argl (.func (.yield lid) #[] #[]::cap) 0) Hc):Sq P gf cap Hc t ag xs:=λΦ lid w J Jx h1 h2 E I h5=>
 Z.enter N W hn (Qm hm) λa hf'=>h lid w J Jx Φ ⟨h1,h2,E,h5⟩ I a w hf' (E 0 w I).nds
def AL.yield {ops:QU}{Q:QG}{rest:QT}{l:QI}{H:QJ}{d:Nat}{T:QQ}{pos:String}{af:Array Edge}{c:Operand}{ass:List Operand}{ts:Array QQ}{vs:QL}{k:Nat}{w0:World}{x:t.den}{rs:List t.den}
  (N:Yl P lid J Jx Φ Hc t ag xs) (hJ:J k w0) (E:Rem xs k (x::rs)) (cs:QL) (hD:Dat H t cs x)
  (ht: ∀w',J (k+1) w'->Rem xs (k+1) rs->AL none P ops Q rest (CY n Φ (k+1,w')) ((d,.bool true)::l) Hc)
  (he: ∀w',Jx w'->AL none P ops Q rest ⟨n,[],w',[],no⟩ ((d,.bool false)::l) [])
  (hc:ev l c=some (.func (.yield lid) #[] #[]):=by rfl) (hx:evs l ass=some vs:=by rfl) (hv:ag cs=vs:=by rfl) (hd:Nat.ble (d+1) n=true:=by rfl):
  AL none P ops Q (⟨some d,.call {callee:=.value c,args:=ass.toArray,argTypes:=ts},T,pos,af,none⟩::rest) (CY n Φ (k,w0)) l H:=λa w hf W=>by
 subst hv;have I:k<xs.length:=(Qe.1 E.at).1;refine callY hf hd hc hx (N.y k w0 w _ I hJ W.ch ⟨x,cs,E.at,rfl,Qga (Dat.rep W t hD) λb hb hl=>?_⟩) ?_;rcases hb.2 with h1|h1|h1
 exact .inl h1;exact .inr h1;cases h1
 ·rintro e w' (⟨rfl,h1⟩|⟨rfl,h1⟩)
  ·exact⟨_,rfl,λa' hf'=>ht w' h1 E.next a' w' hf' (N.dat _ _ h1).nds⟩
  exact⟨_,rfl,λa' hf'=>he w' h1 a' w' hf' ⟨Ch.refl' _ _,λk r h=>(by cases h),λk b ⟨_,h,_⟩=>(by cases h),λk k' b ⟨_,h,_⟩=>(by cases h),λk r j h=>(by cases h)⟩⟩
def AE.rtY {fn:Func}{l:QI}{H:QJ}{k:Nat}{w0:World}(E:Yl P lid J Jx Φ Hc t ag xs)(I:J k w0)(N:Rem xs k [])(h:fn.results=#[]:=by rfl):AE none P (bodyPost P fn λe W'=>e=.returned (.tuple #[])/\(J xs.length W'\/Jx W')) [] .normal (CY n Φ (k,w0)) l H:=λa w W hh=>
 Z.endv W (Z.res0 h w) ⟨rfl,.inl (N.nil▸E.js _ _ _ I hh.ch)⟩
def AX.rtX {fn:Func}{K:List Kx}{l:QI}{H:QJ}{w0:World}{F:Nat->Prop}(E:Yl P lid J Jx Φ Hc t ag xs)(I:Jx w0)(h:fn.results=#[]:=by rfl):AX none P (bodyPost P fn λe W'=>e=.returned (.tuple #[])/\(J xs.length W'\/Jx W')) K .ret ⟨n,[],w0,[],F⟩ l H:=AX.ret0 λa w N W=>
 Z.retv N (Z.res0 h w) ⟨rfl,.inr (E.jx _ _ I W.ch)⟩
end
section
variable {r:QN}{P:QR}{Y:QG}{K:List Kx}{C:Cx}{l:QI}{H:QJ}{ι:Type}{Cf:ι->Cx}
abbrev StC (Cf:ι->Cx) (l:QI) (H:QJ) (ks hs:QM) (J:ι->QI->QJ->Prop):QH:=λa w=>∃i nl nh,J i nl nh/\Fr a (Cf i).n (Cf i).ds (cat nl (kp l ks))/\Hp (Cf i) (hcat nh (kpH H hs hs)) w
def AX.joinC (Cf:ι->Cx)(ks E:QM)(J:ι->QI->QJ->Prop){x y:Code}(h:AX r P Y (.m (StC Cf l H ks E J)::K) x C l H)(I: ∀i nl nh,J i nl nh->AX r P Y K y (Cf i) (cat nl (kp l ks)) (hcat nh (kpH H E E))):AX r P Y K (.seq x y) C l H:=λa w N W=>by
 refine wpIn_seq (wpIn_mono (h a w N W) λe a w hq=>?_);cases e with
 |normal=>obtain⟨i,nl,nh,hJ,hf',hh'⟩:=hq;exact I i nl nh hJ a w hf' hh'
 |_=>exact hq
def AE.jC {l':QI}{H':QJ}{ks E:QM}{J:ι->QI->QJ->Prop}(i:ι)(gs:QM)(nl:QI)(nh:QJ)(I:J i nl nh)(h1:kp l ((cat nl (kp l' ks)).map (·.1))=cat nl (kp l' ks):=by kernel_rfl)(h2:kpH H gs gs=hcat nh (kpH H' E E):=by kernel_rfl):
  AE r P Y (.m (StC Cf l' H' ks E J)::K) .normal (Cf i) l H:=λa w N W=>⟨i,nl,nh,I,Fr.cov N h1,W.cov gs h2⟩
def AX.loopC (Cf:ι->Cx)(I:ι)(ks E gs:QM)(J:Nat->ι->QI->QJ->Prop)(m:Nat)(nl:QI)(nh:QJ){x:Code}(N:J m I nl nh)
  (h: ∀f i nl nh,J f i nl nh->AX r P Y (.m (StC Cf l H ks E λi nl nh=>∃f',f'<f/\J f' i nl nh)::K) x (Cf i) (cat nl (kp l ks)) (hcat nh (kpH H E E)))
  (h1:kp l ((cat nl (kp l ks)).map (·.1))=cat nl (kp l ks):=by kernel_rfl) (h2:kpH H gs gs=hcat nh (kpH H E E):=by kernel_rfl):AX r P Y K (.loop x) (Cf I) l H:=λa w W hh=>by
 refine Z.loop (λf a w=>StC Cf l H ks E (J f) a w) m ⟨I,nl,nh,N,Fr.cov W h1,hh.cov gs h2⟩ λf a w ⟨i,nl,nh,N,W,hh⟩=>?_;refine wpIn_mono (h f i nl nh N a w W hh) λe a w hq=>?_;cases e with
 |normal=>obtain⟨i,nl,nh,⟨f',hlt,hJ'⟩,hf',hh'⟩:=hq;exact⟨f',hlt,i,nl,nh,hJ',hf',hh'⟩
 |_=>exact hq
end
def drop_at {α:Type}{xs:List α}{k:Nat}{x:α}(h:xs[k]?=some x):xs.drop k=x::xs.drop (k+1):=by
 obtain⟨E,rfl⟩:=Qe.1 h;exact Yt E
section
variable {P:QR}{kt et tt:QQ}{κ:Type}[DecidableEq κ]{enc:κ->Value}{w:World}{b:Nat}
def Qio {arr:List MapEntry}{clock:Nat}{ks:List κ}{z:Value}(K:Ky P kt enc)(ht:P.underlying tt=some (.map kt et))(hz: ∀w,(zeroValue et).run P w=.ok z w)(hb:w.heap[b]?=some (.map arr.toArray clock))(hk:arr.map (·.key)=ks.map enc)(I: ∀e,e∈arr->e.born<clock)(hnd:(arr.map (·.born)).Nodup)(k:κ):
  ∃(arr1:List MapEntry) (clock1 i:Nat) (e1:MapEntry),(Instr.mapEntry tt (.map (some b)) (enc k)).run P w=.ok (.tuple #[e1.val,goInt e1.born]) (w.putObj b (.map arr1.toArray clock1))/\arr1[i]?=some e1/\e1.key=enc k/\(∀e,e∈arr1->e.born<clock1)/\(arr1.map (·.born)).Nodup/\
   ((loc k ks=some i/\arr1=arr)\/(loc k ks=none/\i=arr.length/\arr1=arr++[e1]/\e1.val=z)):=by
 have hfind:=Qci K k w arr ks hk;have hget:(getObj b).run P w=.ok (.map arr.toArray clock) w:=by simp[getObj,Sem.run,hb]
 cases hloc:loc k ks with
 |none=>
  rw[hloc]at hfind;refine⟨arr++[{key:=enc k,val:=z,born:=clock}],clock+1,arr.length,{key:=enc k,val:=z,born:=clock},?_,by simp,rfl,?_,?_,.inr ⟨rfl,rfl,rfl,rfl⟩⟩;simp only[Instr.mapEntry,Qp,Ql ht,Qi,hget,K.check,hfind,Option.bind_none,hz,MapC.set hb,Qs,List.push_toArray];intro e E;rcases Q8.1 E with E|E
  have:=I e E;omega;simp at E;subst E;simp;rw[Xc,Xl];refine⟨hnd,by simp,λx hx y hy=>?_⟩;simp at hy;subst hy;obtain⟨e,E,rfl⟩:=W5.1 hx;have:=I e E;omega
 |some i=>
  rw[hloc]at hfind;have hi:i<ks.length:=by
   have: ∀(ks:List κ) (i:Nat),loc k ks=some i->i<ks.length/\ks[i]?=some k:=by
    intro ks;induction ks with
    |nil=>intro i h;cases h
    |cons a r ih=>
     intro i h;unfold loc at h;split at h;rename_i e;injection h with h;subst h;subst e;exact⟨by simp,rfl⟩
     cases N:loc k r with
     |none=>rw[N]at h;cases h
     |some j=>rw[N]at h;injection h with h;subst h;have:=ih j N;exact⟨by simp;omega,by simpa using this.2⟩
   exact(this ks i hloc).1
  have hks:ks[i]?=some k:=by
   have: ∀(ks:List κ) (i:Nat),loc k ks=some i->ks[i]?=some k:=by
    intro ks;induction ks with
    |nil=>intro i h;cases h
    |cons a r ih=>
     intro i h;unfold loc at h;split at h;rename_i e;injection h with h;subst h;subst e;rfl
     cases N:loc k r with
     |none=>rw[N]at h;cases h
     |some j=>rw[N]at h;injection h with h;subst h;simpa using ih j N
   exact this ks i hloc
  have hlen:arr.length=ks.length:=by have:=Wq List.length hk;simpa using this
  obtain⟨e,E⟩: ∃e,arr[i]?=some e:=⟨_,Qj (by omega)⟩;have W:e.key=enc k:=by
   have h6:(arr.map (·.key))[i]?=some e.key:=by rw[Q0,E];rfl
   rw[hk,Q0,hks]at h6;simpa using h6.symm
  have hstay:(Instr.keyThatStays (enc k) (enc k)).run P w=.ok (enc k) w:=by simp[Instr.keyThatStays,K.bits]
  have hsame:(arr.toArray.modify i λe=>{e with key:=enc k})=arr.toArray:=by
   have:(arr.toArray.modify i λe=>{e with key:=enc k})=(arr.modify i λe=>{e with key:=enc k}).toArray:=by simp
   rw[this];refine Wq List.toArray (Xf λj=>?_);rw[Xa];by_cases hij:i=j;subst hij;rw[E];simp[<-W];simp[hij]
  refine⟨arr,clock,i,e,?_,E,W,I,hnd,.inl ⟨rfl,rfl⟩⟩;simp only[Instr.mapEntry,Qp,Ql ht,Qi,hget,K.check,hfind,Qa,E,Wo,Wv,Y0,W,hstay,hsame,MapC.set hb,Qs]
def run_entryStore {arr:List MapEntry}{clock i:Nat}{E:MapEntry}(W:w.heap[b]?=some (.map arr.toArray clock))(hi:arr[i]?=some E)(I:(arr.map (·.born)).Nodup)(v:Value):
  (Instr.entryStore tt (.map (some b)) (goInt E.born) v).run P w=.ok () (w.putObj b (.map (arr.modify i λe=>{e with val:=v}).toArray clock)):=by
 have hget:(getObj b).run P w=.ok (.map arr.toArray clock) w:=by simp[getObj,Sem.run,W]
 have hidx:arr.toArray.findIdx? (λe=>(e.born:Int)==(E.born:Int))=some i:=by
  rw[Array.findIdx?_eq_some_iff_getElem];obtain⟨hl,hg⟩:=Qe.1 hi;refine⟨by simpa using hl,by simp[hg],λj hj=>?_⟩;have N:j<arr.length:=by omega
  have hne:arr[j].born≠E.born:=λh=>by
   have:=(J7 I (i:=j) (j:=i) (h₀:=by simpa using N) (h₁:=by simpa using hl)).1 (by simp[hg,h]);omega
  simp only[List.getElem_toArray,beq_iff_eq];omega
 have has:(asIntOf (Value.int IntKind.i64 (E.born:Int))).run P w=.ok (.i64,(E.born:Int)) w:=by simp[asIntOf]
 simp only[Instr.entryStore,Qp,hget,Qi,goInt,asInt,has,hidx,MapC.set W,Qs,List.modify_toArray]
end
section
variable {P:QR}{kt et tt st ty:QQ}{κ:Type}[DecidableEq κ]{enc:κ->Value}{w:World}{b:Nat}{t:Ty}{e:QQ}{F G:Nat->Prop}{As:List (QK×Nat)}{m:List (κ×List t.den)}
def Mr.asF {F':Nat->Prop}(h:Mr enc t e w F b As m)(E: ∀x,F x->x<w.heap.size->F' x):Mr enc t e w F' b As m:=h.to (S:=[]) (Ch.refl w) (by simp) λx hx I=>⟨by simp,E x hx I⟩
def Qif {i:Nat}{a a':QK×Nat}(h:As[i]?=some a): ∀x,x∈rbl (As.set i a')->x∈rbl As\/x∈obl a'.1:=λx hx=>by
 obtain⟨y,I,E⟩:=List.mem_flatMap.1 hx;rcases List.mem_or_eq_of_mem_set I with I|rfl
 exact .inl (List.mem_flatMap.2 ⟨y,I,E⟩);exact .inr E
def rbl_other {i j:Nat}{a c:QK×Nat}(hn:(rbl As).Nodup)(I:As[i]?=some a)(N:As[j]?=some c)(W:i≠j): ∀x,x∈obl a.1->x∉obl c.1:=by
 induction As generalizing i j with
 |nil=>simp at I
 |cons y r ih=>
  have hn':(obl y.1++rbl r).Nodup:=hn;rw[Xl]at hn';cases i with
  |zero=>
   cases j with
   |zero=>exact absurd rfl W
   |succ j=>
    simp only[Wp,Qg]at I;subst I;simp only[Ww]at N;exact λx hx E=>hn'.2.2 x hx x (Qbp N E) rfl
  |succ i=>
   simp only[Ww]at I;cases j with
   |zero=>
    simp only[Wp,Qg]at N;subst N;exact λx hx E=>hn'.2.2 x E x (Qbp I hx) rfl
   |succ j=>
    simp only[Ww]at N;exact ih hn'.2.1 I N (by omega)
def Qhe {i:Nat}{a a':QK×Nat}(N:(rbl As).Nodup)(h:As[i]?=some a)(W:(obl a'.1).Nodup)(hx: ∀x,x∈obl a'.1->x∈obl a.1\/x∉rbl As):(rbl (As.set i a')).Nodup:=by
 induction As generalizing i with
 |nil=>simp at h
 |cons y r ih=>
  have hn':(obl y.1++rbl r).Nodup:=N;rw[Xl]at hn';cases i with
  |zero=>
   simp only[Wp,Qg]at h;subst h;show(obl a'.1++rbl r).Nodup;rw[Xl];refine⟨W,hn'.2.1,λx h1 z h2 e=>?_⟩;subst e;rcases hx x h1 with E|E
   exact hn'.2.2 x E x h2 rfl;exact E (Q6 _ h2)
  |succ i=>
   simp only[Ww]at h;show(obl y.1++rbl (r.set i a')).Nodup;rw[Xl];refine⟨hn'.1,ih hn'.2.1 h λx h1=>?_,λx h1 z h2 e=>?_⟩;rcases hx x h1 with E|E
   exact .inl E;exact .inr λI=>E (Q6 _ I);subst e;rcases Qif h x h2 with E|E
   exact hn'.2.2 x h1 x E rfl;rcases hx x E with I|I
   exact hn'.2.2 x h1 x (Qbp h I) rfl;exact I (Ws _ h1)
def Mr.keys {arr:List MapEntry}{es:List (Value×Value)}(h1:arr.map (λe=>(e.key,e.val))=es)(W:es.length=m.length)(hA:As.length=m.length)(I: ∀(i:Nat) (p:κ×List t.den) (a:QK×Nat),m[i]?=some p->As[i]?=some a->es[i]?=some (enc p.1,.slice a.1 p.2.length a.2)/\Own t e 0 w F a.1 a.2 p.2):arr.map (·.key)=(m.map Prod.fst).map enc:=by
 have N:arr.map (·.key)=es.map Prod.fst:=by rw[<-h1,Ve];rfl
 rw[N];refine Xf λi=>?_;simp only[Q0];cases E:m[i]? with
 |none=>
  have:=Jk.1 E;rw[Wh (by omega)];rfl
 |some p=>
  have hi:=(Qe.1 E).1;rw[(I i p As[i] E (Qj (by omega))).1];rfl
def Qjs (A:QK):(obl A).Nodup:=by cases A<;>simp[obl]
def Mr.app {i:TypeInfo}{z:Value}{bytes:Nat}(K:Ky P kt enc)(ht:P.underlying tt=some (.map kt et))(hz0: ∀w,(zeroValue et).run P w=.ok (.slice none 0 0) w)(hst:P.underlying st=some (.slice e))(hi:P.info? e=some i)(hz:i.zero=some z)(hsize:i.size=t.size)(hby:i.bytes=bytes)(hzs:z.cells.size=t.size)(hbp:0<bytes)
  (hm:Mr enc t e w F b As m) (hF: ∀x,F x->x∉b::rbl As) (hFl: ∀x,F x->x<w.heap.size) {A2:QK} {c2:Nat} {ys:List t.den} (hr:Row t w F G A2 c2 ys) (hG: ∀x,G x->x≠b) (k:κ) (h63:((mget [] m k).length+ys.length)*bytes<=140737488355328):
  ∃A c n w1 A' c' N w3,(Instr.mapEntry tt (.map (some b)) (enc k)).run P w=.ok (.tuple #[.slice A (mget [] m k).length c,goInt n]) w1/\(Builtin.append_ #[st,st] ty #[.slice A (mget [] m k).length c,.slice A2 ys.length c2]).run P w1=.ok (.slice A' ((mget [] m k).length+ys.length) c') N/\
   (Instr.entryStore tt (.map (some b)) (goInt n) (.slice A' ((mget [] m k).length+ys.length) c')).run P N=.ok () w3/\Ch (b::rbl As) w w3/\∃As',Mr enc t e w3 F b As' (mins m k (mget [] m k++ys))/\∀x,x∈rbl As'->x∈rbl As\/(w.heap.size<=x/\x<w3.heap.size):=by
 obtain⟨es,⟨arr,clock,hb,h1,hlt,hnd⟩,hl,hA,W,hsz,he⟩:=hm;have hblt:=(Qv.1 hb).1;rw[Xb]at W;have hk:=Mr.keys h1 hl hA he;have hlen:arr.length=m.length:=by rw[<-hl,<-h1,W6]
 obtain⟨arr1,clock1,I,e1,hrun,hi1,hek,hlt1,hnd1,hcase⟩:=Qio K ht hz0 hb hk hlt hnd k;have hc1:=Ch.putObj w b (.map arr1.toArray clock1);have hrow: ∃A c,e1.val=.slice A (mget [] m k).length c/\Own t e 0 w F A c (mget [] m k)/\(∀x,x∈obl A->x∈rbl As)/\((loc k (m.map Prod.fst)=some I/\arr1=arr/\As[I]?=some (A,c))\/(loc k (m.map Prod.fst)=none/\I=arr.length/\arr1=arr++[e1]/\obl A=[])):=by
  rcases hcase with⟨hloc,rfl⟩|⟨hloc,hi0,harr,hv⟩
  have hmi:=Qhu hloc [];have hil:=(Qe.1 hmi).1;have hAi:As[I]?=some As[I]:=Qj (by omega);obtain⟨h2,h3⟩:=he I _ _ hmi hAi;rw[<-h1,Q0,hi1]at h2;injection h2 with h2;injection h2 with _ h2
  exact⟨_,_,h2,h3,λx hx=>Qbp hAi hx,.inl ⟨hloc,rfl,hAi⟩⟩;have hg:mget [] m k=[]:=mget_none ((Qkr m k).1 hloc);rw[hg];exact⟨none,0,hv,Own.nil t e 0 w F,(λx hx=>by cases hx),.inr ⟨hloc,hi0,harr,rfl⟩⟩
 obtain⟨A,c,hval,hO,hOb,hcase2⟩:=hrow;rw[hval]at hrun;have hO1:Own t e 0 (w.putObj b (.map arr1.toArray clock1)) F A c (mget [] m k):=Own.to hO hc1 (λx hx _ _=>by rw[Qq];rintro rfl;exact W.1 (hOb x hx)) λx hx _=>⟨by rw[Qq];rintro rfl;exact hF x hx (Qh ..),hx⟩;have hR1:Row t (w.putObj b (.map arr1.toArray clock1)) F G A2 c2 ys:=Row.to hr hc1 (λx hx _=>⟨by rw[Qq];rintro rfl;exact hF x hx (Qh ..),hx⟩) λx hx _=>⟨by rw[Qq];exact hG x hx,hx⟩;obtain⟨A',c',N,happ,hO2,hc2,hnew⟩:=run_appendR (P:=P) (ty:=ty) hst hi hz hsize hby hzs hO1 hR1 h63 hbp (λx hx hxA=>hF x hx (Qf _ (hOb x hxA))) (Ya _);have hbA:b∉obl A:=λhx=>W.1 (hOb b hx);have hb1:(w.putObj b (.map arr1.toArray clock1)).heap[b]?=some (.map arr1.toArray clock1):=Wm hblt;have hb2:N.heap[b]?=some (.map arr1.toArray clock1):=(hc2.block b (by simpa using hblt) hbA).trans hb1;have hstore:=run_entryStore (P:=P) (tt:=tt) hb2 hi1 hnd1 (.slice A' ((mget [] m k).length+ys.length) c');have hsz1:(w.putObj b (.map arr1.toArray clock1)).heap.size=w.heap.size:=by simp
 have hsz2:w.heap.size<=N.heap.size:=by rw[<-hsz1];exact hc2.size
 have hlt2: ∀x,x∈obl A'->x<N.heap.size:=λx hx=>(hO2.lt x hx).2;have hnew': ∀x,x∈obl A'->x∈obl A\/x∉rbl As:=λx hx=>by
  rcases hnew x hx with h2|h2
  exact .inl h2;exact .inr λh3=>by have:=hsz x h3;omega
 have hc3:=Ch.putObj N b (.map (arr1.modify I λe=>{e with val:=.slice A' ((mget [] m k).length+ys.length) c'}).toArray clock1);have hall:Ch (b::rbl As) w (N.putObj b (.map (arr1.modify I λe=>{e with val:=.slice A' ((mget [] m k).length+ys.length) c'}).toArray clock1)):=
  ((hc1.mono (by simp)).then (U:=b::rbl As) (hc2.mono λx hx=>.inl (hOb x hx)) (λx hx=>.inl hx) (λx hx=>.inl (Qf _ hx))).then (U:=b::rbl As) hc3 (λx hx=>.inl hx) (λx hx=>.inl (by rw[Qq]at hx;subst hx;exact Qh ..))
 refine⟨A,c,e1.born,_,A',c',N,_,hrun,happ,hstore,hall,?_⟩;obtain⟨v,hv⟩: ∃v,v=Value.slice A' ((mget [] m k).length+ys.length) c':=⟨_,rfl⟩;rw[<-hv]at hc3 ⊢;have hb3:(N.putObj b (.map (arr1.modify I λe=>{e with val:=v}).toArray clock1)).heap[b]?=some (.map (arr1.modify I λe=>{e with val:=v}).toArray clock1):=Wm (Qw hblt hsz2);have hborn: ∀x,x∈arr1.modify I (λe=>{e with val:=v})->x.born<clock1:=λx hx=>by
  obtain⟨j,hj⟩:=Xm.1 hx;rw[Xa]at hj;cases E:arr1[j]? with
  |none=>rw[E]at hj;simp at hj
  |some e0=>
   rw[E]at hj;have hb0:=hlt1 e0 (Qu E);simp only[Yu,Wo,Qg]at hj;subst hj;split<;>exact hb0
 have hborns:(arr1.modify I λe=>{e with val:=v}).map (·.born)=arr1.map (·.born):=by
  refine Xf λj=>?_;simp only[Q0,Xa];cases arr1[j]? with
  |none=>rfl
  |some e0=>simp only[Yu,Wo,Qg];split<;>rfl
 have hO3:Own t e 0 (N.putObj b (.map (arr1.modify I λe=>{e with val:=v}).toArray clock1)) F A' c' (mget [] m k++ys):=Own.to hO2 hc3 (λx hx _ _=>by
   rw[Qq];rintro rfl;rcases hnew x hx with h2|h2
   exact hbA h2;omega) λx hx _=>⟨by rw[Qq];rintro rfl;exact hF x hx (Qh ..),hx⟩
 have hOj: ∀(j:Nat) (p:κ×List t.den) (a:QK×Nat),m[j]?=some p->As[j]?=some a->(∀x,x∈obl a.1->x∉obl A)->Own t e 0 (N.putObj b (.map (arr1.modify I λe=>{e with val:=v}).toArray clock1)) F a.1 a.2 p.2:=λj p a hp E hdis=>by
  have h2:=(he j p a hp E).2;have h3:Own t e 0 (w.putObj b (.map arr1.toArray clock1)) F a.1 a.2 p.2:=Own.to h2 hc1 (λx hx _ _=>by rw[Qq];rintro rfl;exact W.1 (Qbp E hx)) λx hx _=>⟨by rw[Qq];rintro rfl;exact hF x hx (Qh ..),hx⟩;have h4:Own t e 0 N F a.1 a.2 p.2:=Own.to h3 hc2 (λx hx _ _=>hdis x hx) λx hx _=>⟨λhxA=>hF x hx (Qf _ (hOb x hxA)),hx⟩;exact Own.to h4 hc3 (λx hx _ _=>by rw[Qq];rintro rfl;exact W.1 (Qbp E hx)) λx hx _=>⟨by rw[Qq];rintro rfl;exact hF x hx (Qh ..),hx⟩
 have hsz3:(N.putObj b (.map (arr1.modify I λe=>{e with val:=v}).toArray clock1)).heap.size=N.heap.size:=by simp
 have hbA':b∉obl A':=λhx=>by
  rcases hnew b hx with h2|h2
  exact hbA h2;omega
 have hnew2: ∀x,x∈obl A'->x∈rbl As\/(w.heap.size<=x/\x<(N.putObj b (.map (arr1.modify I λe=>{e with val:=v}).toArray clock1)).heap.size):=λx hx=>by
  rcases hnew x hx with h2|h2
  exact .inl (hOb x h2);exact .inr ⟨by omega,by rw[hsz3];exact hlt2 x hx⟩
 rcases hcase2 with⟨hloc,rfl,hAi⟩|⟨hloc,hi0,harr,hA0⟩
 refine⟨As.set I (A',c'),⟨_,⟨_,_,hb3,rfl,hborn,by rw[hborns];exact hnd1⟩,?_,?_,?_,?_,?_⟩,?_⟩;rw[Qbz,hloc];simp[hlen];rw[Qbz,hloc];simp[hA];rw[Xb];refine⟨λhx=>?_,Qhe W.2 hAi (Qjs A') hnew'⟩;rcases Qif hAi b hx with h2|h2
 exact W.1 h2;exact hbA' h2;intro x hx;rw[hsz3];rcases Qif hAi x hx with h2|h2
 exact Qw (hsz x h2) hsz2;exact hlt2 x h2;intro j p a hp E;rw[Qbz,hloc]at hp;simp only[Xa]at hp;rw[Jb]at E;have hil:=(Qe.1 hAi).1;by_cases hij:I=j;subst hij;rw[Qhu hloc []]at hp;simp only[Xo,hil]at E;injection E with E;subst E
 simp only[Xo,Yu,Wo,Qg]at hp;subst hp;refine⟨?_,hO3⟩;rw[Q0,Xa,hi1];simp[hek,hv];simp only[hij,Wd]at E hp;simp only[Yu,id_map']at hp;have hp':m[j]?=some p:=by cases hmj:m[j]?<;>rw[hmj]at hp<;>simp at hp ⊢;exact hp
 refine⟨?_,hOj j p a hp' E (rbl_other W.2 E hAi (Ne.symm hij))⟩;have h2:=(he j p a hp' E).1;rw[<-h1,Q0]at h2;rw[Q0,Xa];simp only[hij,Wd];cases harj:arr1[j]? with
 |none=>rw[harj]at h2;cases h2
 |some e0=>rw[harj]at h2;simpa using h2
 intro x hx;rcases Qif hAi x hx with h2|h2
 exact .inl h2;exact hnew2 x h2;have hmod:(arr1.modify I λe=>{e with val:=v})=arr++[{e1 with val:=v}]:=by
  rw[harr,hi0];refine Xf λj=>?_;rw[Xa];rcases Nat.lt_trichotomy j arr.length with h2|h2|h2
  rw[Wn h2,Wn h2];have hne:arr.length≠j:=by omega
  simp[hne];subst h2;simp;rw[Wh (by simp;omega),Wh (by simp;omega)];rfl
 have hdis: ∀x,x∈obl A'->x∉rbl As:=λx hx hx2=>by
  rcases hnew x hx with h2|h2
  rw[hA0]at h2;cases h2;have:=hsz x hx2;omega
 have hrbl:rbl (As++[(A',c')])=rbl As++obl A':=by simp[rbl]
 refine⟨As++[(A',c')],⟨_,⟨_,_,hb3,rfl,hborn,by rw[hborns];exact hnd1⟩,?_,?_,?_,?_,?_⟩,?_⟩;rw[Qbz,hloc,hmod];simp[hlen];rw[Qbz,hloc];simp[hA];rw[hrbl,Xb,Q8,Xl];exact⟨λh2=>h2.elim W.1 hbA',W.2,Qjs A',λx hx y hy e=>hdis y hy (e▸hx)⟩;intro x hx;rw[hsz3];rw[hrbl,Q8]at hx;rcases hx with h2|h2
 exact Qw (hsz x h2) hsz2;exact hlt2 x h2;intro j p a hp E;rw[Qbz,hloc]at hp;rcases Nat.lt_trichotomy j m.length with h2|h2|h2
 rw[Wn h2]at hp;rw[Wn (by omega)]at E;refine⟨?_,hOj j p a hp E λx hx hx2=>by rw[hA0]at hx2;cases hx2⟩;have h3:=(he j p a hp E).1;rw[<-h1,Q0]at h3;rw[hmod,Q0,Wn (by omega)];exact h3;subst h2;rw[W9 (Qr _)]at hp;rw[W9 (by omega)]at E;simp[hA]at hp E;subst hp;subst E;refine⟨?_,hO3⟩;rw[hmod,Q0,W9 (by omega)];simp[hlen,hek,hv];rw[Wh (by simp;omega)]at hp;cases hp;intro x hx;rw[hrbl,Q8]at hx;rcases hx with h2|h2
 exact .inl h2;exact hnew2 x h2
end
section
variable {r:QN}{P:QR}{ops:QU}{Q:QG}{rest:QT}{C:Cx}{l:QI}{H:QJ}
def lk_hd (d:Nat)(v:Value)(l:QI):lk ((d,v)::l) d=some v:=by simp[lk]
def AL.mkmr {d:Nat}{T tt:QQ}{pos:String}{af:Array Edge}(k:Nat)(κ:Type)(enc:κ->Value)(t:Ty)(e:QQ)(h: ∀b,AL r P ops Q rest C ((d,.map (some b))::l) ((k,.mr κ enc t e b [] [])::H))(E:Nat.ble (d+1) C.n=true:=by rfl)(I:hk H k=none:=by kernel_rfl):
  AL r P ops Q (⟨some d,.makeMap tt none,T,pos,af,none⟩::rest) C l H:=λa w N W=>by
 refine Z.valw (w':=w.alloc (.map #[] 0)) (v:=.map (some w.heap.size)) N E (by simp[execOp,Instr.makeMap]) λa' hf'=>h _ a' _ hf' (W.new I (Ch.alloc w _) (λx hx=>?_) (λj hj=>by cases hj) λF B _ _ _=>?_);simp[Res.bl,rbl]at hx;subst hx;simp;exact⟨[],⟨[],0,heap_alloc_new w _,rfl,by simp,by simp⟩,rfl,rfl,by simp[rbl],by simp[rbl],λi p a hp=>by simp at hp⟩
def frzM {X:QH}(k:Nat)(js:QM){κ:Type}{enc:κ->Value}{t:Ty}{e:QQ}{b:Nat}{As:List (QK×Nat)}{m:List (κ×List t.den)}(h: ∀a w,Fr a C.n C.ds l->Hp C ((k,.mp κ enc (.slice t) false b m)::ded js H) w->X a w)(E:hk H k=some (.mr κ enc t e b As m):=by rfl)(N:hng [k] js H=true:=by kernel_rfl): ∀a w,Fr a C.n C.ds l->Hp C H w->X a w:=λa w hf hh=>by
 refine h a w hf (Hp.dd (hh.upd (S:=[]) (Ch.refl w) (by simp) (λx hx=>.inl ⟨_,E,by simp[Res.bl]at hx ⊢;exact .inl hx⟩) (λj N=>by cases N) λF B h1 h2 _ _ _=>?_) N);obtain⟨es,c1,c2,c3,c4,c5,c6⟩:Mr enc t e w (Fh C H) b As m:=hh.hold k _ E;refine⟨es,c1,c2,λi p hp=>?_⟩;have hi:=(Qe.1 hp).1;have W:As[i]?=some As[i]:=Qj (by omega);obtain⟨c7,cells,hr,o1,o2⟩:=c6 i p _ hp W;refine⟨[.slice As[i].1 p.2.length As[i].2],c7,?_⟩;have hO':Own t e 0 w F As[i].1 As[i].2 p.2:=⟨cells,hr,o1,λi x hi=>Qga (o2 i x hi) λb hb hl=>h1 b hb hl⟩;refine hO'.rep (λ_ h=>h) λx hx=>h2 x ⟨_,E,by simp only[Res.bl];exact Qf _ (Qbp W hx)⟩ λI=>?_;simp only[Res.bl,Qq]at I;subst I;exact(Xb.1 c4).1 (Qbp W hx)
def AL.mapp {κ:Type}[DecidableEq κ]{enc:κ->Value}{kt et tt st e:QQ}{t:Ty}{b d1 d2 d3 d4 n2:Nat}{As:List (QK×Nat)}{m:List (κ×List t.den)}{mx kx y:Operand}{i:TypeInfo}{z:Value}{bytes sz:Nat}{A2:QK}{c2:Nat}{ys:List t.den}
  {T1 T2 T3 T4 T5:QQ} {p1 p2 p3 p4 p5:String} {f1 f2 f3 f4 f5:Array Edge} (k ky:Nat) (js:QM) (K:Ky P kt enc) (key:κ) (hz0: ∀w,(zeroValue et).run P w=.ok (.slice none 0 0) w)
  (hinf:P.info? e=some i/\i.zero=some z/\i.size=sz/\i.bytes=bytes/\z.cells.size=sz) (h63:((mget [] m key).length+ys.length)*bytes<=140737488355328)
  (h: ∀As' W v2 v3 v4,AL r P ops Q rest C ((d4,v4)::(d3,v3)::(d2,v2)::(d1,W)::l) ((k,.mr κ enc t e b As' (mins m key (mget [] m key++ys)))::ded js H))
  (hk1:hk H k=some (.mr κ enc t e b As m):=by rfl) (hk2:hk H ky=some (.own t e A2 c2 ys):=by rfl) (I:Nat.beq k ky=false:=by rfl) (hx:ev l mx=some (.map (some b)):=by rfl) (hy:ev l kx=some (enc key):=by rfl) (hyy:ev l y=some (.slice A2 n2 c2):=by rfl) (hn2:n2=ys.length:=by rfl) (hsz:sz=t.size:=by rfl) (hbp:Nat.ble 1 bytes=true:=by rfl)
  (ht:P.underlying tt=some (.map kt et):=by rfl) (hst:P.underlying st=some (.slice e):=by rfl) (hd1:Nat.ble (d1+1) C.n=true:=by rfl) (hd2:Nat.ble (d2+1) C.n=true:=by rfl) (hd3:Nat.ble (d3+1) C.n=true:=by rfl) (hd4:Nat.ble (d4+1) C.n=true:=by rfl)
  (hl: ∀W v2 v3 v4,ev ((d2,v2)::(d1,W)::l) y=ev l y/\ev ((d4,v4)::(d3,v3)::(d2,v2)::(d1,W)::l) mx=ev l mx/\lk ((d3,v3)::(d2,v2)::(d1,W)::l) d1=some W/\lk ((d4,v4)::(d3,v3)::(d2,v2)::(d1,W)::l) d3=some v3:=by exact λ_ _ _ _=>⟨rfl,rfl,rfl,rfl⟩) (hj:hng [k] js H=true:=by kernel_rfl):
  AL r P ops Q (⟨some d1,.mapEntry tt mx kx,T1,p1,f1,none⟩::⟨some d2,.extract (.tmp d1) 0,T2,p2,f2,none⟩::⟨some d3,.call {callee:=.builtin .append,args:=#[.tmp d2,y],argTypes:=#[st,st]},T3,p3,f3,none⟩::⟨some d4,.extract (.tmp d1) 1,T4,p4,f4,none⟩::⟨none,.entryStore tt mx (.tmp d4) (.tmp d3),T5,p5,f5,none⟩::rest) C l H:=λa w hf hh=>by
 subst hn2;subst hsz;obtain⟨hi,hz,hsize,hby,hzs⟩:=hinf;have I:k≠ky:=λe=>by rw[e,Y7]at I;cases I
 have hM:Mr enc t e w (Fh C H) b As m:=hh.hold k _ hk1;have hM2:Mr enc t e w (λx=>Fh C H x/\x<w.heap.size) b As m:=by
  obtain⟨es,c1,c2,c3,c4,c5,c6⟩:=hM;refine⟨es,c1,c2,c3,c4,c5,λi p a hp ha=>?_⟩;obtain⟨c7,cells,hr,o1,o2⟩:=c6 i p a hp ha;exact⟨c7,cells,hr,o1,λi x hi=>Qal t (o2 i x hi)⟩
 obtain⟨G,hR,hG⟩:=rowO hk2 w hh;have hR2:Row t w (λx=>Fh C H x/\x<w.heap.size) G A2 c2 ys:=by
  obtain⟨r1,r2,cs,r3,r4,r5⟩:=hR;exact⟨r1,r2,cs,r3,r4,λi x hi=>Qal t (r5 i x hi)⟩
 have E: ∀x,x∈b::rbl As->Bk H k x:=λx hx=>⟨_,hk1,hx⟩;obtain⟨A,c,n,w1,A',c',w2,w3,e1,e2,e3,hch,As',hM3,hnew⟩:=hM2.app (ty:=T3) K ht hz0 hst hi hz hsize hby hzs (Qm hbp) (λx hx hxb=>hx.1.1 k (E x hxb)) (λx hx=>hx.2) hR2 (λx hgx hxb=>I (hh.dis k ky b (E b (Qh ..)) (hxb▸hG x hgx))) key h63;refine Z.valw (w':=w1) (v:=.tuple #[.slice A (mget [] m key).length c,goInt n]) hf hd1 ?_ λa1 hf1=>?_;simp only[execOp,Qp,hf.eval hx,hf.eval hy,e1,Qi,Qs];refine Z.val (v:=.slice A (mget [] m key).length c) hf1 hd2 (Z.r_extract (hf1.eval (x:=.tmp d1) (lk_hd _ _ _)) rfl) λa2 hf2=>?_;obtain⟨q1,_,_,_⟩:=hl (.tuple #[.slice A (mget [] m key).length c,goInt n]) (.slice A (mget [] m key).length c) undef undef;refine Z.valw (w':=w2) (v:=.slice A' ((mget [] m key).length+ys.length) c') hf2 hd3 ?_ λa3 hf3=>?_;simp only[execOp,resolve,invoke,builtin,Qp,Qs,Qi,Yg,Wc,Ji,hf2.eval (x:=.tmp d2) (v:=.slice A (mget [] m key).length c) (lk_hd _ _ _),hf2.eval (q1.trans hyy),e2];obtain⟨_,_,q3,_⟩:=hl (.tuple #[.slice A (mget [] m key).length c,goInt n]) (.slice A (mget [] m key).length c) (.slice A' ((mget [] m key).length+ys.length) c') undef;refine Z.val (v:=goInt n) hf3 hd4 (Z.r_extract (hf3.eval (x:=.tmp d1) q3) rfl) λa4 N=>?_;obtain⟨_,q2,_,q4⟩:=hl (.tuple #[.slice A (mget [] m key).length c,goInt n]) (.slice A (mget [] m key).length c) (.slice A' ((mget [] m key).length+ys.length) c') (goInt n);refine Z.skipw (w':=w3) N ?_ λa5 hf5=>h As' _ _ _ _ a5 w3 hf5 (Hp.dd (hh.upd hch E (λx hx=>?_) (λj hj=>by cases hj) λF B hF _ _ _ _=>hM3.asF λx hx _=>hF x hx.1 hx.2) hj);simp only[execOp,Qp,N.eval (q2.trans hx),N.eval (x:=.tmp d4) (v:=goInt n) (lk_hd _ _ _),N.eval (x:=.tmp d3) q4,e3,Qi,Qs];simp only[Res.bl]at hx;rcases Qn.1 hx with rfl|hx
 exact .inl (E _ (Qh ..));rcases hnew x hx with h2|h2
 exact .inl (E _ (Qf _ h2));exact .inr h2
end
end Go.A
end
section
namespace Go.A
open Go.RowKit Go.Z Go.Shelf Go.Proofs Go.Lib
def tabF:QL:=(List.range 256).map λc=>.int .u8 (firstT c)
def tabA:QL:=(List.range 32).map λj=>.int .u8 (if j%2=0 then accLo (j / 2)else accHi (j / 2))
def tabs_of {w:World}{E I:Nat}(h1:Cells w ⟨E,0,none⟩ tabF)(h2:Cells w ⟨I,0,none⟩ tabA):Lib.Utf8Tabs E I w:=by
 refine⟨λc N=>?_,λi hi=>⟨?_,?_⟩⟩;have:=h1 c (.int .u8 (firstT c)) (by simp[tabF,N]);rw[Wf,Wl]at this;exact this;have:=h2 (2*i) (.int .u8 (accLo i)) (by
  have:2*i<32:=by omega
  simp[tabA,this])
 rw[Wf,Wl]at this;exact this;have:=h2 (2*i+1) (.int .u8 (accHi i)) (by
  have W:2*i+1<32:=by omega
  have h4:(2*i+1)%2=1:=by omega
  have h5:(2*i+1) / 2=i:=by omega
  simp[tabA,W,h4,h5])
 rw[Wf,Wl]at this;exact this
def Ct.valid {P:QR}{ρ:Ren}{f I N:Nat}(L:Lays.n196 P ρ)(hf:ρ.f 196=f)(h3:ρ.g 3=I)(h4:ρ.g 4=N)(s:ByteArray)(hs:s.size<=maxLen)(r:Bool)(E:some (Lib.validD s.data.toList)=some r):
  Ct P f [.string s] [(0,.el none I 0 tabF),(1,.el none N 0 tabA)] [] (λv H'=>v=.bool r/\H'=[]):=λw F W=>by
 subst hf;subst h3;subst h4;have E:=Xg E;subst E;have h1:Cells w ⟨ρ.g 3,0,none⟩ tabF:=(W.hold 0 (.el none (ρ.g 3) 0 tabF) rfl).1;have h2:Cells w ⟨ρ.g 4,0,none⟩ tabA:=(W.hold 1 (.el none (ρ.g 4) 0 tabA) rfl).1;refine(Any.utf8_ValidString L s w (by simp only[maxLen]at hs;omega) (tabs_of h1 h2)).mono ?_;rintro e w' ⟨rfl,hb⟩;exact⟨_,[],rfl,⟨rfl,rfl⟩,(Ch.of_below hb),λk r h=>(by cases h),λk b ⟨_,h,_⟩=>(by cases h),λk k' b ⟨_,h,_⟩=>(by cases h),λk r j h=>(by cases h)⟩
end Go.A
end
section
namespace Go.A
open Go.RowKit
abbrev i (x:Int):Value:=.int .i64 x
abbrev h6:=IntKind.i64.has
abbrev ti:=Z.Ty.int .i64
abbrev TI:=Z.Ty.slice ti
def si{α:Type}{a b:α}(h:some a=some b):a=b:=Xg h
end Go.A
end
section
namespace Go.Proofs.YtligcbdjiolamaaGreatDoor
open Go.RowKit Go.Shelf Go.Lib
def Tryz.laysValid_ren:Go.Shelf.Ren:=⟨λ|196=>140|259=>169|n=>n,λ|9=>9|4=>4|3=>3|5=>5|12=>12|119=>254|0=>0|46=>110|139=>257|138=>256|53=>98|n=>n,λ|3=>0|4=>1|n=>n⟩
def Tryz.laysValid:Go.Proofs.Lays.n196 Tryz.prog Tryz.laysValid_ren where
 mixed:=by kernel_rfl
 f196:=Tryz.func140.trans (Wq some (by kernel_rfl));f259:=Tryz.func169.trans (Wq some (by kernel_rfl));t0:=Tryz.underlying0;a0:=Tryz.isAgg0;z0:=Tryz.sizeOf0;v0:=Tryz.zeroValue0;t3:=Tryz.underlying3;a3:=Tryz.isAgg3;z3:=Tryz.sizeOf3;v3:=Tryz.zeroValue3;t4:=Tryz.underlying4;a4:=Tryz.isAgg4;z4:=Tryz.sizeOf4;v4:=Tryz.zeroValue4;t5:=Tryz.underlying5;a5:=Tryz.isAgg5;z5:=Tryz.sizeOf5;v5:=Tryz.zeroValue5;t9:=Tryz.underlying9;a9:=Tryz.isAgg9;z9:=Tryz.sizeOf9;v9:=Tryz.zeroValue9;t12:=Tryz.underlying12;a12:=Tryz.isAgg12;z12:=Tryz.sizeOf12;v12:=Tryz.zeroValue12;t46:=Tryz.underlying110;a46:=Tryz.isAgg110;z46:=Tryz.sizeOf110;v46:=Tryz.zeroValue110;t53:=Tryz.underlying98;a53:=Tryz.isAgg98;z53:=Tryz.sizeOf98;v53:=Tryz.zeroValue98;t119:=Tryz.underlying254;a119:=Tryz.isAgg254;z119:=Tryz.sizeOf254;t138:=Tryz.underlying256;a138:=Tryz.isAgg256;z138:=Tryz.sizeOf256;v138:=Tryz.zeroValue256;t139:=Tryz.underlying257;a139:=Tryz.isAgg257;z139:=Tryz.sizeOf257;v139:=Tryz.zeroValue257;g3:=by kernel_rfl
 g4:=by kernel_rfl
def F.ah (h:ByteArray):Option Bool:=some (Lib.validD h.data.toList)
theorem o_o (h:ByteArray)(h1:h.size<=maxLen)(r:Bool)(o:F.ah h=some r):
  A.Ct Tryz.prog 140 [.string h] [(0,.el none 0 0 A.tabF),(1,.el none 1 0 A.tabA)] [] (λv H'=>v=.bool r/\H'=[]):=
 A.Ct.valid Tryz.laysValid rfl rfl rfl h h1 r o
end Go.Proofs.YtligcbdjiolamaaGreatDoor
end
section
namespace Go.A
open Go.RowKit Go.Z
def mb:Nat->Nat->List Bool
 |0,_=>[]
 |n+1,m=>Nat.beq (m%2) 1::mb n (m / 2)
def nxs:Nat->Option Code->List Kx->Option (Option Code×List Kx)
 |0,c,K=>some (c,K)
 |n+1,some (.seq x y),K=>nxs n (some x) (.c y::K)
 |n+1,some (.block id c),K=>nxs n (some c) (.b id::K)
 |n+1,some .skip,K=>nxs n none K
 |n+1,some (.label _),K=>nxs n none K
 |n+1,some (.exit id),K=>match popx id K with
  |some K'=>nxs n none K'
  |none=>none
 |n+1,none,.c y::K=>nxs n (some y) K
 |n+1,none,.b _::K=>nxs n none K
 |n+1,none,.s::K=>nxs n none K
 |_+1,_,_=>none
section
variable {r:QN}{P:QR}{Y:QG}{C:Cx}{l:QI}{H:QJ}{K K':List Kx}{c c':Code}
def GX (r:QN)(P:QR)(Y:QG)(C:Cx)(l:QI)(H:QJ):Option Code->List Kx->Prop
 |some c,K=>AX r P Y K c C l H
 |none,K=>AE r P Y K .normal C l H
def o_a5: ∀{n:Nat} {c c':Option Code} {K K':List Kx},nxs n c K=some (c',K')->GX r P Y C l H c' K'->GX r P Y C l H c K:=by
 intro n;induction n with
 |zero=>intro c c' K K' e h;injection e with e;injection e with I N;subst I;subst N;exact h
 |succ n ih=>
  intro c c' K K' e h;unfold nxs at e;split at e;injection e with e;injection e with I N;subst I;subst N;exact h
  rename_i E;cases E;exact AX.seq (ih e h);rename_i E;cases E;exact AX.block (ih e h);rename_i E;cases E;exact AX.skip (ih e h);rename_i E;cases E;exact AX.label (ih e h);rename_i E;cases E;split at e;rename_i hp;exact AX.exit hp (ih e h);cases e;rename_i E;cases E;exact AE.c (ih e h);rename_i E;cases E;exact AE.b (ih e h);rename_i E;cases E;exact AE.s (ih e h);cases e
def xx (n:Nat)(h:AX r P Y K' c' C l H)(e:nxs n (some c) K=some (some c',K'):=by rfl):AX r P Y K c C l H:=o_a5 (c:=some c) (c':=some c') e h
def xe (n:Nat)(h:AE r P Y K' .normal C l H)(e:nxs n (some c) K=some (none,K'):=by rfl):AX r P Y K c C l H:=o_a5 (c:=some c) (c':=none) e h
def ex (n:Nat)(h:AX r P Y K' c' C l H)(e:nxs n none K=some (some c',K'):=by rfl):AE r P Y K .normal C l H:=o_a5 (c:=none) (c':=some c') e h
def ee (n:Nat)(h:AE r P Y K' .normal C l H)(e:nxs n none K=some (none,K'):=by rfl):AE r P Y K .normal C l H:=o_a5 (c:=none) (c':=none) e h
def xl (n:Nat){id:Nat}{lo:QT}(h:AL r P lo.toArray (kont r P Y K') lo C l H)(e:nxs n (some c) K=some (some (.region id lo.toArray false),K'):=by rfl):AX r P Y K c C l H:=xx n (AX.reg h) e
def el (n:Nat){id:Nat}{lo:QT}(h:AL r P lo.toArray (kont r P Y K') lo C l H)(e:nxs n none K=some (some (.region id lo.toArray false),K'):=by rfl):AE r P Y K .normal C l H:=ex n (AX.reg h) e
def dl (n:Nat){ops:QU}{id:Nat}{lo:QT}(h:AL r P lo.toArray (kont r P Y K') lo C l H)(e:nxs n none K=some (some (.region id lo.toArray false),K'):=by rfl):AL r P ops (kont r P Y K) [] C l H:=AL.done (el n h e)
def dx (n:Nat){ops:QU}(h:AX r P Y K' c' C l H)(e:nxs n none K=some (some c',K'):=by rfl):AL r P ops (kont r P Y K) [] C l H:=AL.done (ex n h e)
def de (n:Nat){ops:QU}(h:AE r P Y K' .normal C l H)(e:nxs n none K=some (none,K'):=by rfl):AL r P ops (kont r P Y K) [] C l H:=AL.done (ee n h e)
end
section
variable {r:QN}{P:QR}{ops:QU}{Q:QG}{lst rest:QT}{C:Cx}{l:QI}{H:QJ}{T:QQ}{pos:String}{af:Array Edge}
def q0 (bs es:QM)(E:List Hint)(nl:QI)(h:AL r P ops Q (lst.drop E.length) C (cat nl l) H)
  (hq:((qs P ⟨knb H bs,kne H es⟩ C.n ops E lst (Z.q0 l)).bind (qfin l (nl.map Prod.fst)))=some ([],nl):=by kernel_rfl)
  (I:(qs P ⟨knb H bs,kne H es⟩ C.n ops E lst (Z.q0 l)).map (λs=>s.q.map Prod.fst)=(qs P ⟨knb H bs,kne H es⟩ C.n ops E lst (Z.q0 l)).map (λs=>s.q.map Prod.snd):=by kernel_rfl):AL r P ops Q lst C l H:=
 AL.q bs es E (nl.map Prod.fst) [] nl trivial h hq I
def q (bs es:QM)(E:List Hint)(cs:List Prop)(nl:QI)(I:conj cs)(h:AL r P ops Q (lst.drop E.length) C (cat nl l) H)
  (hq:((qs P ⟨knb H bs,kne H es⟩ C.n ops E lst (Z.q0 l)).bind (qfin l (nl.map Prod.fst)))=some (cs,nl):=by kernel_rfl)
  (N:(qs P ⟨knb H bs,kne H es⟩ C.n ops E lst (Z.q0 l)).map (λs=>s.q.map Prod.fst)=(qs P ⟨knb H bs,kne H es⟩ C.n ops E lst (Z.q0 l)).map (λs=>s.q.map Prod.snd):=by kernel_rfl):AL r P ops Q lst C l H:=
 AL.q bs es E (nl.map Prod.fst) cs nl I h hq N
def sw (k:Nat)(js:QM)(new:QL){t bt:QQ}{x y:Operand}{g o m:Nat}{cs:QL}{v:Value}(h:AL r P ops Q rest C l ((k,.blk g bt new)::ded js H))
  (E:hk H k=some (.blk g bt cs):=by rfl) (hx:ev l x=some (.pointer (some ⟨g,o,none⟩)):=by rfl) (I:ev l y=some v:=by rfl) (N:szB P t=some m:=by kernel_rfl)
  (W:v.cells=new.toArray:=by rfl) (hm:new.length=m:=by rfl) (ho:Nat.ble (o+m) cs.length=true:=by rfl) (h1:new.all (λu=>u.oneCell')=true:=by rfl) (hc:cs.take o++new++cs.drop (o+m)=new:=by rfl) (hj:hng [k] js H=true:=by kernel_rfl):
  AL r P ops Q (⟨none,.store t x y,T,pos,af,none⟩::rest) C l H:=AL.store k js h E hx I N W hm ho h1 hc hj
end
section
variable {r:QN}{P:QR}{Y:QG}{K:List Kx}{C:Cx}{l:QI}{H:QJ}
def j {l':QI}{H':QJ}{ks E:QM}{J:QI->QJ->Prop}{nl:QI}{nh:QJ}(I:J nl nh)(h1:kp l ((cat nl (kp l' ks)).map (·.1))=cat nl (kp l' ks):=by kernel_rfl)(h2:kpH H (nh.map (·.1)++E) (nh.map (·.1)++E)=hcat nh (kpH H' E E):=by kernel_rfl):
  AE r P Y (.m (St C l' H' ks E J)::K) .normal C l H:=AE.j (nh.map (·.1)++E) nl nh I h1 h2
def lp_ (ks E:QM)(J:Nat->QI->QJ->Prop){nl:QI}{nh:QJ}{x:Code}(I:J FU nl nh)
  (h: ∀f nl nh,J f nl nh->AX r P Y (.m (St C l H ks E λnl nh=>∃f',f'<f/\J f' nl nh)::K) x C (cat nl (kp l ks)) (hcat nh (kpH H E E)))
  (h1:kp l ((cat nl (kp l ks)).map (·.1))=cat nl (kp l ks):=by kernel_rfl) (h2:kpH H (nh.map (·.1)++E) (nh.map (·.1)++E)=hcat nh (kpH H E E):=by kernel_rfl):AX r P Y K (.loop x) C l H:=
 AX.loop ks E (nh.map (·.1)++E) J FU nl nh I h h1 h2
end
section
variable {r:QN}{P:QR}{ops:QU}{Q:QG}{Hq:QJ}{m g:Nat}{li:List Bool}{C:Cx}{l:QI}{H:QJ}
def hq (I:Pq Q)(gs qs bs es:QM)(li':List Bool)(f:Nat)(is:List (Nat×Hint))(nl:QI)(h:AH r P ops Q (kpH H qs qs) m f li' C (cat nl l) H)
  (N:g=f+is.length:=by rfl) (W:is.all (λp=>bon ops m p.1)=true:=by kernel_rfl) (E:cloB ops li.toArray=true:=by kernel_rfl) (hn:(Region.noSelect ops&&Qbr ops)=true:=by kernel_rfl)
  (hq:((dqs P ⟨knb (kpH H qs qs) bs,kne (kpH H qs qs) es⟩ C.n ops is li.toArray (Z.q0 l)).bind λx=>(qfin l (nl.map Prod.fst) x.2).map λy=>(x.1.toList,y))=some (li',[],nl):=by kernel_rfl)
  (he:(dqs P ⟨knb (kpH H qs qs) bs,kne (kpH H qs qs) es⟩ C.n ops is li.toArray (Z.q0 l)).map (λs=>s.2.q.map Prod.fst)=(dqs P ⟨knb (kpH H qs qs) bs,kne (kpH H qs qs) es⟩ C.n ops is li.toArray (Z.q0 l)).map (λs=>s.2.q.map Prod.snd):=by kernel_rfl)
  (e:kpH (kpH H qs qs) gs gs=Hq:=by kernel_rfl):AH r P ops Q Hq m g li C l H:=AH.q I gs qs bs es li' f is (nl.map Prod.fst) [] nl trivial h N W E hn hq he e
end
section
variable {r:QN}{P:QR}{l:QI}{H:QJ}{fn:Func}{K:List Kx}{w0:World}{S:QM}{F:Nat->Prop}{n:Nat}{R:Value->QJ->Prop}
def rt1 (ps:List (Nat×Nat)){t:Nat}{v:Value}(E:R v (A.ren H ps))(I:fn.results=#[.tmp t]:=by rfl)(N:lk l t=some v:=by rfl)(h1:nod (ps.map (·.1))=true:=by rfl)(h2:nod (ps.map (·.2))=true:=by rfl):
  AX r P (bodyPost P fn λe w'=>∃v H',e=.returned v/\R v H'/\Hp ⟨0,[],w0,S,F⟩ H' w') K .ret ⟨n,[],w0,S,F⟩ l H:=AX.ret ps v (λa w h W=>Z.resv1 I (Z.rv_t h N)) E h1 h2
def rt2 (ps:List (Nat×Nat)){t u:Nat}{v E:Value}(I:R (.tuple #[v,E]) (A.ren H ps))(N:fn.results=#[.tmp t,.tmp u]:=by rfl)(W:lk l t=some v:=by rfl)(hu:lk l u=some E:=by rfl)(h1:nod (ps.map (·.1))=true:=by rfl)(h2:nod (ps.map (·.2))=true:=by rfl):
  AX r P (bodyPost P fn λe w'=>∃v H',e=.returned v/\R v H'/\Hp ⟨0,[],w0,S,F⟩ H' w') K .ret ⟨n,[],w0,S,F⟩ l H:=AX.ret ps (.tuple #[v,E]) (λa w h hh=>Z.resv2 N (Z.rv_t h W) (Z.rv_t h hu)) I h1 h2
end
def pb {r:QN}{P:QR}{fn:Func}{R:Ending->World->Prop}{K:List Kx}:Pq (kont r P (bodyPost P fn R) K):=pk_kont (Z.Pq.body _ _ _)
section
variable {P:QR}{C:Cx}{l:QI}{H:QJ}
end
end Go.A
end
section
namespace Go.Z
open Go.RowKit
section
variable {κ:Type}[DecidableEq κ]{α:Type}
end
section
variable {r:QN}{P:QR}{ops:QU}{Q:QG}{a:Act}{w:World}{rest:QT}{n:Nat}{ds:List Deferred}{l:QI}{d:Nat}{T:QQ}{pos:String}{af:Array Edge}
variable {κ:Type}[DecidableEq κ]{enc:κ->Value}{kt et tt kt2:QQ}{t:Ty}{agg:Bool}{F:Nat->Prop}{b:Nat}{m:List (κ×t.den)}
end
end Go.Z
namespace Go.A
open Go.RowKit Go.Z
section
variable {r:QN}{P:QR}{ops:QU}{Q:QG}{rest lst:QT}{C:Cx}{l:QI}{H:QJ}{d:Nat}{op:Op}{T:QQ}{pos:String}{af:Array Edge}
variable {κ:Type}[DecidableEq κ]{enc:κ->Value}{kt et tt kt2:QQ}{t:Ty}{agg:Bool}{b:Nat}{m:List (κ×t.den)}
end
section
variable {r:QN}{P:QR}{ops:QU}{Q:QG}{rest lst:QT}{C:Cx}{l:QI}{H:QJ}{d:Nat}{op:Op}{T T2:QQ}{pos pos2:String}{af af2:Array Edge}
end
end Go.A
end
section
namespace Go.Z
open Go.RowKit
section
variable {r:QN}{P:QR}{ops:QU}{Q:QG}{a:Act}{w:World}{rest:QT}{n:Nat}{ds:List Deferred}{l:QI}{d:Nat}{T:QQ}{pos:String}{af:Array Edge}
end
end Go.Z
namespace Go.A
open Go.RowKit Go.Z
section
variable {P:QR}{a:Act}{w:World}{d:Option Tmp}{T tt ty e:QQ}{pos:String}{af:Array Edge}{n:Nat}{ds:List Deferred}{l:QI}{x y:Operand}{A:QK}
end
section
variable {C:Cx}{l:QI}{H:QJ}{X:QH}
end
section
variable {r:QN}{P:QR}{ops:QU}{Q:QG}{rest lst:QT}{C:Cx}{l:QI}{H:QJ}{d:Nat}{T:QQ}{pos:String}{af:Array Edge}
end
section
variable {r:QN}{P:QR}{ops:QU}{Q:QG}{rest lst:QT}{C:Cx}{l:QI}{H:QJ}{d:Nat}{T:QQ}{pos:String}{af:Array Edge}
end
end Go.A
end
