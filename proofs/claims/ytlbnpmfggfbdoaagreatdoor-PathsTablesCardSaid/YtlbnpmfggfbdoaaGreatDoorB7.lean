/- Functions on data, what they tell, and that the code computes them. -/
import Derived.Test.YtlbnpmfggfbdoaaGreatDoorB6
import Derived.Test.YtlbnpmfggfbdoaaGreatDoorB2
set_option linter.unusedVariables false
set_option linter.unusedSimpArgs false
set_option synthInstance.maxSize 1000000
set_option synthInstance.maxHeartbeats 400000
set_option linter.unusedSectionVars false
section
namespace Go.Proofs.YtlbnpmfggfbdoaaGreatDoor
open Go.RowKit Go.Graph
theorem mget_mem {p:Pl}: ∀{l:List Sp} {v:Int},(l.map (·.1)).Nodup→(p,v)∈l→Z.mget 0 l p=v
 | [],_,_,h=>by cases h
 |(a,w)::r,v,H,h=>by
  rw[Q4,Wn]at H
  unfold Z.mget
  rcases Qk.1 h with h|h
  ·injection h with I J;rw[if_pos I,J]
  ·rw[if_neg (fun e=>H.1 (by rw[←e];exact List.mem_map_of_mem (f:=(·.1)) h))]
   exact mget_mem H.2 h
theorem mhas_app {l:List Sp}{p:Pl}(h:p∉l.map (·.1)):Z.mhas l p=false:=by
 induction l with
 |nil=>rfl
 |cons a r H=>
  rw[Q4,Qk,not_or]at h
  obtain⟨q,v⟩:=a
  unfold Z.mhas
  rw[if_neg h.1];exact H h.2
def toOf (E:List Ed)(p:Pl):List Pl:=(E.filter fun e=>decide (e.1=p)).map fun e=>e.2.1
theorem turns_l2 (a0:(List (Int×Nd))×(List Int)×(List (Int×Int)))(S:List Sp)(E:List Ed)(hE:E.length≤4000): ∃st,(∀p,Z.mget [] st p=toOf E p)∧F.aC a0 S E A.FU [] 0=A.mrg (F.ba a0 S st) (some false) S:=by
 have main: ∀(n k f:Nat) (m:List (Pl×List Pl)),k+n=E.length→n<f→(∀p,Z.mget [] m p=toOf (E.take k) p)→∃st,(∀p,Z.mget [] st p=toOf E p)∧F.aC a0 S E f m (k:Int)=A.mrg (F.ba a0 S st) (some false) S:=by
  intro n
  induction n with
  |zero=>
   intro k f m hk J H
   obtain⟨f,rfl⟩: ∃f',f=f'+1:=⟨f-1,by omega⟩
   rw[W8 (by omega)]at H
   exact⟨m,H,by rw[F.aC,if_neg (by omega)]⟩
  |succ n O=>
   intro k f m hk J H
   obtain⟨f,rfl⟩: ∃f',f=f'+1:=⟨f-1,by omega⟩
   have I:E[k]?=some E[k]:=Qd (by omega)
   generalize E[k]=x at I
   have hlen:(Z.mget [] m x.1).length≤4000:=by
    rw[H];unfold toOf
    rw[Qw]
    have:=X5 (fun e:Ed=>decide (e.1=x.1)) (E.take k)
    rw[Qv]at this;omega
   rw[F.aC,if_pos (by omega),A.ixn I,Qa,A.gd1 (by rw[show Z.mget [] m x.1=Z.mget [] m x.1 from rfl];simp only[Qj,Qx];omega),A.gd1 (A.r64n (by omega))]
   refine O (k+1) f _ (by omega) (by omega) fun p=>?_
   rw[show Z.mins m x.1 (Z.mget [] m x.1++[x.2.1])=Z.mins m x.1 (Z.mget [] m x.1++[x.2.1])from rfl,Ux,Qcu I]
   unfold toOf
   rw[List.filter_append,Yg,Xk,List.filter_nil]
   by_cases e:p=x.1
   ·subst e
    rw[if_pos rfl,H,if_pos (decide_eq_true rfl)];rfl
   ·rw[if_neg e,H,if_neg (by simp only[decide_eq_true_eq];exact fun h=>e h.symm),Xr,Wg];rfl
 exact main E.length 0 A.FU [] (by omega) (by have:=Qab;omega) (fun p=>rfl)
theorem turns_l3 (g:List Nd)(a0:(List (Int×Nd))×(List Int)×(List (Int×Int)))(S:List Sp)(E:List Ed)(hS:S.length≤4000)(O:(S.map (·.1)).Nodup)(hE:F.bc a0 g=some E):F.aQ a0 g S A.FU [] 0=F.aC a0 S E A.FU [] 0:=
 A.lp S (fun f (m:List Sp) i=>F.aQ a0 g S f m i) (fun _ _ _=>F.aC a0 S E A.FU [] 0) (fun k m=>m=S.take k)
  (fun f m H=>by
   rw[W8 (Q1 _)]at H
   rw[F.aQ,if_neg (by omega),show F.bc a0 g=some E from hE,Qa,H])
  (fun f m k x I hk H ih=>by
   rw[F.aQ,if_pos (by omega),A.ixn I,Qa,A.gd1 (A.r64n (by omega))]
   refine ih _ ?_
   rw[show Z.mins m x.1 x.2=Z.mins m x.1 x.2 from rfl,Qdd (mhas_app ?_),H,Qcu I]
   rw[H]
   intro h
   rw[List.map_take]at h
   have J:=O
   rw[←Xg k (S.map (·.1)),Wv]at J
   refine J.2.2 _ h _ ?_ rfl
   rw[←List.map_drop,A.dropx I,Q4];exact Qg ..)
  (by have:=Qab;omega) [] (by simp)
theorem nodeAt {g:List Nd}(H:Inc g){n:Nd}(J:n∈g)(z:Nd):Z.mget z (Qac g) n.1=n∧find g n.1=(n,true):=by
 obtain⟨j,I⟩:=Wq.1 J
 exact⟨H.mget I,Qej H I⟩
theorem mem_st {g:List Nd}{d:List Int}{st:List (Pl×List Pl)}(H: ∀p,Z.mget [] st p=toOf (edges g d) p){p q:Pl}:q∈Z.mget [] st p↔∃e∈edges g d,e.1=p∧e.2.1=q:=by
 rw[H];unfold toOf
 constructor
 ·intro h
  obtain⟨e,I,J⟩:=Qt.1 h
  obtain⟨O,h4⟩:=Yn.1 I
  exact⟨e,O,of_decide_eq_true h4,J⟩
 ·rintro⟨e,I,J,O⟩
  exact Qt.2 ⟨e,Yn.2 ⟨I,decide_eq_true J⟩,O⟩
theorem nodup_S {g:List Nd}{d:List Int}(H:Inc g)(I:Own g):((spots g d).map (·.1)).Nodup:=Qcw d 0 g H fun n J=>in2 I J
theorem ok_iff {g:List Nd}{d:List Int}(hi:Inc g)(ho:Own g){dd:Int}{p q:Pl}:okE g (spots g d) (edges g d) dd p q↔(∃e∈edges g d,e.1=p∧e.2.1=q)∧dd≤Z.mget 0 (spots g d) q∧(¬blk g dd p∨p.2=2):=by
 have hN:=nodup_S (d:=d) hi ho
 have key: ∀e∈edges g d,(Qbl g (spots g d) dd e=true↔dd≤Z.mget 0 (spots g d) e.2.1∧(¬blk g dd e.1∨e.1.2=2)):=fun e he=>by
  obtain⟨v,hv⟩:=edge_to d he
  obtain⟨n,hn,H⟩:=Qib d he
  obtain⟨I,J⟩:=nodeAt hi hn ((0,0,[],(0,0,(ByteArray.mk #[])),(ByteArray.mk #[]),0,0):Nd)
  unfold Qbl blk
  rw[mget_mem hN hv,atS_mem hN hv,H,J,I,Qm,decide_eq_true_eq,Y5,Y5,decide_eq_true_eq,decide_eq_true_eq,decide_eq_true_eq]
  constructor
  ·rintro⟨a,(b|b)|b⟩
   ·exact⟨a,.inl fun h=>b h.1⟩
   ·exact⟨a,.inl fun h=>b h.2⟩
   ·exact⟨a,.inr b⟩
  ·rintro⟨a,b|b⟩
   ·by_cases c:n.2.1=14
    ·exact⟨a,.inl (.inr fun h=>b ⟨c,h⟩)⟩
    ·exact⟨a,.inl (.inl c)⟩
   ·exact⟨a,.inr b⟩
 constructor
 ·rintro⟨e,H,I,J,O⟩
  have:=(key e H).1 O
  rw[I,J]at this
  exact⟨⟨e,H,I,J⟩,this⟩
 ·rintro⟨⟨e,H,I,J⟩,O⟩
  refine⟨e,H,I,J,(key e H).2 ?_⟩
  rw[I,J];exact O
theorem rch_iff {g:List Nd}{d:List Int}{st:List (Pl×List Pl)}(hi:Inc g)(ho:Own g)(O: ∀p,Z.mget [] st p=toOf (edges g d) p){dd:Int}{a:Pl}:Rch (okP g st (spots g d) dd) a a↔Rch (okE g (spots g d) (edges g d) dd) a a:=by
 have up: ∀{p q},okP g st (spots g d) dd p q→okE g (spots g d) (edges g d) dd p q:=fun {p q} h=>
  (ok_iff hi ho).2 ⟨(mem_st O).1 h.1,h.2.2,.inl h.2.1⟩
 have down: ∀{p q},okE g (spots g d) (edges g d) dd p q→(p.2≠2∨¬blk g dd p)→okP g st (spots g d) dd p q:=fun {p q} h H=>by
  obtain⟨I,h4,h5⟩:=(ok_iff hi ho).1 h
  refine⟨(mem_st O).2 I,?_,h4⟩
  rcases H with H|H
  ·exact h5.resolve_right H
  ·exact H
 have blk_same: ∀{p q:Pl},p.1=q.1→(blk g dd p↔blk g dd q):=fun {p q} e=>by unfold blk;rw[e]
 constructor
 ·intro h
  have: ∀b,Rch (okP g st (spots g d) dd) a b→Rch (okE g (spots g d) (edges g d) dd) a b:=fun b h=>by
   induction h with
   |one h=>exact .one (up h)
   |step _ H J=>exact .step J (up H)
  exact this a h
 ·intro h
  have key: ∀b,Rch (okE g (spots g d) (edges g d) dd) a b→Rch (okP g st (spots g d) dd) a b∨(a.2=2∧blk g dd a):=fun b h=>by
   induction h with
   |one h=>
    by_cases H:a.2=2∧blk g dd a
    ·exact .inr H
    ·exact .inl (.one (down h (by
      by_cases I:a.2=2
      ·exact .inr fun h4=>H ⟨I,h4⟩
      ·exact .inl I)))
   | @step b c _ H J=>
    rcases J with J|J
    ·refine .inl (.step J (down H ?_))
     by_cases I:b.2=2
     ·refine .inr fun h4=>?_
      have hlast: ∃p,okP g st (spots g d) dd p b:=by cases J with
       |one h=>exact⟨_,h⟩
       |step _ h=>exact⟨_,h⟩
      obtain⟨p,hp⟩:=hlast
      obtain⟨e,h5,h6,h7⟩:=(mem_st O).1 hp.1
      have h8:=edge_out d ho h5 (by rw[h7];exact I)
      rw[h6,h7]at h8
      exact hp.2.1 ((blk_same h8.1).2 h4)
     ·exact .inl I
    ·exact .inr J
  rcases key a h with H|⟨H,I⟩
  ·exact H
  ·have hlast: ∃p,okE g (spots g d) (edges g d) dd p a:=by cases h with
    |one h=>exact⟨_,h⟩
    |step _ h=>exact⟨_,h⟩
   obtain⟨p,hp⟩:=hlast
   obtain⟨⟨e,h5,h6,h7⟩,_,h9⟩:=(ok_iff hi ho).1 hp
   have h8:=edge_out d ho h5 (by rw[h7];exact H)
   rw[h6,h7]at h8
   rcases h9 with h9|h9
   ·exact absurd ((blk_same h8.1).2 I) h9
   ·exact absurd h9 h8.2
theorem Qhi {g:List Nd}(I:Own g)(J:g.length≤40)(d:List Int): ∀(m k:Nat),k+m=g.length→(edgesF g d k (g.drop k)).length≤83*m
 |0,k,h=>by rw[Q0 (by omega)];exact Q1 0
 |m+1,k,h=>by
  have H:g[k]?=some g[k]:=Qd (by omega)
  generalize g[k]=x at H
  have O:=in2 I (Qf H)
  have h3:=Qay x.1 g fun x H=>in2 I H
  have h4:=Qhi I J d m (k+1) (by omega)
  rw[A.dropx H,edgesF]
  split
  ·omega
  ·rw[Ql,Ql,Qga,outE,Qw];omega
theorem Qez {g:List Nd}(H:Own g)(d:List Int): ∀(k:Nat) (l:List Nd),(∀n∈l,n∈g)→∀sp∈spotsF g d k l,0≤sp.1.2∧sp.1.2≤2
 |_,[],_,_,h=>by cases h
 |k,n::r,I,sp,h=>by
  have O:=in2 H (I n (Qg ..))
  unfold spotsF at h
  rcases Qn.1 h with h|h
  ·have:=Qdm g d n.1 0 _ sp.1 sp.2 h;omega
  ·rcases Qn.1 h with h|h
   ·unfold outS at h
    split at h
    ·rw[Qi]at h;subst h;simp
    ·cases h
   ·exact Qez H d (k+1) r (fun x J=>I x (Qe _ J)) sp h
theorem turns_same (g:List Nd)(d:List Int)(a0:(List (Int×Nd))×(List Int)×(List (Int×Int)))(h0:a0.1=Qac g)(hb:Few g)(hi:Inc g)(hfed:Fed g)(J:Own g)(hib:InB d)(hr:RelD g d a0.2.2)(hd:d.length=g.length):
  ∃b,F.b6 a0 g=some b∧(∀r5 r9,F.cm g r5 r9 (spots g d) (edges g d) A.FU 0=some (if b=true then([],[],81)else(r5.1,r9.1,0)))∧(b=true↔∃sp∈spots g d,Rch (okE g (spots g d) (edges g d) sp.2) sp.1 sp.1):=by
 have hlen:=hb.1
 have hS:(spots g d).length≤120:=by
  have:=Qbv J d g.length 0 (by omega);rw[Q7]at this;unfold spots;omega
 have hE:(edges g d).length≤4000:=by
  have:=Qhi J hlen d g.length 0 (by omega);rw[Q7]at this;unfold edges;omega
 have hN:=nodup_S (d:=d) hi J
 have hok: ∀sp∈spots g d,SpOk g sp:=by
  have:=o_a0 (d:=d) (g:=g) hib g.length 0 (by omega);rw[Q7]at this;exact this
 obtain⟨st,O,hl2⟩:=turns_l2 a0 (spots g d) (edges g d) hE
 have hto: ∀p q,q∈Z.mget [] st p→q∈(edges g d).map fun e=>e.2.1:=fun p q h=>by
  obtain⟨e,H,_,h3⟩:=(mem_st O).1 h
  exact Qt.2 ⟨e,H,h3⟩
 have htl: ∀p,(Z.mget [] st p).length≤4000:=fun p=>by
  rw[O];unfold toOf;rw[Qw]
  exact Wj (X5 _ _) hE
 have hval: ∀sp∈spots g d,∃b,F.bd a0 st (spots g d) sp.1 sp.2=some b∧F.ev g (spots g d) (edges g d) sp=some b∧(b=true↔Rch (okE g (spots g d) (edges g d) sp.2) sp.1 sp.1):=fun sp I=>by
  obtain⟨b,H,h2⟩:=reaches_eq g a0 h0 st (spots g d) sp.1 sp.2 ((edges g d).map fun e=>e.2.1) (by rw[Qw];exact hE) hto htl (by rw[mget_mem hN (p:=sp.1) (v:=sp.2) I];exact Xl _)
  obtain⟨b',h3,h4⟩:=round_eq g (spots g d) (edges g d) sp hb hi (by omega) hE (fun e he=>Qib d he)
  refine⟨b,H,?_,h2.trans (rch_iff hi J O)⟩
  rw[h3];congr 1
  rw[Y4,h4,h2]
  exact(rch_iff hi J O).symm
 let p:Sp→Bool:=fun sp=>(F.bd a0 st (spots g d) sp.1 sp.2).getD false
 have hp: ∀sp∈spots g d,(p sp=true↔Rch (okE g (spots g d) (edges g d) sp.2) sp.1 sp.1):=fun sp I=>by
  obtain⟨b,H,_,h3⟩:=hval sp I
  rw[show p sp=b from congrArg (fun o=>Option.getD o false) H];exact h3
 refine⟨(spots g d).any p,?_,fun r5 r9=>?_,?_⟩
 ·unfold F.b6
  rw[show F.bD a0 g=_ from Qgu g d a0 hb hfed J hr,Qa,turns_l3 g a0 (spots g d) (edges g d) (by omega) hN (Qgq g d a0 hb hfed J hib hr),hl2]
  have:=A.mrg_any (body:=F.ba a0 (spots g d) st) (rest:=some false) (y:=true) (p:=p) (l:=spots g d) fun sp I=>by
   obtain⟨b,H,_,_⟩:=hval sp I
   obtain⟨⟨j,n,hn,hid⟩,hdd⟩:=hok sp I
   have hng:=Qf hn
   have hids:=own_id (J n hng)
   have hport:0≤sp.1.2∧sp.1.2≤2:=Qez J d 0 g (fun n hn=>hn) sp I
   unfold F.ba
   have hh:decide (A.h6 sp.1.1)=true∧decide (A.h6 sp.1.2)=true:=⟨decide_eq_true (J3 ⟨by omega,by omega⟩),decide_eq_true (J3 ⟨by omega,by omega⟩)⟩
   rw[A.gd1 hh,show F.bd a0 st (spots g d) sp.1 sp.2=_ from H,Qa,show p sp=b from congrArg (fun o=>Option.getD o false) H]
  rw[this]
  cases (spots g d).any p<;>rfl
 ·have loop:=A.lp0 (spots g d) (fun f y=>F.cm g r5 r9 (spots g d) (edges g d) f y) (fun _ t=>some (if t.any p=true then([],[],81)else(r5.1,r9.1,0)))
   (fun f=>by rw[F.cm,if_neg (by omega)];rfl)
   (fun f k x hx hk ih=>by
    obtain⟨b,H,h2,_⟩:=hval x (Qf hx)
    rw[F.cm,if_pos (by omega),A.ixn hx,Qa,show F.ev g (spots g d) (edges g d) x=_ from h2,Qa,X6,show p x=b from congrArg (fun o=>Option.getD o false) H]
    cases b with
    |true=>rfl
    |false=>rw[if_neg Wo,A.gd1 (A.r64n (by omega)),ih,Xv])
   (by have:=Qab;omega)
  exact loop
 ·rw[Y0]
  exact⟨fun⟨sp,H,h2⟩=>⟨sp,H,(hp sp H).1 h2⟩,fun⟨sp,H,h2⟩=>⟨sp,H,(hp sp H).2 h2⟩⟩
theorem own_of {g:List Nd}(h:okL g 0 0 g=true):Own g:=fun n I=>by
 obtain⟨j,J⟩:=Wq.1 I
 have H:=Qiw g g.length 0 (by omega)
 rw[Q7,show lastOf g 0=0 from rfl]at H
 have:=H.1 h j n (by omega) J
 cases hq:ownQ n with
 |true=>rfl
 |false=>exact absurd (.inr (.inl hq)) this
theorem Qey (g:List Nd): ∀(r:Nat) (done:List Bool) (l l':List Int),Qap g r done l=some l'→Plc g l→Plc g l'
 |0,done,l,l',h,hp=>by injection h with h;subst h;exact hp
 |r+1,done,l,l',h,hp=>by
  rw[Qap]at h
  by_cases I:Qad g done 0 g (-1)<0
  ·rw[if_pos I]at h;cases h
  ·rw[if_neg I]at h
   by_cases J:g.length=0
   ·have:=Qdi g done 0 g (-1) (by omega)
    have e:g=[]:=Wp J
    subst e
    simp[Qad]at I
   ·have O:=Qdi g done 0 g (-1) (by omega) (by omega)
    refine Qey g r _ _ l' h fun i p H=>?_
    rw[List.getElem?_append]at H
    split at H
    ·exact hp i p H
    ·rename_i hil
     have:i-l.length=0:=by
      have:=(Qc.1 H).1
      simp only[Qj,Qx]at this;omega
     rw[this]at H
     injection H with H
     subst H
     exact⟨(Qad g done 0 g (-1)).toNat,g[(Qad g done 0 g (-1)).toNat]'(by omega),by omega,Qd (by omega)⟩
structure Whole (g:List Nd) (l d:List Int) (dm:List (Int×Int)):Prop where
 inc:Inc g
 fed:Fed g
 own:Own g
 rel:RelD g d dm
 inb:InB d
 dlen:d.length=g.length
 key:KeyD g l dm
 plc:Plc g l
 llen:l.length=g.length
 ord:Qap g g.length (List.replicate g.length false) []=some l
 dep:Qal g l (List.replicate g.length 0)=some d
 lps:Qbd g d g=true
 nort: ∀sp∈spots g d,¬Rch (okE g (spots g d) (edges g d) sp.2) sp.1 sp.1
 kin:g.all (fun n=>n.2.2.1.all (inOk g))=true
 okr:okR g 0 g=true
 chk:g.all (fun n=>decide (chk n.2.1 n.2.2.2.1=0))=true
 l32:g.length≤32
theorem whole_same (g:List Nd)(hb:Few g):
  (∃e,e≠0∧F.cu g=some (none,e)∧F.ew g=some ([],[],e))∨
  (∃l d dm,F.cu g=some (some (Qac g,l.map (idAt g),dm),0)∧F.ew g=some (l,d,0)∧Whole g l d dm):=by
 rw[whole_P g hb]
 unfold F.ew
 rw[parts_eq g hb,ok_eq]
 by_cases O:(32:Int)<(g.length:Int)
 ·rw[if_pos O,if_pos O]
  exact .inl ⟨80,by decide,rfl,rfl⟩
 rw[if_neg O,if_neg O]
 by_cases H:okR g 0 g=true
 case neg=>rw[if_neg H,if_neg H];exact .inl ⟨80,by decide,rfl,rfl⟩
 rw[if_pos H,if_pos H]
 by_cases J:g.all (fun n=>decide (chk n.2.1 n.2.2.2.1=0))=true
 case neg=>rw[if_neg J,if_neg J];exact .inl ⟨60,by decide,rfl,rfl⟩
 rw[if_pos J,if_pos J]
 by_cases I:g.all (fun n=>n.2.2.1.all (inOk g))=true
 case neg=>rw[if_neg I,if_neg I];exact .inl ⟨80,by decide,rfl,rfl⟩
 rw[if_pos I,if_pos I,Qa,if_neg (by decide)]
 have hi:=ok_inc H
 have hfed:=fed_of I
 have ho:=own_of (by rw[ok_eq];exact H)
 have hlen:=hb.1
 unfold sortP
 rcases order_sort hb hi hfed (Qac g)with⟨l,h1,h2,h3,h4⟩|⟨h1,p,h2⟩
 case inr=>rw[h1,h2];exact .inl ⟨81,by decide,rfl,rfl⟩
 rw[h1,h2]
 simp only[Qa,Xw,Qy,if_false]
 have hplc:Plc g l:=Qey g g.length _ [] l h4 fun i p h=>by cases h
 rcases Qiq g l hb hi hfed ho (by omega) hplc with⟨d,dm,d1,d2,d3,d4,d5,d6,d7,d8⟩|⟨d1,p,d2⟩
 case inr=>rw[d1,d2];exact .inl ⟨80,by decide,rfl,rfl⟩
 rw[d1,d2]
 simp only[Qa,Xw,Qy,if_false]
 obtain⟨b,t1,t2,t3⟩:=turns_same g d (Qac g,l.map (idAt g),dm) rfl hb hi hfed ho d4 d3 d5
 rw[t1,Qic g d hb hfed ho d5]
 simp only[Qa]
 rw[Qgo g d hb hi ho d4]
 simp only[Qa,t2]
 cases b with
 |true=>exact .inl ⟨81,by decide,rfl,rfl⟩
 |false=>exact .inr ⟨l,d,dm,rfl,rfl,hi,hfed,ho,d3,d4,d5,d6,hplc,h3,h4,d8,d7,fun sp h1 h2=>Bool.noConfusion (t3.2 ⟨sp,h1,h2⟩),I,H,J,by omega⟩
theorem Qdy (a b:Int):F.aK a b=some (if a<b then-1 else if b<a then 1 else 0):=by
 unfold F.aK F.dr
 simp only[Qa,ne_eq,not_true_eq_false,decide_false,Qy,if_false]
 split
 ·rfl
 ·split<;>rfl
def orF:List Int→Int
 | []=>0
 |x::r=>if x≠0 then x else orF r
theorem Or_eq (l:List Int)(J:l.length≤100):F.cQ l=some (orF l):=by
 have loop:=A.lp0 l (fun f y=>F.cq l f y) (fun _ t=>some (orF t)) (fun f=>by rw[F.cq,if_neg (by omega)];rfl)
  (fun f k x H hk I=>by
   rw[F.cq,if_pos (by omega),A.ixn H,Qa,orF]
   by_cases h:x≠0
   ·rw[if_pos h,if_pos h]
   ·rw[if_neg h,if_neg h,A.gd1 (A.r64n (by omega)),I])
  (by have:=Qab;omega)
 exact loop
def cmpI (a b:Int):Int:=if a<b then-1 else if b<a then 1 else 0
def cmpP (p q:Pl):Int:=orF [cmpI p.1 q.1,cmpI p.2 q.2]
def cmpE (x y:Ed):Int:=orF [cmpP x.1 y.1,cmpP x.2.1 y.2.1]
theorem place_eq (p q:Pl):F.dy p q=some (cmpP p q):=by
 unfold F.dy
 rw[Qdy,Qa,Qdy,Qa,Or_eq _ (by simp),Qa];rfl
theorem Edges1_eq (x y:Ed):F.bz x y=some (cmpE x y):=by
 unfold F.bz
 rw[place_eq,Qa,place_eq,Qa,Or_eq _ (by simp),Qa];rfl
def ltP (p q:Pl):Prop:=p.1<q.1∨p.1=q.1∧p.2<q.2
def ltE (x y:Ed):Prop:=ltP x.1 y.1∨x.1=y.1∧ltP x.2.1 y.2.1
theorem Qis {a b:Int}(h:a<b):cmpI b a=1:=by unfold cmpI;rw[if_neg (by omega),if_pos h]
theorem Qbx (a:Int):cmpI a a=0:=by unfold cmpI;rw[if_neg (by omega),if_neg (by omega)]
theorem cmpP_lt {p q:Pl}(h:ltP p q):cmpP q p=1:=by
 unfold cmpP
 rcases h with h|⟨H,I⟩
 ·rw[Qis h];rfl
 ·rw[H,Qbx,Qis I];rfl
theorem cmpP_self (p:Pl):cmpP p p=0:=by
 unfold cmpP;rw[Qbx,Qbx];rfl
theorem cmpE_lt {x y:Ed}(h:ltE x y):cmpE y x=1:=by
 unfold cmpE
 rcases h with h|⟨H,I⟩
 ·rw[cmpP_lt h];rfl
 ·rw[H,cmpP_self,cmpP_lt I];rfl
def Od (l:List Ed):Prop:=l.Pairwise ltE
theorem Od.cmp {l:List Ed}(h:Od l){i j:Nat}(H:i<j)(I:j<l.length): ∃x y,l[i]?=some x∧l[j]?=some y∧cmpE y x=1:=by
 refine⟨l[i],l[j],Qd (by omega),Qd I,cmpE_lt ?_⟩
 exact X0.1 h i j (by omega) I H
theorem Od.less {l:List Ed}(h:Od l){i j:Nat}(H:i<j)(I:j<l.length){β:Type}(K:Int→Option β):
  ((A.ix l (j:Int)).bind fun y=>(A.ix l (i:Int)).bind fun x=>(F.bz y x).bind K)=K 1:=by
 obtain⟨x,y,J,O,h3⟩:=h.cmp H I
 rw[A.ixn O,Qa,A.ixn J,Qa,Edges1_eq,Qa,h3]
theorem ins_l2 {l:List Ed}(h:Od l)(O:l.length≤1000000)(H:Int→Option Unit)(a j:Nat)(J:j<l.length)(f:Nat):
  F.u H l (a:Int) (j:Int) (f+1)=H ((j:Int)+1):=by
 have e:F.k H l (j:Int) false=H ((j:Int)+1):=by
  unfold F.k
  rw[if_neg (by simp),A.gd1 (A.r64n (by omega))]
 rw[F.u]
 by_cases I:(a:Int)<(j:Int)
 ·rw[if_pos I,A.gd1 ⟨by omega,by omega⟩]
  obtain⟨i,rfl⟩: ∃i:Nat,j=i+1:=⟨j-1,by omega⟩
  rw[show(((i+1:Nat):Int)-1)=(i:Int) by omega]
  exact(h.less (i:=i) (j:=i+1) (by omega) J _).trans e
 ·rw[if_neg I];exact e
theorem ins_l3 {l:List Ed}(h:Od l)(H:l.length≤1000000)(a b:Nat)(O:b≤l.length): ∀(n j f:Nat),b≤j+n→n<f→
  F.e l (a:Int) (b:Int) f (j:Int)=some ()
 |n,j,0,hn,I=>absurd I (by omega)
 |n,j,f+1,hn,I=>by
  rw[F.e]
  by_cases J:(j:Int)<(b:Int)
  ·rw[if_pos J]
   obtain⟨m,hm⟩: ∃m,A.FU=m+1:=⟨A.FU-1,by have:=Qab;omega⟩
   rw[hm,ins_l2 h H _ a j (by omega) m]
   exact ins_l3 h H a b O (n-1) (j+1) f (by omega) (by omega)
  ·rw[if_neg J]
theorem ins_eq {l:List Ed}(h:Od l)(H:l.length≤1000000)(a b:Nat)(J:a≤l.length)(I:b≤l.length):F.m l (a:Int) (b:Int)=some ():=by
 unfold F.m
 rw[A.gd1 (A.r64n (by omega))]
 exact ins_l3 h H a b I b (a+1) A.FU (by omega) (by have:=Qab;omega)
theorem half (a b:Nat)(h:a+b≤100000000):IntKind.u64.wrap ((a:Int)+(b:Int)) / 2^((1:Int)).toNat=(((a+b) / 2:Nat):Int):=by
 rw[Z.u64_in _ (by omega)]
 show((a:Int)+(b:Int)) / 2=_
 omega
theorem r64h (a b:Nat)(h:a+b≤100000000):Z.R64 ((a:Int)+(b:Int))∧(0≤(1:Int)∧(1:Int)≤64)∧Z.R64 ((((a+b) / 2:Nat):Int)):=⟨⟨by omega,by omega⟩,⟨by omega,by omega⟩,⟨by omega,by omega⟩⟩
theorem r64i {x:Int}(h:0≤x∧x≤1000000000):Z.R64 x:=⟨by omega,by omega⟩
theorem sym_l1 (l:List Ed)(a m f:Nat)(H:a+1=m)(I:m≤1000000):F.y l (a:Int) (m:Int) (f+1)=some ():=by
 rw[F.y,A.gd1 (r64i (by omega)),if_neg (by omega)]
theorem sym_l2 {l:List Ed}(h:Od l)(O:l.length≤1000000)(a m:Nat)(H:a+1=m): ∀(n j f:Nat),m≤j→j≤l.length→j≤m+n→n<f→
  F.g l (a:Int) f (m:Int) (j:Int)=some ()
 |n,j,0,hm,hj,hn,I=>absurd I (by omega)
 |n,j,f+1,hm,hj,hn,I=>by
  rw[F.g]
  by_cases J:(m:Int)<(j:Int)
  ·rw[if_pos J,half m j (by omega),A.gd1 (r64h m j (by omega))]
   refine(h.less (i:=a) (j:=(m+j) / 2) (by omega) (by omega) _).trans ?_
   show(if(1:Int)<0 then _ else _)=_
   rw[if_neg (by decide)]
   exact sym_l2 h O a m H (n-1) ((m+j) / 2) f (by omega) (by omega) (by omega) (by omega)
  ·obtain⟨q,hq⟩: ∃q,A.FU=q+1:=⟨A.FU-1,by have:=Qab;omega⟩
   rw[if_neg J,hq,sym_l1 l a m q H (by omega)]
theorem sym_l4 {l:List Ed}(h:Od l)(O:l.length≤1000000)(m:Nat)(H:m<l.length): ∀(n i f:Nat),i≤m→m≤i+n→n<f→
  F.h l (m:Int) f (i:Int) (m:Int)=some ()
 |n,i,0,hi,hn,I=>absurd I (by omega)
 |n,i,f+1,hi,hn,I=>by
  rw[F.h]
  by_cases J:(i:Int)<(m:Int)
  ·rw[if_pos J,half i m (by omega),A.gd1 (r64h i m (by omega))]
   refine(h.less (i:=(i+m) / 2) (j:=m) (by omega) H _).trans ?_
   show(if(!decide ((1:Int)<0))=true then _ else _)=_
   rw[if_pos (by decide),A.gd1 (A.r64n (by omega))]
   exact sym_l4 h O m H (n-1) ((i+m) / 2+1) f (by omega) (by omega) (by omega)
  ·obtain⟨q,hq⟩: ∃q,A.FU=q+1:=⟨A.FU-1,by have:=Qab;omega⟩
   obtain rfl:i=m:=by omega
   rw[if_neg J,hq,F.al,if_neg (by omega)]
theorem sym_l6 {l:List Ed}(h:Od l)(J:l.length≤1000000)(rc:List Ed→Int→Int→Int→Option Unit)(a m b mid r s:Nat)(hmid:(a+b) / 2=mid)(O:a≤1000000)(hb:b≤1000000)(hr:r≤1000000)(hm:m≤1000000)
  (hp: ∀c,s≤c→c<r→c<mid+m-1-c∧mid+m-1-c<l.length) (H:F.b l (a:Int) (m:Int) (b:Int) rc 1 (r:Int) (r:Int)=some ()): ∀(n c f:Nat),s≤c→c≤r→r≤c+n→n<f→
  F.b l (a:Int) (m:Int) (b:Int) rc f (c:Int) (r:Int)=some ()
 |n,c,0,hs,hi,hn,I=>absurd I (by omega)
 |n,c,f+1,hs,hi,hn,I=>by
  by_cases hc:c<r
  ·obtain⟨p1,p2⟩:=hp ((c+r) / 2) (by omega) (by omega)
   rw[F.b,if_pos (by omega),half c r (by omega),half a b (by omega),hmid,A.gd1 (r64h c r (by omega)),show((((mid:Nat):Int)+(m:Int))-1)-(((c+r) / 2:Nat):Int)=((mid+m-1-(c+r) / 2:Nat):Int) by omega,A.gd1 (r64i (by omega))]
   refine(h.less (i:=(c+r) / 2) (j:=mid+m-1-(c+r) / 2) p1 p2 _).trans ?_
   show(if(!decide ((1:Int)<0))=true then _ else _)=_
   rw[if_pos (by decide),A.gd1 (A.r64n (by omega))]
   exact sym_l6 h J rc a m b mid r s hmid O hb hr hm hp H (n-1) ((c+r) / 2+1) f (by omega) (by omega) (by omega) (by omega)
  ·obtain rfl:c=r:=by omega
   rw[F.b,if_neg (by omega)]at H ⊢
   exact H
theorem sym_eq {l:List Ed}(h:Od l)(H:l.length≤1000000): ∀(n f a m b:Nat),a<m→m<b→b≤l.length→b≤a+n→n<f→
  F.c f l (a:Int) (m:Int) (b:Int)=some ()
 |n,0,a,m,b,J,O,I,hn,hf=>absurd hf (by omega)
 |n,f+1,a,m,b,J,O,I,hn,hf=>by
  have hFU:=Qab
  rw[F.c,F.au,A.gd1 (r64i (by omega))]
  by_cases c1:(m:Int)-(a:Int)=1
  ·rw[if_pos c1]
   exact sym_l2 h H a m (by omega) b b A.FU (by omega) I (by omega) (by omega)
  rw[if_neg c1,A.gd1 (r64i (by omega))]
  by_cases c2:(b:Int)-(m:Int)=1
  ·rw[if_pos c2]
   exact sym_l4 h H m (by omega) m a A.FU (by omega) (by omega) (by omega)
  rw[if_neg c2,half a b (by omega),A.gd1 (r64h a b (by omega)),A.gd1 (r64i (by omega))]
  generalize hmid:(a+b) / 2=mid
  by_cases c3:(mid:Int)<(m:Int)
  ·rw[if_pos c3,A.gd1 (r64i (by omega)),F.n,half a b (by omega),hmid,A.gd1 (r64i (by omega)),show(mid:Int)+(m:Int)-(b:Int)=((mid+m-b:Nat):Int) by omega]
   refine sym_l6 h H (F.c f) a m b mid mid (mid+m-b) hmid (by omega) (by omega) (by omega) (by omega) (fun c g1 g2=>⟨by omega,by omega⟩) ?_ mid (mid+m-b) A.FU (by omega) (by omega) (by omega) (by omega)
   rw[F.b,if_neg (by omega),half a b (by omega),hmid,A.gd1 (r64i (by omega)),show(mid:Int)+(m:Int)-(mid:Int)=(m:Int) by omega,A.ba,A.ba,if_neg (by rw[decide_eq_true_iff];omega),if_neg (by rw[decide_eq_true_iff];omega),F.i,half a b (by omega),hmid,show(mid:Int)+(m:Int)-(mid:Int)=(m:Int) by omega,A.ba,if_pos (by rw[decide_eq_true_iff];omega),sym_eq h H (n-1) f mid m b (by omega) O I (by omega) (by omega),Qa]
  ·rw[if_neg c3,F.n,half a b (by omega),hmid,A.gd1 (r64i (by omega))]
   refine sym_l6 h H (F.c f) a m b mid m a hmid (by omega) (by omega) (by omega) (by omega) (fun c g1 g2=>⟨by omega,by omega⟩) ?_ m a A.FU (by omega) (by omega) (by omega) (by omega)
   have e5:F.i l (a:Int) (m:Int) (b:Int) (F.c f) (m:Int)=some ():=by
    rw[F.i,half a b (by omega),hmid,A.ba,if_neg (by rw[decide_eq_true_iff];omega)]
   rw[F.b,if_neg (by omega),half a b (by omega),hmid,A.gd1 (r64i (by omega)),A.ba,A.ba,if_neg (by rw[decide_eq_true_iff];omega),e5]
   by_cases c4:(m:Int)<(mid:Int)
   ·rw[if_pos (by rw[decide_eq_true_iff];omega),sym_eq h H (n-1) f a m mid J (by omega) (by omega) (by omega) (by omega),Qa]
   ·rw[if_neg (by rw[decide_eq_true_iff];omega)]
theorem stb_l2 {l:List Ed}(h:Od l)(H:l.length≤1000000)(k12:Int→Option Unit)(s:Nat)(hs:0<s)(I:s<l.length)(hk:k12 ((s*2:Nat):Int)=some ()): ∀(n a f:Nat),l.length≤a+n→n<f→a≤l.length→
  F.r k12 l (l.length:Int) (s:Int) f (a:Int) ((a+2*s:Nat):Int)=some ()
 |n,a,0,hn,J,ha=>absurd J (by omega)
 |n,a,f+1,hn,J,ha=>by
  have hFU:=Qab
  have e1:F.q k12 (s:Int)=some ():=by
   rw[F.q,A.gd1 (r64i (by omega)),show(s:Int)*2=((s*2:Nat):Int) by omega,hk]
  rw[F.r]
  by_cases O:((a+2*s:Nat):Int)≤(l.length:Int)
  ·rw[if_pos O,A.gd1 (r64i (by omega)),show(a:Int)+(s:Int)=((a+s:Nat):Int) by omega,sym_eq h H l.length A.FU a (a+s) (a+2*s) (by omega) (by omega) (by omega) (by omega) (by omega),Qa,A.gd1 ⟨r64i (by omega),r64i (by omega)⟩,show((a+2*s:Nat):Int)+2*(s:Int)=((a+2*s+2*s:Nat):Int) by omega]
   exact stb_l2 h H k12 s hs I hk (n-1) (a+2*s) f (by omega) (by omega) (by omega)
  ·rw[if_neg O,A.gd1 (r64i (by omega)),show(a:Int)+(s:Int)=((a+s:Nat):Int) by omega]
   by_cases h2:((a+s:Nat):Int)<(l.length:Int)
   ·rw[if_pos h2,sym_eq h H l.length A.FU a (a+s) l.length (by omega) (by omega) (by omega) (by omega) (by omega),Qa,e1]
   ·rw[if_neg h2,e1]
theorem stb_l3 {l:List Ed}(h:Od l)(H:l.length≤1000000): ∀(n s f:Nat),0<s→l.length≤s+n→n<f→
  F.f l (l.length:Int) f (s:Int)=some ()
 |n,s,0,I,hn,J=>absurd J (by omega)
 |n,s,f+1,I,hn,J=>by
  have hFU:=Qab
  rw[F.f]
  by_cases O:(s:Int)<(l.length:Int)
  ·rw[if_pos O,A.gd1 (r64i (by omega)),show 2*(s:Int)=((0+2*s:Nat):Int) by omega]
   exact stb_l2 h H _ s I (by omega) (stb_l3 h H (n-1) (s*2) f (by omega) (by omega) (by omega)) l.length 0 A.FU (by omega) (by omega) (by omega)
  ·rw[if_neg O]
theorem stb_l4 {l:List Ed}(h:Od l)(H:l.length≤1000000): ∀(n a f:Nat),l.length≤a+n→n<f→a≤l.length→
  F.s l (l.length:Int) f (a:Int) ((a+20:Nat):Int)=some ()
 |n,a,0,O,I,ha=>absurd I (by omega)
 |n,a,f+1,O,I,ha=>by
  have hFU:=Qab
  rw[F.s]
  by_cases J:((a+20:Nat):Int)≤(l.length:Int)
  ·rw[if_pos J,ins_eq h H a (a+20) (by omega) (by omega),Qa,A.gd1 (r64i (by omega)),show((a+20:Nat):Int)+20=((a+20+20:Nat):Int) by omega]
   exact stb_l4 h H (n-1) (a+20) f (by omega) (by omega) (by omega)
  ·rw[if_neg J,ins_eq h H a l.length (by omega) (by omega),Qa]
   exact stb_l3 h H l.length 20 A.FU (by omega) (by omega) (by omega)
theorem sorted_eq {l:List Ed}(h:Od l)(H:l.length≤1000000):F.v l=some ():=by
 unfold F.v F.ay
 have hFU:=Qab
 have e:=stb_l4 h H l.length 0 A.FU (by omega) (by omega) (by omega)
 rw[show(20:Int)=((0+20:Nat):Int) by rfl,show(0:Int)=((0:Nat):Int) by rfl,e];rfl
theorem useN_memO (id nd:Int): ∀(k:Nat) (l:List Int) (u:Pl),u∈useN id nd k l→u.1=nd∧(k:Int)≤u.2
 |_,[],u,h=>by cases h
 |k,z::r,u,h=>by
  unfold useN at h
  split at h
  ·rcases Qk.1 h with rfl|h
   ·exact⟨rfl,Xl _⟩
   ·have:=useN_memO id nd (k+1) r u h;exact⟨this.1,by have:=this.2;omega⟩
  ·have:=useN_memO id nd (k+1) r u h;exact⟨this.1,by have:=this.2;omega⟩
theorem Qik (id nd:Int): ∀(k:Nat) (l:List Int),(useN id nd k l).Pairwise ltP
 |_,[]=>List.Pairwise.nil
 |k,z::r=>by
  unfold useN
  split
  ·refine Wk.2 ⟨fun u h=>?_,Qik id nd (k+1) r⟩
   have:=useN_memO id nd (k+1) r u h
   exact .inr ⟨this.1.symm,by have:=this.2;show(k:Int)<u.2;omega⟩
  ·exact Qik id nd (k+1) r
theorem Qel (id:Int): ∀(l:List Nd) (u:Pl),u∈Qar id l→∃n∈l,u.1=n.1
 | [],u,h=>by cases h
 |n::r,u,h=>by
  unfold Qar at h
  rcases Qn.1 h with h|h
  ·exact⟨n,Qg ..,(useN_memO id n.1 0 n.2.2.1 u h).1⟩
  ·obtain⟨m,H,I⟩:=Qel id r u h;exact⟨m,Qe _ H,I⟩
theorem usesF_od (id:Int): ∀(l:List Nd),Inc l→(Qar id l).Pairwise ltP
 | [],_=>List.Pairwise.nil
 |n::r,h=>by
  have h':=Wk.1 h
  unfold Qar
  refine Yy.2 ⟨Qik id n.1 0 n.2.2.1,usesF_od id r h'.2,fun a H b I=>.inl ?_⟩
  obtain⟨m,J,O⟩:=Qel id r b I
  rw[(useN_memO id n.1 0 n.2.2.1 a H).1,O];exact h'.1 m J
theorem Qde (g:List Nd)(d:List Int)(n:Nd): ∀(k:Nat) (l:List Int) (e:Ed),e∈inE g d n k l→e.1.1=n.1∧(k:Int)≤e.1.2∧e.1.2<(k:Int)+l.length
 |_,[],e,h=>by cases h
 |k,z::r,e,h=>by
  unfold inE at h
  rcases Qk.1 h with rfl|h
  ·refine⟨rfl,Xl _,?_⟩
   rw[Qj];show(k:Int)<_;omega
  ·have:=Qde g d n (k+1) r e h
   rw[Qj]
   exact⟨this.1,by omega,by omega⟩
theorem inE_od (g:List Nd)(d:List Int)(n:Nd): ∀(k:Nat) (l:List Int),(inE g d n k l).Pairwise ltE
 |_,[]=>List.Pairwise.nil
 |k,z::r=>by
  unfold inE
  refine Wk.2 ⟨fun e h=>.inl (.inr ?_),inE_od g d n (k+1) r⟩
  have:=Qde g d n (k+1) r e h
  exact⟨this.1.symm,by show(k:Int)<e.1.2;omega⟩
theorem Qbo (g:List Nd)(d:List Int): ∀(i:Nat) (l:List Nd) (e:Ed),e∈edgesF g d i l→∃n∈l,e.1.1=n.1
 |_,[],e,h=>by cases h
 |i,n::r,e,h=>by
  unfold edgesF at h
  split at h
  ·obtain⟨m,H,I⟩:=Qbo g d (i+1) r e h;exact⟨m,Qe _ H,I⟩
  ·rcases Qn.1 h with h|h
   ·exact⟨n,Qg ..,(Qde g d n 0 n.2.2.1 e h).1⟩
   ·rcases Qn.1 h with h|h
    ·unfold outE at h
     obtain⟨u,_,rfl⟩:=Qt.1 h
     exact⟨n,Qg ..,rfl⟩
    ·obtain⟨m,H,I⟩:=Qbo g d (i+1) r e h;exact⟨m,Qe _ H,I⟩
theorem Qhk (g:List Nd)(d:List Int)(O:Inc g): ∀(i:Nat) (l:List Nd),Inc l→(∀n∈l,n.2.2.1.length≤2)→Od (edgesF g d i l)
 |_,[],_,_=>List.Pairwise.nil
 |i,n::r,h,h2=>by
  have h':=Wk.1 h
  have ih:=Qhk g d O (i+1) r h'.2 fun m hm=>h2 m (Qe _ hm)
  have hn2:=h2 n (Qg ..)
  unfold edgesF
  split
  ·exact ih
  ·have later: ∀(a:Ed),a.1.1=n.1→∀b,b∈edgesF g d (i+1) r→ltE a b:=fun a I b H=>by
    obtain⟨m,h3,h4⟩:=Qbo g d (i+1) r b H
    exact .inl (.inl (by rw[I,h4];exact h'.1 m h3))
   have out: ∀b,b∈outE g n (iget d (i:Int))→b.1=(n.1,2):=fun b H=>by
    unfold outE at H;obtain⟨u,_,rfl⟩:=Qt.1 H;rfl
   refine Yy.2 ⟨inE_od g d n 0 n.2.2.1,Yy.2 ⟨?_,ih,fun a I b H=>later a (by rw[out a I]) b H⟩,fun a I b H=>?_⟩
   ·unfold outE
    exact Ja.2 ((usesF_od n.1 g O).imp fun {a b} J=>.inr ⟨rfl,J⟩)
   ·have ha':=Qde g d n 0 n.2.2.1 a I
    rcases Qn.1 H with H|H
    ·rw[ltE,out b H]
     exact .inl (.inr ⟨ha'.1,by show a.1.2<2;omega⟩)
    ·exact later a ha'.1 b H
theorem Qff (g:List Nd)(d:List Int): ∀(i:Nat) (l:List Nd),g.length≤100→(∀n∈g,n.2.2.1.length≤2)→(∀n∈l,n.2.2.1.length≤2)→(edgesF g d i l).length≤300*l.length
 |_,[],_,_,_=>Xo _
 |i,n::r,J,H,I=>by
  have ih:=Qff g d (i+1) r J H fun m O=>I m (Qe _ O)
  have hn:=I n (Qg ..)
  have hu:=Qay n.1 g H
  unfold edgesF
  rw[Qj]
  split
  ·omega
  ·rw[Ql,Ql,Qga,outE,Qw];omega
theorem Qeo (g:List Nd)(done:List Bool): ∀(r:List Nd) (i:Nat) (a:Int),0≤Qad g done i r a→(0≤a∧Qad g done i r a=a)∨(∃j:Nat,Qad g done i r a=(j:Int)∧j<i+r.length∧bget done (j:Int)=false)
 | [],i,a,h=>.inl ⟨h,rfl⟩
 |x::r,i,a,h=>by
  unfold Qad at h ⊢
  rcases Qeo g done r (i+1) _ h with⟨I,H⟩|⟨j,I,H,O⟩
  ·by_cases J:(a<0∧bget done i=false)∧ready g done x=true
   ·rw[if_pos J]at H ⊢
    exact .inr ⟨i,H,by simp only[Qj];omega,J.1.2⟩
   ·rw[if_neg J]at I H ⊢
    exact .inl ⟨I,H⟩
  ·exact .inr ⟨j,I,by simp only[Qj];omega,O⟩
theorem Qfj (l:List Bool)(j k:Nat)(H:j<l.length):bget (l.set j true) (k:Int)=if j=k then true else bget l (k:Int):=by
 unfold bget
 rw[Qr,Y9]
 by_cases h:j=k
 ·subst h;simp[H]
 ·rw[if_neg h,if_neg h]
theorem Qed (g:List Nd): ∀(r:Nat) (done:List Bool) (acc l:List Int),Qap g r done acc=some l→done.length=g.length→acc.Nodup→(∀p∈acc,∃j:Nat,p=(j:Int)∧bget done (j:Int)=true)→l.Nodup
 |0,done,acc,l,h,_,H,_=>by unfold Qap at h;injection h with h;subst h;exact H
 |r+1,done,acc,l,h,hd,H,J=>by
  unfold Qap at h
  split at h
  ·cases h
  ·rename_i h0
   rcases Qeo g done g 0 (-1) (by omega)with⟨O,_⟩|⟨j,O,h2,h3⟩
   ·omega
   ·rw[O,Qr]at h
    refine Qed g r _ _ l h (by rw[Wr];exact hd) ?_ fun p hp=>?_
    ·rw[Wv]
     refine⟨H,by simp,fun a ha' b hb=>?_⟩
     rw[Qi]at hb
     obtain⟨i,e,I⟩:=J a ha'
     intro e2
     rw[e,hb]at e2
     have:i=j:=by omega
     subst this
     rw[I]at h3;cases h3
    ·rcases Qn.1 hp with hp|hp
     ·obtain⟨i,e,I⟩:=J p hp
      exact⟨i,e,by rw[Qfj _ _ _ (by omega)];split<;>first|rfl|exact I⟩
     ·rw[Qi]at hp
      exact⟨j,hp,by rw[Qfj _ _ _ (by omega),if_pos rfl]⟩
theorem Whole.all {g:List Nd}{l d:List Int}{dm:List (Int×Int)}(W:Whole g l d dm){j:Nat}(I:j<g.length):(j:Int)∈l:=by
 have J:=Qed g _ _ [] l W.ord (by simp) (by simp) (by simp)
 by_cases h:(j:Int)∈l
 ·exact h
 ·exfalso
  have O:=nodup_len (l:=(j:Int)::l) (m:=(List.range g.length).map Int.ofNat) (Wn.2 ⟨h,J⟩) fun x H=>by
   rcases Qk.1 H with rfl|H
   ·exact Qt.2 ⟨j,Xj.2 I,rfl⟩
   ·obtain⟨i,hi,e⟩:=Xh H
    obtain⟨k,n,e2,hk⟩:=W.plc i x (by rw[Qd hi,e])
    exact Qt.2 ⟨k,Xj.2 (Qc.1 hk).1,e2.symm⟩
  rw[Qj,Qw,X3,W.llen]at O
  omega
theorem o_bb (g:List Nd)(done:List Bool): ∀(r k:Nat) (a:Int),k+r=g.length→0≤Qad g done k (g.drop k) a→(0≤a∧Qad g done k (g.drop k) a=a)∨∃(j:Nat) (n:Nd),Qad g done k (g.drop k) a=(j:Int)∧g[j]?=some n∧bget done (j:Int)=false∧ready g done n=true
 |0,k,a,hk,h=>by rw[Q0 (by omega)]at h ⊢;exact .inl ⟨h,rfl⟩
 |r+1,k,a,hk,h=>by
  have O:g[k]?=some g[k]:=Qd (by omega)
  rw[firstF_x O]at h ⊢
  rcases o_bb g done r (k+1) _ (by omega) h with⟨H,I⟩|H
  ·by_cases J:(a<0∧bget done k=false)∧ready g done g[k]=true
   ·rw[if_pos J]at I ⊢;exact .inr ⟨k,g[k],I,O,J.1.2,J.2⟩
   ·rw[if_neg J]at H I ⊢;exact .inl ⟨H,I⟩
  ·exact .inr H
theorem Qes (g:List Nd)(done:List Bool)(kd:Int): ∀l:List Int,Qdu g done kd l=true↔(kd≠14→∀k∈l,bget done (idx g k)=true)
 | []=>⟨fun _ _ k hk=>(by cases hk),fun _=>rfl⟩
 |k::r=>by
  unfold Qdu
  by_cases h:kd≠14∧bget done (idx g k)=false
  ·rw[if_pos h]
   refine⟨fun h=>(by cases h),fun H=>?_⟩
   have:=H h.1 k (Qg ..)
   rw[h.2]at this;cases this
  ·rw[if_neg h,Qes g done kd r]
   refine⟨fun H J x I=>?_,fun H J x I=>H J x (Qe _ I)⟩
   rcases Qk.1 I with rfl|I
   ·cases O:bget done (idx g x)with
    |true=>rfl
    |false=>exact absurd ⟨J,O⟩ h
   ·exact H J x I
def OrdOk (g:List Nd)(l:List Int):Prop:=∀(i:Nat) (p:Int),l[i]?=some p→∃(j:Nat) (n:Nd),p=(j:Int)∧g[j]?=some n∧(n.2.1≠14→∀k∈n.2.2.1,idx g k∈l.take i)
structure Syn (g:List Nd) (done:List Bool) (l:List Int):Prop where
 len:done.length=g.length
 nod:l.Nodup
 syn: ∀j:Nat,j<g.length→(bget done (j:Int)=true↔(j:Int)∈l)
 ord:OrdOk g l
theorem Syn.zero (g:List Nd):Syn g (List.replicate g.length false) []:=by
 refine⟨by simp,Xu,fun j H=>?_,fun i p h=>by cases h⟩
 unfold bget
 rw[Qr,Xb,if_pos H];simp
theorem Syn.step {g:List Nd}{done:List Bool}{l:List Int}(h:Syn g done l)(hf:Fed g){j:Nat}{n:Nd}(hn:g[j]?=some n)(hb:bget done (j:Int)=false)(hr:ready g done n=true):Syn g (done.set j true) (l++[(j:Int)]):=by
 have hj:=(Qc.1 hn).1
 have hnl:(j:Int)∉l:=fun hm=>by rw[(h.syn j hj).2 hm]at hb;cases hb
 refine⟨by rw[Wr];exact h.len,?_,fun i hi=>?_,fun i p hp=>?_⟩
 ·rw[Wv]
  refine⟨h.nod,by simp,fun a ha b J=>?_⟩
  rw[Qi]at J
  intro e;rw[e,J]at ha;exact hnl ha
 ·rw[Qfj _ _ _ (by rw[h.len];exact hj),Qn,Qi]
  by_cases e:j=i
  ·subst e;simp
  ·rw[if_neg e,h.syn i hi]
   exact⟨.inl,fun h2=>h2.elim (fun I=>I) (fun I=>absurd I (by omega))⟩
 ·by_cases hil:i<l.length
  ·rw[Q8 hil]at hp
   obtain⟨k,m,e1,e2,e3⟩:=h.ord i p hp
   refine⟨k,m,e1,e2,fun H x O=>?_⟩
   rw[X1 (by omega)];exact e3 H x O
  ·have hi2:i=l.length:=by
    have:=(Qc.1 hp).1
    simp only[Ql,Qj,Qx]at this;omega
   subst hi2
   rw[Wf (Q1 _),Nat.sub_self]at hp
   injection hp with hp
   refine⟨j,n,hp.symm,hn,fun H x O=>?_⟩
   rw[List.take_left]
   have h0:=hf n (Qf hn) x O
   obtain⟨m,e1,_,_⟩:=idx_get h0
   have h2:=(Qes g done n.2.1 n.2.2.1).1 hr H x O
   have I:=(h.syn _ (Qc.1 e1).1)
   rw[W5 h0]at I
   exact I.1 h2
theorem Qgx (g:List Nd)(H:Fed g): ∀(r:Nat) (done:List Bool) (l l':List Int),Syn g done l→Qap g r done l=some l'→∃done',Syn g done' l'
 |0,done,l,l',h,e=>by unfold Qap at e;injection e with e;subst e;exact⟨done,h⟩
 |r+1,done,l,l',h,e=>by
  unfold Qap at e
  split at e
  ·cases e
  ·rename_i h0
   have hk:=o_bb g done g.length 0 (-1) (by omega) (by rw[Q7];omega)
   rw[Q7]at hk
   rcases hk with⟨I,_⟩|⟨j,n,I,J,O,h4⟩
   ·omega
   ·rw[I,Qr]at e
    exact Qgx g H r _ _ l' (h.step H J O h4) e
theorem Whole.syn {g:List Nd}{l d:List Int}{dm:List (Int×Int)}(W:Whole g l d dm): ∃done,Syn g done l:=Qgx g W.fed _ _ _ l (Syn.zero g) W.ord
def dOf (g:List Nd)(d:List Int)(k:Int):Int:=iget d (idx g k)
theorem depthOf_14 {n:Nd}(h:n.2.1=14)(a b:List Int):depthOf n a=depthOf n b:=by unfold depthOf Qcv;rw[if_pos h,if_pos h]
theorem inc_idx {g:List Nd}(H:Inc g){j:Nat}{n:Nd}(I:g[j]?=some n):idx g n.1=(j:Int):=H.idx I
theorem Qfh (d:List Int)(j k:Nat)(v:Int)(H:j<d.length):iget (d.set j v) (k:Int)=if j=k then v else iget d (k:Int):=by
 unfold iget
 rw[Qr,Y9]
 by_cases h:j=k
 ·subst h;simp[H]
 ·rw[if_neg h,if_neg h]
theorem at_nat {g:List Nd}{j:Nat}{n:Nd}(H:g[j]?=some n):at_ g (j:Int)=n:=Qav rfl H
theorem Qeq {g:List Nd}{l:List Int}(hf:Fed g)(ho:OrdOk g l)(O:l.Nodup): ∀(r k:Nat) (d d':List Int),k+r=l.length→d.length=g.length→Qal g (l.drop k) d=some d'→d'.length=g.length∧(∀j:Nat,(j:Int)∈l.take k→iget d' (j:Int)=iget d (j:Int))∧∀(i:Nat) (j:Nat) (n:Nd),k≤i→l[i]?=some (j:Int)→g[j]?=some n→iget d' (j:Int)=depthOf n (n.2.2.1.map (dOf g d'))∧0≤iget d' (j:Int)
 |0,k,d,d',hk,hd,h=>by
  rw[Q0 (by omega)]at h
  injection h with h;subst h
  exact⟨hd,fun j _=>rfl,fun i j n hi I _=>by have:=(Qc.1 I).1;omega⟩
 |r+1,k,d,d',hk,hd,h=>by
  have J:l[k]?=some l[k]:=Qd (by omega)
  obtain⟨j,n,e1,hn,hin⟩:=ho k _ J
  have hj:=(Qc.1 hn).1
  rw[depthsF_x (n:=n) J (by rw[e1];exact at_nat hn)]at h
  split at h
  ·cases h
  rename_i h0
  rw[e1,Qr]at h
  obtain⟨a1,a2,a3⟩:=Qeq hf ho O r (k+1) _ d' (by omega) (by rw[Wr];exact hd) h
  have hjt:(j:Int)∈l.take (k+1):=by rw[Qcu J,e1];simp
  have hjk:(j:Int)∉l.take k:=fun hm=>by
   have h3:=O
   rw[←Xg k l,Wv]at h3
   refine h3.2.2 _ hm (j:Int) ?_ rfl
   rw[A.dropx J,e1];simp
  have keep: ∀i:Nat,(i:Int)∈l.take k→iget d' (i:Int)=iget d (i:Int):=fun i hi=>by
   rw[a2 i (by rw[Qcu J];exact Q6 _ hi),Qfh _ _ _ _ (by omega),if_neg (fun e=>hjk (by rw[e];exact hi))]
  have hjv:iget d' (j:Int)=depthOf n (n.2.2.1.map (dOf g d')):=by
   rw[a2 j hjt,Qfh _ _ _ _ (by omega),if_pos rfl]
   by_cases h14:n.2.1=14
   ·exact depthOf_14 h14 _ _
   ·congr 1
    refine List.map_congr_left fun x hx2=>?_
    have h4:=hin h14 x hx2
    have h5:=hf n (Qf hn) x hx2
    unfold dOf
    have h6:=keep (idx g x).toNat
    rw[W5 h5]at h6
    exact(h6 h4).symm
  have hj0:0≤iget d' (j:Int):=by
   rw[a2 j hjt,Qfh _ _ _ _ (by omega),if_pos rfl];omega
  refine⟨a1,keep,fun i j2 n2 hi I H=>?_⟩
  by_cases hik:i=k
  ·subst hik
   rw[J,e1]at I;injection I with I
   have:j=j2:=by omega
   subst this
   rw[hn]at H;injection H with H;subst H
   exact⟨hjv,hj0⟩
  ·exact a3 i j2 n2 (by omega) I H
theorem Whole.fix {g:List Nd}{l d:List Int}{dm:List (Int×Int)}(W:Whole g l d dm){n:Nd}(J:n∈g):dOf g d n.1=depthOf n (n.2.2.1.map (dOf g d))∧0≤dOf g d n.1:=by
 obtain⟨done,S⟩:=W.syn
 obtain⟨j,H,e⟩:=Xh J
 have I:g[j]?=some n:=by rw[Qd H,e]
 obtain⟨i,O,e2⟩:=Xh (W.all H)
 have h:=Qeq W.fed S.ord S.nod l.length 0 (List.replicate g.length 0) d (by omega) (by simp) (by rw[Q7];exact W.dep)
 have:=h.2.2 i j n (Xo _) (by rw[Qd O,e2]) I
 unfold dOf
 rw[inc_idx W.inc I];exact this
def F.ca (a:Int×Int×Int×Int×(Int×Int×Int×Int)):Option Int:=(F.z a).bind fun r=>if r≠0 then some 0 else some (a.2.1+a.2.2.2.1)
theorem Qfo (g:List Nd)(d:List Int)(id:Int): ∀(k:Nat) (l:List Int) (j:Nat) (z:Int),l[j]?=some z→((id,((k+j:Nat):Int)),iget d (idx g z))∈insS g d id k l
 |_,[],j,z,h=>by simp at h
 |k,y::r,j,z,h=>by
  unfold insS
  cases j with
  |zero=>simp at h;subst h;exact Qg ..
  |succ j=>
   have:=Qfo g d id (k+1) r j z (by simpa using h)
   rw[show k+1+j=k+(j+1) by omega]at this
   exact Qe _ this
theorem spotsF_outP {g:List Nd}(d:List Int): ∀(i:Nat) (l:List Nd) (j:Nat) (n:Nd),l[j]?=some n→n.2.1≠15→((n.1,2),iget d ((i+j:Nat):Int))∈spotsF g d i l
 |_,[],j,n,h,_=>by simp at h
 |i,m::r,j,n,h,H=>by
  unfold spotsF
  cases j with
  |zero=>
   simp at h;subst h
   exact Q9 _ (Q6 _ (by unfold outS;rw[if_pos H];exact Xd _))
  |succ j=>
   have:=spotsF_outP (g:=g) d (i+1) r j n (by simpa using h) H
   rw[show i+1+j=i+(j+1) by omega]at this
   exact Q9 _ (Q9 _ this)
theorem useN_inv (id nd:Int): ∀(k:Nat) (l:List Int) (u:Pl),u∈useN id nd k l→∃j:Nat,u=(nd,((k+j:Nat):Int))∧l[j]?=some id
 |_,[],u,h=>by cases h
 |k,z::r,u,h=>by
  have go:u∈useN id nd (k+1) r→∃j:Nat,u=(nd,((k+j:Nat):Int))∧(z::r)[j]?=some id:=fun h=>by
   obtain⟨j,H,I⟩:=useN_inv id nd (k+1) r u h
   exact⟨j+1,by rw[H,show k+1+j=k+(j+1) by omega],by simpa using I⟩
  unfold useN at h
  split at h
  ·rename_i J
   rcases Qk.1 h with rfl|h
   ·exact⟨0,rfl,by rw[←J];rfl⟩
   ·exact go h
  ·exact go h
theorem Qhy (id:Int): ∀(l:List Nd) (u:Pl),u∈Qar id l→∃n∈l,∃j:Nat,u=(n.1,(j:Int))∧n.2.2.1[j]?=some id
 | [],u,h=>by cases h
 |n::r,u,h=>by
  unfold Qar at h
  rcases Qn.1 h with h|h
  ·obtain⟨j,H,I⟩:=useN_inv id n.1 0 n.2.2.1 u h
   rw[Wh]at H
   exact⟨n,Qg ..,j,H,I⟩
  ·obtain⟨m,H,I⟩:=Qhy id r u h
   exact⟨m,Qe _ H,I⟩
theorem Qiu (g:List Nd)(d:List Int)(n:Nd): ∀(k:Nat) (l:List Int) (e:Ed),e∈inE g d n k l→∃(j:Nat) (z:Int),l[j]?=some z∧e=((n.1,((k+j:Nat):Int)),(n.1,2),Qaj n (iget d (idx g z)))
 |_,[],e,h=>by cases h
 |k,z::r,e,h=>by
  unfold inE at h
  rcases Qk.1 h with rfl|h
  ·exact⟨0,z,rfl,rfl⟩
  ·obtain⟨j,y,H,I⟩:=Qiu g d n (k+1) r e h
   exact⟨j+1,y,by simpa using H,by rw[I,show k+1+j=k+(j+1) by omega]⟩
theorem Qcn {g:List Nd}(d:List Int): ∀(i:Nat) (l:List Nd) (e:Ed),e∈edgesF g d i l→∃(j:Nat) (n:Nd),l[j]?=some n∧n.2.1≠15∧(e∈inE g d n 0 n.2.2.1∨e∈outE g n (iget d ((i+j:Nat):Int)))
 |_,[],e,h=>by cases h
 |i,n::r,e,h=>by
  have go:e∈edgesF g d (i+1) r→∃(j:Nat) (m:Nd),(n::r)[j]?=some m∧m.2.1≠15∧(e∈inE g d m 0 m.2.2.1∨e∈outE g m (iget d ((i+j:Nat):Int))):=fun h=>by
   obtain⟨j,m,J,O,I⟩:=Qcn d (i+1) r e h
   rw[show i+1+j=i+(j+1) by omega]at I
   exact⟨j+1,m,by simpa using J,O,I⟩
  unfold edgesF at h
  split at h
  ·exact go h
  ·rename_i H
   rcases Qn.1 h with h|h
   ·exact⟨0,n,rfl,H,.inl h⟩
   ·rcases Qn.1 h with h|h
    ·exact⟨0,n,rfl,H,.inr h⟩
    ·exact go h
theorem EndsId (d:Int)(H:0≤d∧d≤4):(idP d).1.1=d∧F.ca (idP d).1=some d:=five (P:=fun d=>(idP d).1.1=d∧F.ca (idP d).1=some d) ⟨rfl,by kernel_rfl⟩ ⟨rfl,by kernel_rfl⟩ ⟨rfl,by kernel_rfl⟩ ⟨rfl,by kernel_rfl⟩ ⟨rfl,by kernel_rfl⟩ d H
theorem Qhu (d:Int)(H:0≤d∧d≤4):d≤3→(Qaq d).1.1=d∧F.ca (Qaq d).1=some (d+1):=five (P:=fun d=>d≤3→(Qaq d).1.1=d∧F.ca (Qaq d).1=some (d+1)) (fun _=>⟨rfl,by kernel_rfl⟩) (fun _=>⟨rfl,by kernel_rfl⟩) (fun _=>⟨rfl,by kernel_rfl⟩) (fun _=>⟨rfl,by kernel_rfl⟩) (fun h=>absurd h (by decide)) d H
theorem Qia (d:Int)(H:0≤d∧d≤4):1≤d→(Qas d).1.1=d∧F.ca (Qas d).1=some (d-1):=five (P:=fun d=>1≤d→(Qas d).1.1=d∧F.ca (Qas d).1=some (d-1)) (fun h=>absurd h (by decide)) (fun _=>⟨rfl,by kernel_rfl⟩) (fun _=>⟨rfl,by kernel_rfl⟩) (fun _=>⟨rfl,by kernel_rfl⟩) (fun _=>⟨rfl,by kernel_rfl⟩) d H
theorem EndsNext (d:Int)(H:0≤d∧d≤4):1≤d→(Qch d).1.1=d∧F.ca (Qch d).1=some d:=five (P:=fun d=>1≤d→(Qch d).1.1=d∧F.ca (Qch d).1=some d) (fun h=>absurd h (by decide)) (fun _=>⟨rfl,by kernel_rfl⟩) (fun _=>⟨rfl,by kernel_rfl⟩) (fun _=>⟨rfl,by kernel_rfl⟩) (fun _=>⟨rfl,by kernel_rfl⟩) d H
theorem within_ends {n:Nd}{L:List Int}{x:Int}{j:Nat}(O:L[j]?=some x)(hq:ownQ n=true)(hlen:L.length=n.2.2.1.length)(h15:n.2.1≠15)(H:0≤depthOf n L)(hx:0≤x∧x≤4)(h14:n.2.1=14→x=n.2.2.2.2.2.2∧1≤x):
  (Qaj n x).1=x∧F.ca (Qaj n x)=some (depthOf n L):=by
 have hj:=(Qc.1 O).1
 have hin:=own_ins hq
 have hl:=own_len hq
 unfold depthOf capd Qcv at H ⊢
 unfold Qaj
 have one:n.2.1≠5→n.2.1≠9→d0 L=x:=fun a b=>by
  have J:L.length=1:=by rcases hl with h|h|h<;>omega
  obtain⟨y,rfl⟩: ∃y,L=[y]:=by
   cases L with
   |nil=>simp at J
   |cons y r=>cases r with
    |nil=>exact⟨y,rfl⟩
    |cons _ _=>simp at J
  obtain rfl:j=0:=by simp at hj;exact hj
  simp at O;subst O;rfl
 by_cases c14:n.2.1=14
 ·obtain⟨e1,e2⟩:=h14 c14
  rw[if_neg (by omega),if_neg (by omega),if_pos c14,if_pos c14,←e1,if_neg (by omega)]
  exact EndsNext x hx e2
 rw[if_neg c14]at H
 rw[if_neg c14,if_neg c14]
 by_cases c12:n.2.1=12
 ·rw[if_pos c12,one (by omega) (by omega)]at H ⊢
  rw[if_pos c12]
  have h3:x≤3:=by split at H<;>omega
  rw[if_neg (by omega)]
  exact Qhu x hx h3
 rw[if_neg c12]at H ⊢
 rw[if_neg c12]
 by_cases c13:n.2.1=13
 ·rw[if_pos c13,one (by omega) (by omega)]at H ⊢
  rw[if_pos c13]
  have h3:1≤x:=by split at H<;>omega
  rw[if_neg (by omega)]
  exact Qia x hx h3
 rw[if_neg c13]at H ⊢
 rw[if_neg c13]
 suffices h:(if 4<(if n.2.1=5∨n.2.1=9 then(if iget L 0≠iget L 1 then-1 else d0 L)else if n.2.1=11∨n.2.1=16∨n.2.1=15 then(if d0 L≠0 then-1 else d0 L)else d0 L)then-1 else(if n.2.1=5∨n.2.1=9 then(if iget L 0≠iget L 1 then-1 else d0 L)else if n.2.1=11∨n.2.1=16∨n.2.1=15 then(if d0 L≠0 then-1 else d0 L)else d0 L))=x by
  rw[h];exact EndsId x hx
 by_cases c59:n.2.1=5∨n.2.1=9
 ·rw[if_pos c59]at H ⊢
  have J:L.length=2:=by rcases hl with h|h|h<;>omega
  obtain⟨y,z,rfl⟩: ∃y z,L=[y,z]:=by
   cases L with
   |nil=>simp at J
   |cons y r=>cases r with
    |nil=>simp at J
    |cons z r=>cases r with
     |nil=>exact⟨y,z,rfl⟩
     |cons _ _=>simp at J
  have e0:iget [y,z] 0=y:=rfl
  have e1:iget [y,z] 1=z:=rfl
  have e2:d0 [y,z]=y:=rfl
  rw[e0,e1,e2]at H ⊢
  by_cases I:y≠z
  ·rw[if_pos I]at H;rw[if_neg (by omega)]at H;omega
  ·rw[if_neg I]at H ⊢
   have I:y=z:=Wc I
   subst I
   have hxy:y=x:=by
    rcases Y2 j 1 with hj1|hj1
    ·obtain rfl:j=0:=by omega
     simpa using O
    ·obtain rfl:j=1:=by simp at hj;omega
     simpa using O
   subst hxy
   rw[if_neg (by omega)]
 ·rw[if_neg c59,one (by omega) (by omega)]at H ⊢
  by_cases c:n.2.1=11∨n.2.1=16∨n.2.1=15
  ·rw[if_pos c]at H ⊢
   by_cases hx0:x≠0
   ·rw[if_pos hx0]at H;rw[if_neg (by omega)]at H;omega
   ·rw[if_neg hx0,if_neg (by omega)]
  ·rw[if_neg c,if_neg (by omega)]
theorem own_c {n:Nd}(h:ownQ n=true): ¬ownC n:=fun H=>by
 unfold ownQ at h
 split at h
 ·cases h
 ·first|cases h|(rw[if_pos H]at h;cases h)
def RT {α:Type}(R:α→α→Prop)(a b:α):Prop:=a=b∨Rch R a b
structure Kd (s:Sm) (a b:Int) (up:Prop):Prop where
 from_:s.1=a
 ends:s.2.1+s.2.2.2.1=b
 kept:(s.2.1=a∧a≤b)∨(s.2.1=b∧b=a-1∧s.2.2.1=0)
 add0:0≤s.2.2.1
 addU:up→s.2.1=a∧s.2.2.1=1
theorem kd_id {x b:Int}(H:0≤x∧x≤4)(h:F.ca (idP x).1=some b){up:Prop}(I: ¬up):Kd (idP x).1 x b up:=by
 have J:=EndsId x H
 rw[J.2]at h
 obtain rfl:=Qp h
 have e:idP x=((x,x,0,0,(0,0,0,0)),0):=by unfold idP Qbk;rw[if_neg (by omega)]
 rw[e]
 exact⟨rfl,by show x+0=x;omega,.inl ⟨rfl,Xl _⟩,Xl _,fun h=>absurd h I⟩
theorem kd_enter {x b:Int}(I:0≤x∧x≤4)(H:(Qaq x).1.1=x)(h:F.ca (Qaq x).1=some b){up:Prop}(J: ¬up):Kd (Qaq x).1 x b up:=by
 have O:x≤3:=by
  by_cases h4:x≤3
  ·exact h4
  ·have e:Qaq x=(z8,11):=by unfold Qaq Qbk;rw[if_pos (.inr (by omega))]
   rw[e]at H
   have:(0:Int)=x:=H
   omega
 have h2:=Qhu x I O
 rw[h2.2]at h
 obtain rfl:=Qp h
 have e:Qaq x=((x,x,0,1,(0,0,0,0)),0):=by unfold Qaq Qbk;rw[if_neg (by omega)]
 rw[e]
 exact⟨rfl,rfl,.inl ⟨rfl,by omega⟩,Xl _,fun h=>absurd h J⟩
theorem kd_leave {x b:Int}(I:0≤x∧x≤4)(H:1≤x)(h:F.ca (Qas x).1=some b){up:Prop}(J: ¬up):Kd (Qas x).1 x b up:=by
 have O:=Qia x I H
 rw[O.2]at h
 obtain rfl:=Qp h
 have e:Qas x=((x,x-1,0,0,(0,0,0,0)),0):=by unfold Qas Qbk;rw[if_neg (by omega)]
 rw[e]
 exact⟨rfl,by show x-1+0=x-1;omega,.inr ⟨rfl,rfl,rfl⟩,Xl _,fun h=>absurd h J⟩
theorem kd_next {x b:Int}(I:0≤x∧x≤4)(H:1≤x)(h:F.ca (Qch x).1=some b){up:Prop}:Kd (Qch x).1 x b up:=by
 have J:=EndsNext x I H
 rw[J.2]at h
 obtain rfl:=Qp h
 have e:Qch x=((x,x,1,0,(0,0,0,0)),0):=by unfold Qch Qbk;rw[if_neg (by omega)]
 rw[e]
 exact⟨rfl,by show x+0=x;omega,.inl ⟨rfl,Xl _⟩,by show(0:Int)≤1;omega,fun _=>⟨rfl,rfl⟩⟩
theorem node_one {g:List Nd}(I:Inc g){n m:Nd}(J:n∈g)(O:m∈g)(h:m.1=n.1):m=n:=by
 have h1:=(nodeAt I J ((0,0,[],(0,0,(ByteArray.mk #[])),(ByteArray.mk #[]),0,0):Nd)).2
 have H:=(nodeAt I O ((0,0,[],(0,0,(ByteArray.mk #[])),(ByteArray.mk #[]),0,0):Nd)).2
 rw[h,h1]at H
 injection H with H
 exact H.symm
theorem edge_kd {g:List Nd}{l d:List Int}{dm:List (Int×Int)}(W:Whole g l d dm){e:Ed}(he:e∈edges g d):
  ∃a b,(e.1,a)∈spots g d∧(e.2.1,b)∈spots g d∧Kd e.2.2 a b ((∃n∈g,n.1=e.1.1∧n.2.1=14)∧e.1.2≠2)∧∀n∈g,n.1=e.1.1→n.2.1=14→e.1.2≠2→a=n.2.2.2.2.2.2:=by
 obtain⟨j,n,hn,h15,h|h⟩:=Qcn d 0 g e he
 ·obtain⟨k,z,hz,rfl⟩:=Qiu g d n 0 n.2.2.1 e h
  have hng:=Qf hn
  have hfix:=W.fix hng
  have hidx:=W.inc.idx hn
  have h14x:n.2.1=14→iget d (idx g z)=n.2.2.2.2.2.2∧1≤iget d (idx g z):=fun I=>by
   have hl:=W.lps
   rw[Qbh,Xq]at hl
   have O:=X2.1 hl n hng
   rw[decide_eq_true_iff,not_and]at O
   have h2:=Classical.not_not.1 (O I)
   have hlen:=own_len (W.own n hng)
   have hk:=(Qc.1 hz).1
   obtain rfl:k=0:=by omega
   have hz0:iget n.2.2.1 0=z:=by unfold iget;show(n.2.2.1[0]?).getD 0=z;rw[hz];rfl
   rw[hz0]at h2
   refine⟨h2,?_⟩
   have hc:=own_c (W.own n hng)
   unfold ownC at hc
   rw[h2];omega
  have hw:=within_ends (n:=n) (L:=n.2.2.1.map (dOf g d)) (x:=iget d (idx g z)) (j:=k) (by rw[Qu,hz];rfl) (W.own n hng) (by rw[Qw]) h15 (by rw[←hfix.1];exact hfix.2) (W.inb _) h14x
  obtain⟨J,H⟩:=hw
  rw[←hfix.1,dOf,hidx]at H
  refine⟨iget d (idx g z),iget d ((0+j:Nat):Int),Qax d 0 g n hng _ (Qfo g d n.1 0 n.2.2.1 k z hz),spotsF_outP d 0 g j n hn h15,?_,fun m hm hmn I _=>?_⟩
  ·rw[Wh j]
   show Kd (Qaj n (iget d (idx g z))) _ _ _
   have up14:((∃m∈g,m.1=n.1∧m.2.1=14)∧((0+k:Nat):Int)≠2)→n.2.1=14:=fun⟨⟨m,hm,O,h2⟩,_⟩=>by rw[←node_one W.inc hng hm O];exact h2
   unfold Qaj at J H ⊢
   by_cases h12:n.2.1=12
   ·rw[if_pos h12]at J H ⊢
    exact kd_enter (W.inb _) J H fun hu=>by have:=up14 hu;omega
   rw[if_neg h12]at J H ⊢
   by_cases h13:n.2.1=13
   ·rw[if_pos h13]at J H ⊢
    have hx1:1≤iget d (idx g z):=by
     by_cases O:1≤iget d (idx g z)
     ·exact O
     ·have e:Qas (iget d (idx g z))=(z8,11):=by unfold Qas Qbk;rw[if_pos (.inl (by omega))]
      have h0:=hfix.2
      have hlen:=own_len (W.own n hng)
      have hk:=(Qc.1 hz).1
      obtain rfl:k=0:=by omega
      have hd0:d0 (n.2.2.1.map (dOf g d))=iget d (idx g z):=by
       rw[←Qif];unfold iget;show((n.2.2.1.map (dOf g d))[0]?).getD 0=_;rw[Qu,hz];rfl
      have hx:=W.inb (idx g z)
      rw[hfix.1]at h0
      unfold depthOf Qcv capd at h0
      rw[if_neg (by omega),if_neg h12,if_pos h13,hd0]at h0
      split at h0<;>omega
    exact kd_leave (W.inb _) hx1 H fun hu=>by have:=up14 hu;omega
   rw[if_neg h13]at J H ⊢
   by_cases I:n.2.1=14
   ·rw[if_pos I]at J H ⊢
    exact kd_next (W.inb _) (h14x I).2 H
   ·rw[if_neg I]at J H ⊢
    exact kd_id (W.inb _) H fun hu=>I (up14 hu)
  ·obtain rfl:=node_one W.inc hng hm hmn
   exact(h14x I).1
 ·unfold outE at h
  obtain⟨u,hu,rfl⟩:=Qt.1 h
  obtain⟨m,hm,k,rfl,hk⟩:=Qhy n.1 g u hu
  have hidx:=W.inc.idx hn
  have O:=Qfo g d m.1 0 m.2.2.1 k n.1 hk
  rw[hidx,Wh]at O
  have h2:=spotsF_outP (g:=g) d 0 g j n hn h15
  rw[Wh]at h2 ⊢
  have h3:=EndsId (iget d (j:Int)) (W.inb _)
  exact⟨iget d (j:Int),iget d (j:Int),h2,Qax d 0 g m hm _ O,kd_id (W.inb _) h3.2 fun hu=>hu.2 rfl,fun _ _ _ _ h=>absurd rfl h⟩
abbrev Dp (g:List Nd) (d:List Int) (p:Pl):Int:=Z.mget 0 (spots g d) p
def okW (g:List Nd)(d:List Int)(m:Int)(p q:Pl):Prop:=∃e∈edges g d,e.1=p∧e.2.1=q∧m≤Dp g d p∧m≤Dp g d q
structure Wy0 (g:List Nd) (d:List Int) (p0 pk:Pl) (s:Sm):Prop where
 from_:s.1=Dp g d p0
 ends:s.2.1+s.2.2.2.1=Dp g d pk
 low:s.2.1≤Dp g d p0∧s.2.1≤Dp g d pk
 add0:0≤s.2.2.1
 way:RT (okW g d s.2.1) p0 pk
 turn:1≤s.2.2.1∨∃q,(q,s.2.1)∈spots g d∧RT (okE g (spots g d) (edges g d) s.2.1) p0 q∧RT (okE g (spots g d) (edges g d) s.2.1) q pk
structure Wy (g:List Nd) (d:List Int) (p0 pk:Pl) (s:Sm):Prop where
 weak:Wy0 g d p0 pk s
 turn:1≤s.2.2.1∨∃q,(q,s.2.1)∈spots g d∧RT (okE g (spots g d) (edges g d) s.2.1) p0 q∧RT (okE g (spots g d) (edges g d) s.2.1) q pk∧(Rch (okE g (spots g d) (edges g d) s.2.1) p0 q∨Rch (okE g (spots g d) (edges g d) s.2.1) q pk)
end Go.Proofs.YtlbnpmfggfbdoaaGreatDoor
end
section
namespace Go.Pth
abbrev Ctr:=Bool×Int
abbrev D:=List Ctr
def leC (x y:Ctr):Prop:=if x.1=true∧y.1=false then y.2=1048576 else x.2≤y.2
instance (x y:Ctr):Decidable (leC x y):=by unfold leC;exact inferInstance
def okC (x:Ctr):Prop:=0≤x.2∧x.2≤1048576
def le:D→D→Prop
 | [],[]=>True
 |x::a,y::b=>leC x y∧le a b
 |_,_=>False
instance decLe: ∀a b:D,Decidable (le a b)
 | [],[]=>.isTrue trivial
 |x::a,y::b=>match(inferInstance:Decidable (leC x y)),decLe a b with
  | .isTrue h1,.isTrue h2=>.isTrue ⟨h1,h2⟩
  | .isFalse h1,_=>.isFalse fun h=>h1 h.1
  |_,.isFalse h2=>.isFalse fun h=>h2 h.2
 | [],_::_=>.isFalse fun h=>h
 |_::_,[]=>.isFalse fun h=>h
def ok (a:D):Prop:=∀x∈a,okC x
theorem leC_refl (x:Ctr):leC x x:=by
 unfold leC
 rw[if_neg (fun h=>by rw[h.1]at h;exact absurd h.2 (by decide))]
 exact Xl _
theorem le_refl: ∀a:D,le a a
 | []=>trivial
 |x::a=>⟨leC_refl x,le_refl a⟩
theorem leC_trans {x y z:Ctr}(H:okC x)(I:okC z)(J:leC x y)(O:leC y z):leC x z:=by
 obtain⟨bx,nx⟩:=x
 obtain⟨by',ny⟩:=y
 obtain⟨bz,nz⟩:=z
 unfold leC at*
 unfold okC at*
 simp only at*
 cases bx<;>cases by'<;>cases bz<;>simp at* <;>omega
theorem le_trans: ∀{a b c:D},ok a→ok c→le a b→le b c→le a c
 | [],[],[],_,_,_,_=>trivial
 |x::a,y::b,z::c,I,J,O,h2=>⟨leC_trans (I x (Qg ..)) (J z (Qg ..)) O.1 h2.1,le_trans (fun u H=>I u (Qe _ H)) (fun u H=>J u (Qe _ H)) O.2 h2.2⟩
 | [],_::_,_,_,_,h,_=>h.elim
 |_::_,[],_,_,_,h,_=>h.elim
 | [],[],_::_,_,_,_,h=>h.elim
 |_::_,_::_,[],_,_,_,h=>h.elim
def small (a:D):Prop:=∀x∈a,x.2<1048576
theorem Qdx: ∀{a b:D},small a→small b→le a b→le b a→a=b
 | [],[],_,_,_,_=>rfl
 |x::a,y::b,I,J,O,h2=>by
  have hx:=I x (Qg ..)
  have hy:=J y (Qg ..)
  have e:=Qdx (fun u H=>I u (Qe _ H)) (fun u H=>J u (Qe _ H)) O.2 h2.2
  have h3:=O.1
  have h4:=h2.1
  obtain⟨bx,nx⟩:=x
  obtain⟨by',ny⟩:=y
  unfold leC at h3 h4
  simp only at*
  have:bx=by'∧nx=ny:=by cases bx<;>cases by'<;>simp at* <;>omega
  rw[this.1,this.2,e]
 | [],_::_,_,_,h,_=>h.elim
 |_::_,[],_,_,h,_=>h.elim
def bump (n:Int):D→Option D
 | []=>some []
 | [x]=>if x.2+n≤1048576 then some [(x.1,x.2+n)]else none
 |x::y::r=>(bump n (y::r)).map (x:: ·)
structure Op where
 keep:Nat
 add:Int
 zeros:Nat
def Op.app (o:Op)(d:D):Option D:=(bump o.add (d.take o.keep)).map (· ++List.replicate o.zeros (false,0))
theorem bump_mono {n:Int}(J:0≤n): ∀{a b v:D},ok a→le a b→bump n b=some v→∃u,bump n a=some u∧le u v
 | [],[],v,_,_,h=>⟨[],rfl,by rw[bump]at h;obtain rfl:=Qp h;trivial⟩
 | [x],[y],v,I,H,h=>by
  have hx:=I x (Qg ..)
  have H:=H.1
  unfold bump at h
  split at h
  ·rename_i hy
   obtain rfl:=Qp h
   have key:x.2+n≤1048576∧leC (x.1,x.2+n) (y.1,y.2+n):=by
    obtain⟨bx,nx⟩:=x
    obtain⟨by',ny⟩:=y
    unfold leC okC at*
    simp only at*
    cases bx<;>cases by'<;>simp at* <;>omega
   refine⟨[(x.1,x.2+n)],by unfold bump;rw[if_pos key.1],?_⟩
   exact And.intro key.2 trivial
  ·cases h
 |x::O::a,y::y2::b,v,I,H,h=>by
  rw[bump]at h
  obtain⟨v',h1,rfl⟩:=Ww.1 h
  obtain⟨u,h2,h3⟩:=bump_mono J (a:=O::a) (fun z hz=>I z (Qe _ hz)) H.2 h1
  exact⟨x::u,by rw[bump,h2];rfl,H.1,h3⟩
 | [],_::_,_,_,h,_=>h.elim
 |_::_,[],_,_,h,_=>h.elim
 | [_],_::_::_,_,_,h,_=>h.2.elim
 |_::_::_,[_],_,_,h,_=>h.2.elim
theorem le_take: ∀{a b:D} (k:Nat),le a b→le (a.take k) (b.take k)
 |_,_,0,_=>by rw[List.take_zero,List.take_zero];trivial
 | [],[],k+1,_=>trivial
 |x::a,y::b,k+1,h=>⟨h.1,le_take k h.2⟩
 | [],_::_,_+1,h=>h.elim
 |_::_,[],_+1,h=>h.elim
theorem le_app: ∀{a b:D} (c:D),le a b→le (a++c) (b++c)
 | [],[],c,_=>le_refl c
 |x::a,y::b,c,h=>⟨h.1,le_app c h.2⟩
 | [],_::_,_,h=>h.elim
 |_::_,[],_,h=>h.elim
theorem Op.mono {o:Op}(H:0≤o.add){a b v:D}(I:ok a)(J:le a b)(h:o.app b=some v): ∃u,o.app a=some u∧le u v:=by
 unfold Op.app at h ⊢
 obtain⟨v',O,rfl⟩:=Ww.1 h
 obtain⟨u,h2,h3⟩:=bump_mono H (fun x hx=>I x (Yc hx)) (le_take o.keep J) O
 exact⟨_,by rw[h2];rfl,le_app _ h3⟩
theorem o_bU {n:Int}(J:0≤n): ∀{a v:D},ok a→bump n a=some v→ok v
 | [],v,_,h=>by rw[bump]at h;obtain rfl:=Qp h;intro x O;cases O
 | [x],v,I,h=>by
  unfold bump at h
  split at h
  ·rename_i hy
   obtain rfl:=Qp h
   intro z H;rw[Qi]at H
   subst H
   have:=I x (Qg ..)
   unfold okC at this ⊢
   exact⟨by show 0≤x.2+n;omega,hy⟩
  ·cases h
 |x::x2::a,v,I,h=>by
  rw[bump]at h
  obtain⟨v',h1,rfl⟩:=Ww.1 h
  intro z H;rcases Qk.1 H with rfl|H
  ·exact I _ (Qg ..)
  ·exact o_bU J (a:=x2::a) (fun z H=>I z (Qe _ H)) h1 z H
theorem Op.ok {o:Op}(I:0≤o.add){a v:D}(J:ok a)(h:o.app a=some v):Pth.ok v:=by
 unfold Op.app at h
 obtain⟨v',O,rfl⟩:=Ww.1 h
 intro x H
 rcases Qn.1 H with H|H
 ·exact o_bU I (fun z hz=>J z (Yc hz)) O x H
 ·rw[(List.mem_replicate.1 H).2];unfold okC;decide
theorem bump_len {n:Int}: ∀{a v:D},bump n a=some v→v.length=a.length
 | [],v,h=>by rw[bump]at h;obtain rfl:=Qp h;rfl
 | [x],v,h=>by
  unfold bump at h
  split at h
  ·obtain rfl:=Qp h;rfl
  ·cases h
 |x::H::a,v,h=>by
  rw[bump]at h
  obtain⟨v',I,rfl⟩:=Ww.1 h
  rw[Qj,bump_len (a:=H::a) I];rfl
theorem bump_get {n:Int}: ∀{a v:D} (i:Nat),bump n a=some v→v[i]?=if i+1=a.length then(a[i]?).map (fun x=>(x.1,x.2+n))else a[i]?
 | [],v,i,h=>by rw[bump]at h;obtain rfl:=Qp h;simp
 | [x],v,i,h=>by
  unfold bump at h
  split at h
  ·obtain rfl:=Qp h
   cases i<;>simp
  ·cases h
 |x::I::a,v,i,h=>by
  rw[bump]at h
  obtain⟨v',J,rfl⟩:=Ww.1 h
  cases i with
  |zero=>simp
  |succ i=>
   have:=bump_get (a:=I::a) i J
   rw[Ws,Ws,this]
   simp only[Qj]
   by_cases H:i+1=a.length+1
   ·rw[if_pos H,if_pos (by omega)]
   ·rw[if_neg H,if_neg (by omega)]
section
variable {V:Type}[DecidableEq V]
structure Ed where
 src:V
 tgt:V
 op:Op
variable (E:List (Ed (V:=V)))(i0:V→D)
inductive Way (p:V):V→D→Prop
 |nil:Way p p (i0 p)
 |step {q:V} {s s':D} {e:Ed (V:=V)} (h:Way p q s) (he:e∈E) (hq:e.src=q) (hs:e.op.app s=some s'):Way p e.tgt s'
inductive NW (p:V):V→D→List (V×D)→Prop
 |nil:NW p p (i0 p) [(p,i0 p)]
 |step {q:V} {s s':D} {vis:List (V×D)} {e:Ed (V:=V)} (h:NW p q s vis) (he:e∈E) (hq:e.src=q) (hs:e.op.app s=some s') (hn: ∀x∈vis,x.1=e.tgt→¬le x.2 s'):NW p e.tgt s' ((e.tgt,s')::vis)
variable {E i0}
theorem Way.ok (H: ∀e∈E,0≤e.op.add)(I: ∀p,Pth.ok (i0 p)){p q:V}{s:D}(h:Way E i0 p q s):Pth.ok s:=by
 induction h with
 |nil=>exact I p
 |step _ J _ O ih=>exact Op.ok (H _ J) ih O
theorem NW.way {p q:V}{s:D}{vis:List (V×D)}(h:NW E i0 p q s vis):Way E i0 p q s:=by
 induction h with
 |nil=>exact .nil
 |step _ H hq I _ J=>exact .step J H hq I
theorem NW.pre {p q:V}{s:D}{vis:List (V×D)}(h:NW E i0 p q s vis): ∀x∈vis,∃vis',NW E i0 p x.1 x.2 vis':=by
 induction h with
 |nil=>intro x H;rw[Qi]at H;subst H;exact⟨_,.nil⟩
 |step h I hq J O ih=>
  intro x H
  rcases Qk.1 H with rfl|H
  ·exact⟨_,.step h I hq J O⟩
  ·exact ih x H
theorem Way.under (H: ∀e∈E,0≤e.op.add)(I: ∀p,Pth.ok (i0 p)){p q:V}{s:D}(h:Way E i0 p q s): ∃u vis,NW E i0 p q u vis∧le u s:=by
 induction h with
 |nil=>exact⟨_,_,.nil,le_refl _⟩
 | @step q s s' e h J hq hs ih=>
  obtain⟨u,vis,O,h2⟩:=ih
  obtain⟨w,h3,h4⟩:=Op.mono (H e J) (O.way.ok H I) h2 hs
  by_cases hc: ∃x∈vis,x.1=e.tgt∧le x.2 w
  ·obtain⟨x,hx,h5,h6⟩:=hc
   obtain⟨vis',h7⟩:=O.pre x hx
   rw[h5]at h7
   exact⟨x.2,vis',h7,le_trans (h7.way.ok H I) (Op.ok (H e J) (h.ok H I) hs) h6 h4⟩
  ·exact⟨w,_,.step O J hq h3 fun x hx h5 h6=>hc ⟨x,hx,h5,h6⟩,h4⟩
end
section
variable {V:Type}[DecidableEq V]
structure Net (E:List (Ed (V:=V))) (i0:V→D) (dep:V→Nat) (loops:List V):Prop where
 i0e: ∀p,i0 p=List.replicate (dep p) (true,0)
 keep: ∀e∈E,e.op.keep≤dep e.src
 ends: ∀e∈E,e.op.keep+e.op.zeros=dep e.tgt
 add: ∀e∈E,e.op.add=0∨(e.op.add=1∧e.op.keep=dep e.src∧e.op.zeros=0∧e.tgt∈loops)
 few:loops.length<1048576
variable {E:List (Ed (V:=V))}{i0:V→D}{dep:V→Nat}{loops:List V}(N:Net E i0 dep loops)
include N
theorem Net.add0: ∀e∈E,0≤e.op.add:=fun e H=>by rcases N.add e H with h|h<;>omega
theorem Net.iok (p:V):Pth.ok (i0 p):=by
 rw[N.i0e]
 intro x H
 rw[(List.mem_replicate.1 H).2];unfold okC;decide
theorem Way.len {p q:V}{s:D}(h:Way E i0 p q s):s.length=dep q:=by
 induction h with
 |nil=>rw[N.i0e,Xa]
 | @step q s s' e h H hq I J=>
  unfold Op.app at I
  obtain⟨v,O,rfl⟩:=Ww.1 I
  rw[Ql,Xa,bump_len O,Qv,J,←hq,←N.ends e H]
  have:=N.keep e H
  omega
theorem le_last: ∀(a:D) {x y:Ctr},leC x y→le (a++[x]) (a++[y])
 | [],_,_,h=>⟨h,trivial⟩
 |z::a,_,_,h=>⟨leC_refl z,le_last a h⟩
theorem NW.bound {p q:V}{s:D}{vis:List (V×D)}(h:NW E i0 p q s vis): ∀(i:Nat) (c:Ctr),s[i]?=some c→∃R:List V,R.Nodup∧(R.length:Int)=c.2∧
  ∀r∈R,r∈loops∧∃d c',(r,d)∈vis∧d.length=i+1∧d.take i=s.take i∧d[i]?=some c'∧c'.1=c.1∧c'.2≤c.2:=by
 induction h with
 |nil=>
  intro i c H
  rw[N.i0e,Xb]at H
  split at H
  ·obtain rfl:=Qp H;exact⟨[],Xu,rfl,fun r I=>by cases I⟩
  ·cases H
 | @step q s s' vis e h he hq hs hn ih=>
  intro i c H
  have hlen:=h.way.len N
  have hk:=N.keep e he
  rw[hq,←hlen]at hk
  have hs0:=hs
  unfold Op.app at hs
  obtain⟨v,h1,rfl⟩:=Ww.1 hs
  have hvl:v.length=e.op.keep:=by rw[bump_len h1,Qv];omega
  have J:=fun i=>bump_get i h1
  rw[Qv,X8 hk]at J
  by_cases hi:i<e.op.keep
  ·rw[Q8 (by omega)]at H
   have htk: ∀j≤i,(v++List.replicate e.op.zeros (false,0)).take j=s.take j:=fun j hj=>by
    rw[X1 (by omega)]
    refine Wx fun m=>?_
    by_cases hm:m<j
    ·rw[Qq hm,Qq hm,J,if_neg (by omega),Qq (by omega)]
    ·rw[Q5 (by rw[Qv];omega),Q5 (by rw[Qv];omega)]
   rw[J,Qq hi]at H
   have keepR: ∀(c:Ctr),s[i]?=some c→∀c2:Ctr,c2.1=c.1→c.2≤c2.2→∀R:List V,(∀r∈R,r∈loops∧∃d c',(r,d)∈vis∧d.length=i+1∧d.take i=s.take i∧d[i]?=some c'∧c'.1=c.1∧c'.2≤c.2)→
     ∀r∈R,r∈loops∧∃d c',(r,d)∈(e.tgt,v++List.replicate e.op.zeros (false,0))::vis∧d.length=i+1∧d.take i=(v++List.replicate e.op.zeros (false,0)).take i∧d[i]?=some c'∧c'.1=c2.1∧c'.2≤c2.2:=fun c H c2 e1 e2 R hR r I=>by
    obtain⟨a1,d,c',a2,a3,a4,a5,a6,a7⟩:=hR r I
    exact⟨a1,d,c',Qe _ a2,a3,by rw[a4,htk i (Q1 _)],a5,by rw[a6,e1],by omega⟩
   by_cases hl:i+1=e.op.keep
   ·rw[if_pos hl]at H
    obtain⟨c0,O,rfl⟩:=Ww.1 H
    obtain⟨R,r1,r2,r3⟩:=ih i c0 O
    rcases N.add e he with ha|⟨ha,hkd,hz,hlp⟩
    ·rw[ha]
     exact⟨R,r1,by show(R.length:Int)=c0.2+0;omega,keepR c0 O (c0.1,c0.2+0) rfl (by show c0.2≤c0.2+0;omega) R r3⟩
    ·rw[ha]
     have hfull:v++List.replicate e.op.zeros (false,0)=s.take i++[(c0.1,c0.2+1)]:=by
      have h5:=htk i (Q1 _)
      have h6:(v++List.replicate e.op.zeros (false,0)).drop i=[(c0.1,c0.2+1)]:=by
       rw[hz,List.replicate_zero,Wg,Xz (by omega),Q0 (by omega)]
       have h7:=J i
       rw[if_pos hl,Qq hi,O,Wl,ha,Qd (by omega)]at h7
       rw[Qp h7]
      rw[←Xg i (v++List.replicate e.op.zeros (false,0)),h5,h6]
     have hnot:e.tgt∉R:=fun I=>by
      obtain⟨_,d,c',a2,a3,a4,a5,a6,a7⟩:=r3 e.tgt I
      refine hn _ a2 rfl ?_
      have hd:d=s.take i++[c']:=by
       rw[←Xg i d,a4,Xz (by omega),Q0 (by omega)]
       rw[Qd (by omega)]at a5
       rw[Qp a5]
      show le d _
      rw[hfull,hd]
      refine le_last N _ ?_
      unfold leC
      split
      ·rename_i hh;simp only at hh;rw[a6]at hh;rw[hh.1]at hh;exact absurd hh.2 (by decide)
      ·show c'.2≤c0.2+1;omega
     refine⟨e.tgt::R,Wn.2 ⟨hnot,r1⟩,by rw[Qj];show((R.length+1:Nat):Int)=c0.2+1;omega,fun r I=>?_⟩
     rcases Qk.1 I with rfl|I
     ·refine⟨hlp,_,(c0.1,c0.2+1),Qg ..,?_,rfl,?_,rfl,Xl _⟩
      ·rw[Ql,Xa];omega
      ·rw[hfull,Wf (by rw[Qv];omega),Qv,X8 (by omega),Nat.sub_self];rfl
     ·exact keepR c0 O (c0.1,c0.2+1) rfl (by show c0.2≤c0.2+1;omega) R r3 r I
   ·rw[if_neg hl]at H
    obtain⟨R,r1,r2,r3⟩:=ih i c H
    exact⟨R,r1,r2,keepR c H c rfl (Xl _) R r3⟩
  ·rw[Wf (by omega),Xb]at H
   split at H
   ·obtain rfl:=Qp H;exact⟨[],Xu,rfl,fun r I=>by cases I⟩
   ·cases H
theorem nodup_sub {R L:List V}(h:R.Nodup)(H: ∀r∈R,r∈L):R.length≤L.length:=by
 induction R generalizing L with
 |nil=>exact Xo _
 |cons r R O=>
  rw[Wn]at h
  have I:=H r (Qg ..)
  have:=O (L:=L.erase r) h.2 fun x J=>(List.mem_erase_of_ne (fun e=>h.1 (by rw[←e];exact J))).2 (H x (Qe _ J))
  rw[Yz I]at this
  have h0:0<L.length:=Y3 I
  rw[Qj];omega
theorem NW.le_loops {p q:V}{s:D}{vis:List (V×D)}(h:NW E i0 p q s vis): ∀c∈s,c.2≤loops.length:=fun c H=>by
 obtain⟨i,I⟩:=Xe H
 obtain⟨R,J,r2,O⟩:=h.bound N i c I
 have:=nodup_sub N J fun r hr=>(O r hr).1
 omega
theorem NW.small {p q:V}{s:D}{vis:List (V×D)}(h:NW E i0 p q s vis):Pth.small s:=fun c H=>by
 have:=h.le_loops N c H
 have:=N.few
 omega
theorem Qgh: ∀{a b:D},Pth.small b→le a b→Pth.small a
 | [],_,_,_=>fun x O=>by cases O
 |x::a,y::b,I,h=>fun z H=>by
  have hy:=I y (Qg ..)
  rcases Qk.1 H with rfl|H
  ·have J:=h.1
   unfold leC at J
   split at J<;>omega
  ·exact Qgh (fun u hu=>I u (Qe _ hu)) h.2 z H
 |_::_,[],_,h=>h.elim
structure Tab (T:V→V→List D):Prop where
 sound: ∀p q s,s∈T p q→Way E i0 p q s
 start: ∀p,(∃q,T p q≠[])→∃u∈T p p,le u (i0 p)
 fix: ∀p,∀e∈E,∀s∈T p e.src,∀s',e.op.app s=some s'→∃u∈T p e.tgt,le u s'
 min: ∀p q,∀u∈T p q,∀s∈T p q,le u s→le s u
end
section
variable {V:Type}[DecidableEq V]{E:List (Ed (V:=V))}{i0:V→D}{dep:V→Nat}{loops:List V}(N:Net E i0 dep loops){T:V→V→List D}(hT:Tab (E:=E) (i0:=i0) T)
include N hT
theorem Tab.all {p q:V}{s:D}(hp: ∃q,T p q≠[])(h:Way E i0 p q s): ∃u∈T p q,le u s:=by
 induction h with
 |nil=>exact hT.start p hp
 | @step q s s' e h H hq J ih=>
  obtain⟨u,I,h2⟩:=ih
  obtain⟨w,h3,h4⟩:=Op.mono (N.add0 e H) ((hT.sound _ _ _ I).ok N.add0 N.iok) h2 J
  rw[←hq]at I
  obtain⟨x,O,h6⟩:=hT.fix p e H u I w h3
  exact⟨x,O,le_trans ((hT.sound _ _ _ O).ok N.add0 N.iok) (Op.ok (N.add0 e H) (h.ok N.add0 N.iok) J) h6 h4⟩
theorem Tab.nw {p q:V}{s:D}(H:s∈T p q): ∃vis,NW E i0 p q s vis:=by
 have J:=hT.sound _ _ _ H
 obtain⟨u,vis,I,O⟩:=J.under N.add0 N.iok
 obtain⟨x,h3,h4⟩:=hT.all N ⟨q,fun e=>by rw[e]at H;cases H⟩ I.way
 have o1:=J.ok N.add0 N.iok
 have o2:=I.way.ok N.add0 N.iok
 have o3:=(hT.sound _ _ _ h3).ok N.add0 N.iok
 have h5:=hT.min p q x h3 s H (le_trans o3 o1 h4 O)
 have h6:=le_trans o1 o2 h5 h4
 have h7:=I.small N
 obtain rfl:=Qdx h7 (Qgh N h7 h6) O h6
 exact⟨vis,I⟩
theorem Tab.small {p q:V}{s:D}(H:s∈T p q):Pth.small s:=by
 obtain⟨vis,h⟩:=hT.nw N H;exact h.small N
theorem Tab.anti {p q:V}{u s:D}(H:u∈T p q)(I:s∈T p q)(h:le u s):u=s:=Qdx (hT.small N H) (hT.small N I) h (hT.min p q u H s I h)
theorem Tab.sub {T2:V→V→List D}(H:Tab (E:=E) (i0:=i0) T2){p q:V}(hp: ∃q,T2 p q≠[]){s:D}(I:s∈T p q):s∈T2 p q:=by
 obtain⟨u,J,O⟩:=H.all N hp (hT.sound _ _ _ I)
 obtain⟨x,h3,h4⟩:=hT.all N ⟨q,fun e=>by rw[e]at I;cases I⟩ (H.sound _ _ _ J)
 have o1:=(hT.sound _ _ _ I).ok N.add0 N.iok
 have o3:=(hT.sound _ _ _ h3).ok N.add0 N.iok
 obtain rfl:=hT.anti N h3 I (le_trans o3 o1 h4 O)
 rw[←Qdx (H.small N J) (hT.small N I) O h4];exact J
end
end Go.Pth
end
section
namespace Go.Proofs.YtlbnpmfggfbdoaaGreatDoor
open Go.RowKit Go.Graph
inductive Form (x y:Int) (s:Sm):Prop where
 |id (h:s=(x,x,0,0,(0,0,0,0))) (hy:y=x)
 |enter (h:s=(x,x,0,1,(0,0,0,0))) (hx:x≤3) (hy:y=x+1)
 |leave (h:s=(x,x-1,0,0,(0,0,0,0))) (hx:1≤x) (hy:y=x-1)
 |next (h:s=(x,x,1,0,(0,0,0,0))) (hx:1≤x) (hy:y=x)
theorem form_of {x a b:Int}{up:Prop}(hx:0≤x∧x≤4){n:Nd}{s:Sm}(hs:s=Qaj n x∨s=(idP x).1)(K:Kd s a b up)(ha:a=x):Form x b s:=by
 have O:s=z8→Form x b s:=fun e=>by
  have I:=K.from_
  have H:=K.ends
  rw[e]at I H
  have I:(0:Int)=a:=I
  have H:(0:Int)+0=b:=H
  exact .id (by rw[e,←ha,←I];rfl) (by omega)
 have st: ∀(lo hi:Int) (t:Sm),s=(Qbk x lo hi t).1→s=z8∨(¬(x<lo∨hi<x)∧s=(x,t.2)):=fun lo hi t h=>by
  unfold Qbk at h
  split at h
  ·exact .inl h
  ·rename_i I;exact .inr ⟨I,h⟩
 have J:s=(idP x).1→Form x b s:=fun h=>by
  rcases st 0 4 _ h with h|⟨I,h⟩
  ·exact O h
  ·have H:=K.ends
   rw[h]at H
   have H:x+0=b:=H
   exact .id h (by omega)
 rcases hs with h|h
 ·unfold Qaj at h
  split at h
  ·rcases st 0 3 _ h with h|⟨I,h⟩
   ·exact O h
   ·have H:=K.ends
    rw[h]at H
    have H:x+1=b:=H
    exact .enter h (by omega) (by omega)
  ·split at h
   ·rcases st 1 4 _ h with h|⟨I,h⟩
    ·exact O h
    ·have H:=K.ends
     rw[h]at H
     have H:x-1+0=b:=H
     exact .leave h (by omega) (by omega)
   ·split at h
    ·rcases st 1 4 _ h with h|⟨I,h⟩
     ·exact O h
     ·have H:=K.ends
      rw[h]at H
      have H:x+0=b:=H
      exact .next h (by omega) (by omega)
    ·exact J h
 ·exact J h
end Go.Proofs.YtlbnpmfggfbdoaaGreatDoor
end
section
namespace Go.Pth
theorem filter_le {α:Type}{P Q:α→Bool}: ∀{l:List α},(∀x∈l,P x=true→Q x=true)→(l.filter P).length≤(l.filter Q).length
 | [],_=>Q1 _
 |x::l,h=>by
  have H:=filter_le (l:=l) fun y I=>h y (Qe _ I)
  have J:=h x (Qg ..)
  rw[Xk,Xk]
  by_cases hp:P x=true
  ·rw[if_pos hp,if_pos (J hp),Qj,Qj];omega
  ·rw[if_neg hp];split
   ·rw[Qj];omega
   ·exact H
theorem filter_lt {α:Type}{P Q:α→Bool}: ∀{l:List α},(∀x∈l,P x=true→Q x=true)→(∃x∈l,Q x=true∧P x=false)→(l.filter P).length <(l.filter Q).length
 | [],_,h=>by obtain⟨x,I,_⟩:=h;cases I
 |x::l,h,he=>by
  have O:=fun y H=>h y (Qe x H)
  have ih:=filter_le O
  have I:=h x (Qg ..)
  obtain⟨y,H,h2,h3⟩:=he
  rw[Xk,Xk]
  rcases Qk.1 H with rfl|H
  ·rw[if_neg (by rw[h3];decide),if_pos h2,Qj];omega
  ·have J:=filter_lt O ⟨y,H,h2,h3⟩
   by_cases hp:P x=true
   ·rw[if_pos hp,if_pos (I hp),Qj,Qj];omega
   ·rw[if_neg hp];split
    ·rw[Qj];omega
    ·exact J
theorem nodup_le {α:Type}[DecidableEq α]: ∀{R L:List α},R.Nodup→(∀r∈R,r∈L)→R.length≤L.length
 | [],_,_,_=>Xo _
 |r::R,L,h,H=>by
  rw[Wn]at h
  have I:=H r (Qg ..)
  have:=nodup_le (L:=L.erase r) h.2 fun x J=>(List.mem_erase_of_ne (fun e=>h.1 (by rw[←e];exact J))).2 (H x (Qe _ J))
  rw[Yz I]at this
  have O:0<L.length:=Y3 I
  rw[Qj];omega
section
variable {S:Type}[DecidableEq S]{ctr:S→D}{lt:S→S→Prop}
structure Lin (lt:S→S→Prop):Prop where
 irr: ∀a,¬lt a a
 tr: ∀a b c,lt a b→lt b c→lt a c
 tri: ∀a b,a≠b→lt a b∨lt b a
def less (ctr:S→D)(lt:S→S→Prop)(a b:S):Prop:=le (ctr a) (ctr b)∧(¬le (ctr b) (ctr a)∨lt a b)
def IsLst (ctr:S→D)(lt:S→S→Prop)(l r:List S):Prop:=r.Pairwise lt∧∀s,s∈r↔s∈l∧∀x∈l,¬less ctr lt x s
theorem pw_ext (L:Lin lt): ∀{a b:List S},a.Pairwise lt→b.Pairwise lt→(∀s,s∈a↔s∈b)→a=b
 | [],[],_,_,_=>rfl
 | [],y::b,_,_,h=>by have:=(h y).2 (Qg ..);cases this
 |x::a,[],_,_,h=>by have:=(h x).1 (Qg ..);cases this
 |x::a,y::b,J,O,h=>by
  rw[Wk]at J O
  have e:x=y:=by
   rcases Qk.1 ((h x).1 (Qg ..))with H|H
   ·exact H
   rcases Qk.1 ((h y).2 (Qg ..))with h2|h2
   ·exact h2.symm
   ·exact absurd (L.tr _ _ _ (O.1 x H) (J.1 y h2)) (L.irr _)
  subst e
  rw[pw_ext L J.2 O.2 fun s=>⟨fun I=>?_,fun I=>?_⟩]
  ·rcases Qk.1 ((h s).1 (Qe _ I))with rfl|H
   ·exact absurd (J.1 _ I) (L.irr _)
   ·exact H
  ·rcases Qk.1 ((h s).2 (Qe _ I))with rfl|H
   ·exact absurd (O.1 _ I) (L.irr _)
   ·exact H
theorem IsLst.uniq (L:Lin lt){l r r':List S}(h:IsLst ctr lt l r)(h':IsLst ctr lt l r'):r=r':=pw_ext L h.1 h'.1 fun s=>(h.2 s).trans (h'.2 s).symm
theorem less_irr (L:Lin lt)(a:S): ¬less ctr lt a a:=fun h=>h.2.elim (fun h=>h (le_refl _)) (L.irr a)
theorem less_tr (L:Lin lt){a b c:S}(O:ok (ctr a))(hb:ok (ctr b))(hc:ok (ctr c))(H:less ctr lt a b)(I:less ctr lt b c):less ctr lt a c:=by
 refine⟨le_trans O hc H.1 I.1,?_⟩
 by_cases h:le (ctr c) (ctr a)
 ·right
  have h3:lt b c:=I.2.resolve_left fun J=>J (le_trans hc hb h H.1)
  have h5:lt a b:=H.2.resolve_left fun J=>J (le_trans hb O I.1 h)
  exact L.tr _ _ _ h5 h3
 ·exact .inl h
open Classical in
theorem IsLst.cov (L:Lin lt){l r:List S}(h:IsLst ctr lt l r)(O: ∀s∈l,ok (ctr s)): ∀s∈l,∃u∈r,le (ctr u) (ctr s):=by
 have main: ∀n s,s∈l→(l.filter fun x=>decide (less ctr lt x s)).length≤n→∃u∈r,le (ctr u) (ctr s):=by
  intro n
  induction n with
  |zero=>
   intro s I hn
   refine⟨s,(h.2 s).2 ⟨I,fun x H J=>?_⟩,le_refl _⟩
   have:=Y3 ((Yn (p:=fun x=>decide (less ctr lt x s))).2 ⟨H,decide_eq_true J⟩)
   omega
  |succ n ih=>
   intro s I hn
   by_cases H: ∃x∈l,less ctr lt x s
   ·obtain⟨x,H,J⟩:=H
    have hlt:(l.filter fun y=>decide (less ctr lt y x)).length <(l.filter fun y=>decide (less ctr lt y s)).length:=
     filter_lt (fun y hy h1=>decide_eq_true (less_tr L (O y hy) (O x H) (O s I) (of_decide_eq_true h1) J)) ⟨x,H,decide_eq_true J,decide_eq_false (less_irr L x)⟩
    obtain⟨u,h1,h2⟩:=ih x H (by omega)
    exact⟨u,h1,le_trans (O u ((h.2 u).1 h1).1) (O s I) h2 J.1⟩
   ·exact⟨s,(h.2 s).2 ⟨I,fun x hx2 J=>H ⟨x,hx2,J⟩⟩,le_refl _⟩
 exact fun s I=>main _ s I (Q1 _)
end
def Uv (B:Nat):Nat→List D
 |0=>[[]]
 |n+1=>(List.range (B+1)).flatMap fun(c:Nat)=>(Uv B n).flatMap fun d=>[(true,(c:Int))::d,(false,(c:Int))::d]
theorem flat_len {α β:Type}{f:α→List β}{k:Nat}: ∀{l:List α},(∀x∈l,(f x).length=k)→(l.flatMap f).length=l.length*k
 | [],_=>by simp
 |x::l,h=>by
  rw[Jp,Ql,h x (Qg ..),flat_len fun y H=>h y (Qe _ H),Qj,Xt,X9,Yr]
theorem Uv_len (B:Nat): ∀n,(Uv B n).length=(2*(B+1))^n
 |0=>rfl
 |n+1=>by
  unfold Uv
  rw[flat_len (k:=(Uv B n).length*2) fun x _=>flat_len fun _ _=>rfl,X3,Uv_len B n,Nat.pow_succ]
  ac_rfl
theorem Uv_mem {B:Nat}: ∀{d:D},ok d→(∀c∈d,c.2≤B)→d∈Uv B d.length
 | [],_,_=>Xd _
 |x::d,h,I=>by
  have J:=h x (Qg ..)
  have O:=I x (Qg ..)
  unfold okC at J
  rw[Qj,Uv,Xi]
  refine⟨x.2.toNat,Xj.2 (by omega),Xi.2 ⟨d,Uv_mem (fun y H=>h y (Qe _ H)) (fun y H=>I y (Qe _ H)),?_⟩⟩
  have e:((x.2.toNat:Nat):Int)=x.2:=by omega
  rw[e]
  obtain⟨b,n⟩:=x
  cases b
  ·exact Qe _ (Xd _)
  ·exact Qg ..
theorem o_b8 {B:Nat}(J:B≤1048576): ∀{n:Nat} {d:D},d∈Uv B n→ok d
 |0,d,h=>by rw[Uv,Qi]at h;subst h;intro x H;cases H
 |n+1,d,h=>by
  rw[Uv]at h
  obtain⟨c,I,h⟩:=Xi.1 h
  obtain⟨d',O,h⟩:=Xi.1 h
  have I:=Xj.1 I
  have key: ∀b:Bool,ok ((b,(c:Int))::d'):=fun b x H=>by
   rcases Qk.1 H with rfl|H
   ·unfold okC;exact⟨by show(0:Int)≤c;omega,by show(c:Int)≤1048576;omega⟩
   ·exact o_b8 J O x H
  rcases Qk.1 h with rfl|h
  ·exact key true
  ·rw[Qi]at h;subst h;exact key false
section
variable {V S:Type}[DecidableEq V][DecidableEq S]
structure Sy (E:List (Ed (V:=V))) (ctr:S→D) (lt:S→S→Prop) (G:V→V→S→Prop) (thn:Ed (V:=V)→S→Option S):Prop where
 lin:Lin lt
 inj: ∀{p q a b},G p q a→G p q b→ctr a=ctr b→a=b
 ok: ∀{p q a},G p q a→ok (ctr a)
 some: ∀{e p s s'},e∈E→G p e.src s→thn e s=some s'→G p e.tgt s'∧e.op.app (ctr s)=some (ctr s')
 none: ∀{e p s},e∈E→G p e.src s→thn e s=none→e.op.app (ctr s)=none
variable {E:List (Ed (V:=V))}{i0:V→D}{dep:V→Nat}{loops:List V}(N:Net E i0 dep loops)
variable {ctr:S→D}{lt:S→S→Prop}{G:V→V→S→Prop}{thn:Ed (V:=V)→S→Option S}(Y:Sy E ctr lt G thn)
def Good (E:List (Ed (V:=V)))(i0:V→D)(ctr:S→D)(G:V→V→S→Prop)(T:V→V→List S)(p q:V)(s:S):Prop:=
 G p q s∧∃vis,NW E i0 p q (ctr s) vis∧∀x∈vis,∃u∈T p x.1,le (ctr u) x.2
structure Inv (E:List (Ed (V:=V))) (i0:V→D) (ctr:S→D) (lt:S→S→Prop) (G:V→V→S→Prop) (T:V→V→List S):Prop where
 good: ∀p q,∀s∈T p q,Good E i0 ctr G T p q s
 sort: ∀p q,(T p q).Pairwise lt
 min: ∀p q,∀u∈T p q,∀s∈T p q,¬less ctr lt u s
def Cv (ctr:S→D)(T T':V→V→List S):Prop:=∀p q,∀s∈T p q,∃u∈T' p q,le (ctr u) (ctr s)
def put (T:V→V→List S)(p q:V)(r:List S):V→V→List S:=fun p' q'=>if p'=p∧q'=q then r else T p' q'
theorem put_self (T:V→V→List S)(p q:V)(r:List S):put T p q r p q=r:=if_pos ⟨rfl,rfl⟩
theorem Cv.refl (T:V→V→List S):Cv ctr T T:=fun p q s H=>⟨s,H,le_refl _⟩
include N Y
theorem Good.small {T:V→V→List S}{p q:V}{s:S}(h:Good E i0 ctr G T p q s):Pth.small (ctr s):=by
 obtain⟨_,vis,h,_⟩:=h;exact h.small N
theorem Cv.trans {T T' T'':V→V→List S}(hT: ∀p q,∀s∈T p q,Pth.ok (ctr s))(hT'': ∀p q,∀s∈T'' p q,Pth.ok (ctr s))(J:Cv ctr T T')(O:Cv ctr T' T''):Cv ctr T T'':=fun p q s H=>by
 obtain⟨u,hu,h3⟩:=J p q s H
 obtain⟨v,I,h4⟩:=O p q u hu
 exact⟨v,I,le_trans (hT'' p q v I) (hT p q s H) h4 h3⟩
theorem Good.cv {T T':V→V→List S}(hT': ∀p q,∀s∈T' p q,Pth.ok (ctr s))(O:Cv ctr T T'){p q:V}{s:S}(h:Good E i0 ctr G T p q s):Good E i0 ctr G T' p q s:=by
 obtain⟨h1,vis,H,h3⟩:=h
 refine⟨h1,vis,H,fun x I=>?_⟩
 obtain⟨u,hu,h4⟩:=h3 x I
 obtain⟨v,J,h5⟩:=O p x.1 u hu
 obtain⟨vis',h6⟩:=H.pre x I
 exact⟨v,J,le_trans (hT' _ _ v J) (h6.way.ok N.add0 N.iok) h5 h4⟩
theorem Inv.anti {T:V→V→List S}(I:Inv E i0 ctr lt G T){p q:V}{u s:S}(O:u∈T p q)(hs:G p q s)(h1:le (ctr u) (ctr s))(J:le (ctr s) (ctr u)):u=s:=by
 have gu:=I.good p q u O
 have H:=gu.small N Y
 exact Y.inj gu.1 hs (Qdx H (Qgh N H J) h1 J)
theorem Inv.leq {T:V→V→List S}(I:Inv E i0 ctr lt G T){p q:V}{u s:S}(H:u∈T p q)(J:s∈T p q)(O:le (ctr u) (ctr s)):u=s:=by
 have h2:=I.min p q u H s J
 have h3:le (ctr s) (ctr u):=Wc fun h=>h2 ⟨O,.inl h⟩
 exact I.anti N Y H (I.good p q s J).1 O h3
theorem Inv.add {T:V→V→List S}(I:Inv E i0 ctr lt G T){p:V}{e:Ed (V:=V)}(he:e∈E){more r:List S}(hm: ∀m∈more,∃s,Good E i0 ctr G T p e.src s∧thn e s=some m)(hr:IsLst ctr lt (T p e.tgt++more) r):
  Inv E i0 ctr lt G (put T p e.tgt r)∧Cv ctr T (put T p e.tgt r)∧(∀m∈more,∃u∈r,le (ctr u) (ctr m))∧
   (r≠T p e.tgt→∃m∈more,ctr m∈Uv loops.length (dep e.tgt)∧∀u∈T p e.tgt,¬le (ctr u) (ctr m)):=by
 have gm: ∀m∈more,G p e.tgt m:=fun m h=>by obtain⟨s,h1,h2⟩:=hm m h;exact(Y.some he h1.1 h2).1
 have gl: ∀m∈T p e.tgt++more,G p e.tgt m:=fun m h=>(Qn.1 h).elim (fun h=>(I.good _ _ m h).1) (gm m)
 have hcov:=hr.cov Y.lin fun s H=>Y.ok (gl s H)
 have hcv:Cv ctr T (put T p e.tgt r):=fun p' q' s H=>by
  unfold put
  split
  ·rename_i h;rw[h.1,h.2]at H;exact hcov s (Q6 _ H)
  ·exact⟨s,H,le_refl _⟩
 have gr: ∀s∈r,G p e.tgt s:=fun s H=>gl s ((hr.2 s).1 H).1
 have okT': ∀p' q',∀s∈put T p e.tgt r p' q',Pth.ok (ctr s):=fun p' q' s H=>by
  unfold put at H
  split at H
  ·exact Y.ok (gr s H)
  ·exact Y.ok (I.good _ _ s H).1
 have nwm: ∀m∈more,(∀u∈T p e.tgt,¬le (ctr u) (ctr m))→∃s vis,NW E i0 p e.src (ctr s) vis∧(∀x∈vis,∃u∈T p x.1,le (ctr u) x.2)∧NW E i0 p e.tgt (ctr m) ((e.tgt,ctr m)::vis):=fun m h O=>by
  obtain⟨s,⟨h1,vis,h2,h3⟩,h4⟩:=hm m h
  refine⟨s,vis,h2,h3,.step h2 he rfl (Y.some he h1 h4).2 fun x hx hxe hle=>?_⟩
  obtain⟨u,J,h5⟩:=h3 x hx
  rw[hxe]at J
  exact O u J (le_trans (Y.ok (I.good _ _ u J).1) (Y.ok (gm m h)) h5 hle)
 refine⟨⟨fun p' q' s H=>?_,fun p' q'=>?_,fun p' q' u J s H=>?_⟩,hcv,fun m h=>hcov m (Q9 _ h),fun hne=>?_⟩
 ·unfold put at H
  split at H
  ·rename_i hpq
   obtain⟨rfl,rfl⟩:=hpq
   obtain⟨h1,h2⟩:=(hr.2 s).1 H
   by_cases hin:s∈T p' e.tgt
   ·exact(I.good _ _ s hin).cv N Y okT' hcv
   have hmo:s∈more:=(Qn.1 h1).resolve_left hin
   obtain⟨s0,vis,h3,h4,h5⟩:=nwm s hmo fun u J hle=>by
    have h6:le (ctr s) (ctr u):=Wc fun h=>h2 u (Q6 _ J) ⟨hle,.inl h⟩
    have:=I.anti N Y J (gm s hmo) hle h6
    rw[this]at J;exact hin J
   refine⟨gm s hmo,_,h5,fun x hx=>?_⟩
   rcases Qk.1 hx with rfl|hx
   ·exact⟨s,by rw[put_self];exact H,le_refl _⟩
   ·obtain⟨u,J,h6⟩:=h4 x hx
    obtain⟨v,hv,h7⟩:=hcv p' x.1 u J
    obtain⟨vis',h8⟩:=h3.pre x hx
    exact⟨v,hv,le_trans (okT' _ _ v hv) (h8.way.ok N.add0 N.iok) h7 h6⟩
  ·exact(I.good _ _ s H).cv N Y okT' hcv
 ·unfold put
  split
  ·exact hr.1
  ·exact I.sort _ _
 ·unfold put at J H
  split at J
  ·rename_i h
   rw[if_pos h]at H
   exact((hr.2 s).1 H).2 u ((hr.2 u).1 J).1
  ·rename_i h
   rw[if_neg h]at H
   exact I.min _ _ u J s H
 ·refine Wc fun hall=>hne (hr.uniq Y.lin ⟨I.sort _ _,fun s=>⟨fun H=>⟨Q6 _ H,fun x hx hl=>?_⟩,fun⟨H,hmin⟩=>?_⟩⟩)
  all_goals
   have hall: ∀m∈more,∃u∈T p e.tgt,le (ctr u) (ctr m):=fun m h=>Wc fun O=>by
    have O: ∀u∈T p e.tgt,¬le (ctr u) (ctr m):=fun u J hle=>O ⟨u,J,hle⟩
    obtain⟨s0,vis,_,_,h5⟩:=nwm m h O
    have h6:=Uv_mem (Y.ok (gm m h)) (h5.le_loops N)
    rw[h5.way.len N]at h6
    exact hall ⟨m,h,h6,O⟩
  ·rcases Qn.1 hx with hx|hx
   ·exact I.min _ _ x hx s H hl
   ·obtain⟨u,J,h1⟩:=hall x hx
    have gu:=I.good _ _ u J
    have gs:=I.good _ _ s H
    obtain rfl:=I.leq N Y J H (le_trans (Y.ok gu.1) (Y.ok gs.1) h1 hl.1)
    obtain rfl:=I.anti N Y J (gm x hx) h1 hl.1
    exact less_irr Y.lin _ hl
  ·rcases Qn.1 H with H|H
   ·exact H
   ·obtain⟨u,J,h1⟩:=hall s H
    have h6:le (ctr s) (ctr u):=Wc fun h=>hmin u (Q6 _ J) ⟨h1,.inl h⟩
    rw[←I.anti N Y J (gm s H) h1 h6];exact J
theorem Inv.first {T:V→V→List S}(I:Inv E i0 ctr lt G T){p:V}{s:S}(hp: ∀q,T p q=[])(hs:G p p s)(hc:ctr s=i0 p):Inv E i0 ctr lt G (put T p p [s]):=by
 refine⟨fun p' q' x H=>?_,fun p' q'=>?_,fun p' q' u J x H=>?_⟩
 ·unfold put at H
  split at H
  ·rename_i h
   obtain⟨rfl,rfl⟩:=h
   rw[Qi]at H
   subst H
   refine⟨hs,_,by rw[hc];exact .nil,fun y O=>?_⟩
   rw[Qi]at O
   subst O
   exact⟨x,by rw[put_self];exact Xd _,by rw[hc];exact le_refl _⟩
  ·obtain⟨h1,vis,h2,h3⟩:=I.good _ _ x H
   refine⟨h1,vis,h2,fun y O=>?_⟩
   obtain⟨u,J,h4⟩:=h3 y O
   refine⟨u,?_,h4⟩
   unfold put
   rw[if_neg]
   ·exact J
   ·intro h
    rw[h.1,hp]at J;cases J
 ·unfold put
  split
  ·exact Yd _ _
  ·exact I.sort _ _
 ·unfold put at J H
  split at J
  ·rename_i h
   rw[if_pos h]at H
   rw[Qi]at J H
   rw[J,H];exact less_irr Y.lin _
  ·rename_i h
   rw[if_neg h]at H
   exact I.min _ _ u J x H
theorem Inv.len {T:V→V→List S}(I:Inv E i0 ctr lt G T)(p q:V):(T p q).length≤(2*(loops.length+1))^dep q:=by
 have O:((T p q).map ctr).Nodup:=by
  refine Ja.2 ((I.sort p q).imp_of_mem fun {a b} ha hb h e=>?_)
  obtain rfl:=Y.inj (I.good _ _ a ha).1 (I.good _ _ b hb).1 e
  exact Y.lin.irr _ h
 have H:=nodup_le O (L:=Uv loops.length (dep q)) fun d hd=>by
  obtain⟨s,hs,rfl⟩:=Qt.1 hd
  obtain⟨h3,vis,J,_⟩:=I.good _ _ s hs
  have h6:=Uv_mem (Y.ok h3) (J.le_loops N)
  rw[J.way.len N]at h6;exact h6
 rw[Qw,Uv_len]at H;exact H
def mu (dep:V→Nat)(ctr:S→D)(B:Nat)(P:List (V×V))(T:V→V→List S):Nat:=
 ((P.flatMap fun x=>(Uv B (dep x.2)).map fun d=>(x,d)).filter fun y=> !((T y.1.1 y.1.2).any fun u=>decide (le (ctr u) y.2))).length
theorem mu_imp {T T':V→V→List S}(I:Inv E i0 ctr lt G T)(I':Inv E i0 ctr lt G T')(O:Cv ctr T T')(P:List (V×V)): ∀y∈(P.flatMap fun x=>(Uv loops.length (dep x.2)).map fun d=>(x,d)),(!((T' y.1.1 y.1.2).any fun u=>decide (le (ctr u) y.2)))=true→(!((T y.1.1 y.1.2).any fun u=>decide (le (ctr u) y.2)))=true:=by
 intro y hy h
 rw[Xq,X2]at h ⊢
 intro s hs H
 obtain⟨u,J,h1⟩:=O _ _ s hs
 refine h u J (decide_eq_true ?_)
 obtain⟨x,_,hx⟩:=Xi.1 hy
 obtain⟨d,hd,rfl⟩:=Qt.1 hx
 have hfew:=N.few
 exact le_trans (Y.ok (I'.good _ _ u J).1) (o_b8 (by omega) hd) h1 (of_decide_eq_true H)
theorem mu_le {T T':V→V→List S}(I:Inv E i0 ctr lt G T)(I':Inv E i0 ctr lt G T')(H:Cv ctr T T')(P:List (V×V)):mu dep ctr loops.length P T'≤mu dep ctr loops.length P T:=
 filter_le (mu_imp N Y I I' H P)
theorem mu_lt {T T':V→V→List S}(I:Inv E i0 ctr lt G T)(I':Inv E i0 ctr lt G T')(J:Cv ctr T T'){P:List (V×V)}{p q:V}(hp:(p,q)∈P){d:D}(O:d∈Uv loops.length (dep q))(h0: ∀u∈T p q,¬le (ctr u) d)(h1: ∃u∈T' p q,le (ctr u) d):
  mu dep ctr loops.length P T'<mu dep ctr loops.length P T:=by
 refine filter_lt (mu_imp N Y I I' J P) ⟨((p,q),d),Xi.2 ⟨(p,q),hp,Qt.2 ⟨d,O,rfl⟩⟩,?_,?_⟩
 ·rw[Xq,X2]
  exact fun u H h=>h0 u H (of_decide_eq_true h)
 ·obtain⟨u,H,h⟩:=h1
  rw[Bool.not_eq_false',Y0]
  exact⟨u,H,decide_eq_true h⟩
theorem mu_max {T:V→V→List S}(P:List (V×V))(H: ∀x∈P,dep x.2≤4):mu dep ctr loops.length P T≤P.length*(2*(loops.length+1))^4:=by
 unfold mu
 refine Wj (X5 _ _) ?_
 clear N Y
 induction P with
 |nil=>simp
 |cons x P I=>
  rw[Jp,Ql,Qw,Uv_len,Qj,Xt,X9,Yr]
  exact Nat.add_le_add (I fun y J=>H y (Qe _ J)) (Nat.pow_le_pow_right (by omega) (H x (Qg ..)))
theorem Inv.add_lt {T:V→V→List S}(I:Inv E i0 ctr lt G T){p:V}{e:Ed (V:=V)}(J:e∈E){more r:List S}(O: ∀m∈more,∃s,Good E i0 ctr G T p e.src s∧thn e s=some m)(hr:IsLst ctr lt (T p e.tgt++more) r){P:List (V×V)}(hp:(p,e.tgt)∈P)(H:r≠T p e.tgt):
  mu dep ctr loops.length P (put T p e.tgt r)<mu dep ctr loops.length P T:=by
 obtain⟨h1,h2,h3,h4⟩:=I.add N Y J O hr
 obtain⟨m,h5,h6,h7⟩:=h4 H
 obtain⟨u,h8,h9⟩:=h3 m h5
 exact mu_lt N Y I h1 h2 hp h6 h7 ⟨u,by rw[put_self];exact h8,h9⟩
theorem Inv.tab {T:V→V→List S}(I:Inv E i0 ctr lt G T)(h0: ∀p,(∃q,T p q≠[])→∃u∈T p p,le (ctr u) (i0 p))(hf: ∀p,∀e∈E,∀s∈T p e.src,∀m,thn e s=some m→∃u∈T p e.tgt,le (ctr u) (ctr m)):
  Tab (E:=E) (i0:=i0) fun p q=>(T p q).map ctr where
 sound p q d hd:=by
  obtain⟨s,hs,rfl⟩:=Qt.1 hd
  obtain⟨_,vis,h,_⟩:=I.good _ _ s hs
  exact h.way
 start p h:=by
  obtain⟨q,hq⟩:=h
  obtain⟨u,hu,h1⟩:=h0 p ⟨q,fun e=>hq (by rw[e];rfl)⟩
  exact⟨_,Qt.2 ⟨u,hu,rfl⟩,h1⟩
 fix p e he d hd d' h:=by
  obtain⟨s,hs,rfl⟩:=Qt.1 hd
  have gs:=(I.good _ _ s hs).1
  cases hm:thn e s with
  |none=>rw[Y.none he gs hm]at h;cases h
  |some m=>
   rw[(Y.some he gs hm).2]at h
   obtain rfl:=Qp h
   obtain⟨u,hu,h1⟩:=hf p e he s hs m hm
   exact⟨_,Qt.2 ⟨u,hu,rfl⟩,h1⟩
 min p q d hd d' hd' h:=by
  obtain⟨u,hu,rfl⟩:=Qt.1 hd
  obtain⟨s,hs,rfl⟩:=Qt.1 hd'
  rw[I.leq N Y hu hs h];exact le_refl _
theorem tab_uniq {T T2:V→V→List S}(I:Inv E i0 ctr lt G T)(I2:Inv E i0 ctr lt G T2)(h:Tab (E:=E) (i0:=i0) fun p q=>(T p q).map ctr)(J:Tab (E:=E) (i0:=i0) fun p q=>(T2 p q).map ctr){p:V}(hp:T p p≠[])(H:T2 p p≠[])(q:V):T p q=T2 p q:=by
 have sub: ∀{T T2:V→V→List S},Inv E i0 ctr lt G T→Inv E i0 ctr lt G T2→(Tab (E:=E) (i0:=i0) fun p q=>(T p q).map ctr)→(Tab (E:=E) (i0:=i0) fun p q=>(T2 p q).map ctr)→T2 p p≠[]→∀s∈T p q,s∈T2 p q:=by
  intro T T2 I I2 h J H s O
  have h3:=h.sub N J (p:=p) (q:=q) ⟨p,fun e=>H (List.map_eq_nil_iff.1 e)⟩ (Qt.2 ⟨s,O,rfl⟩)
  obtain⟨u,hu,hc⟩:=Qt.1 h3
  obtain rfl:=Y.inj (I2.good _ _ u hu).1 (I.good _ _ s O).1 hc
  exact hu
 exact pw_ext Y.lin (I.sort _ _) (I2.sort _ _) fun s=>⟨sub I I2 h J H s,sub I2 I J h hp s⟩
end
def ltL:List Int→List Int→Prop
 |x::a,y::b=>x<y∨(x=y∧ltL a b)
 |_,_=>False
instance decLtL: ∀a b:List Int,Decidable (ltL a b)
 | [],[]=>.isFalse fun h=>h
 | [],_::_=>.isFalse fun h=>h
 |_::_,[]=>.isFalse fun h=>h
 |x::a,y::b=>match(inferInstance:Decidable (x<y)),(inferInstance:Decidable (x=y)),decLtL a b with
  | .isTrue h,_,_=>.isTrue (.inl h)
  | .isFalse _,.isTrue h1,.isTrue h2=>.isTrue (.inr ⟨h1,h2⟩)
  | .isFalse h,.isFalse h1,_=>.isFalse fun h2=>h2.elim h fun h3=>h1 h3.1
  | .isFalse h,_,.isFalse h1=>.isFalse fun h2=>h2.elim h fun h3=>h1 h3.2
theorem ltL_irr: ∀a,¬ltL a a
 | [],h=>h
 |x::a,h=>h.elim (Int.lt_irrefl x) fun h=>ltL_irr a h.2
theorem ltL_tr: ∀{a b c},ltL a b→ltL b c→ltL a c
 |x::a,y::b,z::c,I,H=>by
  rcases I with I|⟨rfl,I⟩
  ·rcases H with H|⟨rfl,H⟩
   ·exact .inl (by omega)
   ·exact .inl I
  ·rcases H with H|⟨rfl,H⟩
   ·exact .inl H
   ·exact .inr ⟨rfl,ltL_tr I H⟩
 | [],_,_,h,_=>by cases ‹List Int› <;>exact h.elim
 |_::_,[],_,h,_=>h.elim
 |_::_,_::_,[],_,h=>h.elim
theorem ltL_tri: ∀{a b:List Int},a.length=b.length→a≠b→ltL a b∨ltL b a
 | [],[],_,h=>absurd rfl h
 |x::a,y::b,H,h=>by
  by_cases J:x<y
  ·exact .inl (.inl J)
  by_cases O:y<x
  ·exact .inr (.inl O)
  obtain rfl:x=y:=by omega
  rcases ltL_tri (a:=a) (b:=b) (by simpa using H) (fun e=>h (by rw[e]))with I|I
  ·exact .inl (.inr ⟨rfl,I⟩)
  ·exact .inr (.inr ⟨rfl,I⟩)
 | [],_::_,H,_=>by simp at H
 |_::_,[],H,_=>by simp at H
theorem le_map {α:Type}(f g:α→Ctr): ∀(l:List α),le (l.map f) (l.map g)↔∀i∈l,leC (f i) (g i)
 | []=>by simp[le]
 |x::l=>by
  rw[Q4,Q4,le,le_map f g l]
  constructor
  ·intro h i H
   rcases Qk.1 H with rfl|H
   ·exact h.1
   ·exact h.2 i H
  ·exact fun h=>⟨h x (Qg ..),fun i H=>h i (Qe _ H)⟩
end Go.Pth
namespace Go.Proofs.YtlbnpmfggfbdoaaGreatDoor
open Go.RowKit Go.Graph
def ints (s:Sm):List Int:=[s.1,s.2.1,s.2.2.1,s.2.2.2.1,s.2.2.2.2.1,s.2.2.2.2.2.1,s.2.2.2.2.2.2.1,s.2.2.2.2.2.2.2]
theorem ints_inj {a b:Sm}(h:ints a=ints b):a=b:=by
 obtain⟨a1,a2,a3,a4,a5,a6,a7,a8⟩:=a
 obtain⟨b1,b2,b3,b4,b5,b6,b7,b8⟩:=b
 unfold ints at h
 simp at h
 obtain⟨rfl,rfl,rfl,rfl,rfl,rfl,rfl,rfl⟩:=h
 rfl
def ltS (a b:Sm):Prop:=Pth.ltL (ints a) (ints b)
instance:DecidableRel ltS:=fun a b=>inferInstanceAs (Decidable (Pth.ltL (ints a) (ints b)))
theorem linS:Pth.Lin ltS:=⟨fun a=>Pth.ltL_irr _,fun a b c=>Pth.ltL_tr,fun a b h=>Pth.ltL_tri rfl fun e=>h (ints_inj e)⟩
def cg (s:Sm)(i:Nat):Pth.Ctr:=if(i:Int)<s.2.1 then(true,if(i:Int)+1=s.2.1 then s.2.2.1 else 0)else(false,(pus s).getD (i-s.2.1.toNat) 0)
def ctr (s:Sm):Pth.D:=(List.range (s.2.1+s.2.2.2.1).toNat).map (cg s)
def GS (x y:Int)(s:Sm):Prop:=OkS s∧s.1=x∧s.2.1+s.2.2.2.1=y
theorem o_cf {s:Sm}(h:OkS s)(i:Nat):Pth.okC (cg s i):=by
 have I:=h.a
 unfold cg Pth.okC
 split
 ·simp only
  split<;>omega
 ·simp only
  rw[Jc]
  cases H:(pus s)[i-s.2.1.toNat]? with
  |none=>simp
  |some x=>
   have:=h.p _ _ H
   simp only[Jd]
   omega
theorem o_cd {s:Sm}(h:OkS s):Pth.ok (ctr s):=fun c H=>by
 unfold ctr at H
 obtain⟨i,_,rfl⟩:=Qt.1 H
 exact o_cf h i
theorem ctr_inj {x y:Int}{a b:Sm}(ha:GS x y a)(hb:GS x y b)(h:ctr a=ctr b):a=b:=by
 obtain⟨oa,fa,ea⟩:=ha
 obtain⟨ob,fb,eb⟩:=hb
 have I: ∀i:Nat,(i:Int)<y→cg a i=cg b i:=fun i hi=>by
  have J:=congrArg (fun l=>l[i]?) h
  unfold ctr at J
  simp only[Qu]at J
  rw[Yo (by omega),Yo (by omega)]at J
  exact Qp J
 have ak:=oa.k
 have bk:=ob.k
 have an:=oa.n
 have bn:=ob.n
 have akn:=oa.kn
 have nolt: ∀{a b:Sm},OkS a→OkS b→(∀i:Nat,(i:Int)<y→cg a i=cg b i)→b.2.1+b.2.2.2.1=y→¬a.2.1<b.2.1:=fun {a b} oa ob I eb hlt=>by
  have ak:=oa.k
  have bn:=ob.n
  have H:=I a.2.1.toNat (by omega)
  unfold cg at H
  rw[if_neg (by omega),if_pos (by omega)]at H
  exact absurd (show false=true from congrArg Prod.fst H) (by decide)
 have hk:a.2.1=b.2.1:=by
  have h1:=nolt oa ob I eb
  have J:=nolt ob oa (fun i hi=>(I i hi).symm) ea
  omega
 have hn:a.2.2.2.1=b.2.2.2.1:=by omega
 have hadd:a.2.2.1=b.2.2.1:=by
  by_cases h0:a.2.1=0
  ·rw[oa.k0 h0,ob.k0 (by omega)]
  ·have H:=I (a.2.1.toNat-1) (by omega)
   unfold cg at H
   rw[if_pos (by omega),if_pos (by omega),if_pos (by omega),if_pos (by omega)]at H
   exact congrArg Prod.snd H
 have hp: ∀j:Nat,j<4→(pus a).getD j 0=(pus b).getD j 0:=fun j hj=>by
  by_cases h4:(j:Int)<a.2.2.2.1
  ·have H:=I (a.2.1.toNat+j) (by omega)
   unfold cg at H
   rw[if_neg (by omega),if_neg (by omega)]at H
   have H:=congrArg Prod.snd H
   rw[show a.2.1.toNat+j-a.2.1.toNat=j by omega,show a.2.1.toNat+j-b.2.1.toNat=j by omega]at H
   exact H
  ·have z: ∀{s:Sm},OkS s→¬(j:Int)<s.2.2.2.1→(pus s).getD j 0=0:=fun {s} o h=>by
    rw[Jc]
    cases hx:(pus s)[j]? with
    |none=>rfl
    |some x=>exact(o.p _ _ hx).2.2 (by omega)
   rw[z oa h4,z ob (by omega)]
 obtain⟨a1,a2,a3,a4,a5,a6,a7,a8⟩:=a
 obtain⟨b1,b2,b3,b4,b5,b6,b7,b8⟩:=b
 have O:=hp 0 (by omega)
 have p1:=hp 1 (by omega)
 have p2:=hp 2 (by omega)
 have p3:=hp 3 (by omega)
 have O:a5=b5:=O
 have p1:a6=b6:=p1
 have p2:a7=b7:=p2
 have p3:a8=b8:=p3
 simp only at fa fb hk hn hadd
 rw[fa,fb,hk,hn,hadd,O,p1,p2,p3]
end Go.Proofs.YtlbnpmfggfbdoaaGreatDoor
end
section
namespace Go.Proofs.YtlbnpmfggfbdoaaGreatDoor
open Go.RowKit Go.Graph
theorem Qan {f K A N J O p2 p3:Int}:OkS (f,K,A,N,(J,O,p2,p3))↔(0≤f∧f≤4∧0≤N∧N≤4∧0≤K∧K≤f∧K+N≤4∧0≤A∧A≤1048576∧(K=0→A=0)∧(0≤J∧J≤1048576∧(N≤0→J=0))∧(0≤O∧O≤1048576∧(N≤1→O=0))∧(0≤p2∧p2≤1048576∧(N≤2→p2=0))∧(0≤p3∧p3≤1048576∧(N≤3→p3=0))):=by
 constructor
 ·intro h
  have h1:=h.f
  have h2:=h.n
  have h3:=h.k
  have h4:=h.kn
  have h5:=h.a
  have h6:=h.k0
  have h7:=h.p 0 J rfl
  have h8:=h.p 1 O rfl
  have h9:=h.p 2 p2 rfl
  have I:=h.p 3 p3 rfl
  simp only at h1 h2 h3 h4 h5 h6 h7 h8 h9 I
  exact⟨h1.1,h1.2,h2.1,h2.2,h3.1,h3.2,h4,h5.1,h5.2,h6,h7,h8,h9,I⟩
 ·intro ⟨h1,h2,h3,h4,h5,h6,h7,h8,h9,I,h11,h12,h13,h14⟩
  refine⟨⟨h1,h2⟩,⟨h3,h4⟩,⟨h5,h6⟩,h7,⟨h8,h9⟩,I,fun i x H=>?_⟩
  match i,H with
  |0,H=>obtain rfl:J=x:=Qp H;exact h11
  |1,H=>obtain rfl:O=x:=Qp H;exact h12
  |2,H=>obtain rfl:p2=x:=Qp H;exact h13
  |3,H=>obtain rfl:p3=x:=Qp H;exact h14
  |i+4,H=>cases H
def opS (s:Sm):Pth.Op:=⟨s.2.1.toNat,s.2.2.1,s.2.2.2.1.toNat⟩
def thW (a e:Sm):Sm:=
 if e.2.2.2.1=1 then(a.1,a.2.1,a.2.2.1,a.2.2.2.1+1,a.2.2.2.2)
 else if e.2.2.1=1 then(if a.2.2.2.1=0 then(a.1,a.2.1,a.2.2.1+1,0,(0,0,0,0))else(a.1,a.2.1,a.2.2.1,a.2.2.2.1,(if a.2.2.2.1=1 then a.2.2.2.2.1+1 else a.2.2.2.2.1,if a.2.2.2.1=2 then a.2.2.2.2.2.1+1 else a.2.2.2.2.2.1,if a.2.2.2.1=3 then a.2.2.2.2.2.2.1+1 else a.2.2.2.2.2.2.1,if a.2.2.2.1=4 then a.2.2.2.2.2.2.2+1 else a.2.2.2.2.2.2.2)))
 else if e.2.1<e.1 then(if a.2.2.2.1=0 then(a.1,a.2.1-1,0,0,(0,0,0,0))else(a.1,a.2.1,a.2.2.1,a.2.2.2.1-1,(if a.2.2.2.1=1 then 0 else a.2.2.2.2.1,if a.2.2.2.1=2 then 0 else a.2.2.2.2.2.1,if a.2.2.2.1=3 then 0 else a.2.2.2.2.2.2.1,if a.2.2.2.1=4 then 0 else a.2.2.2.2.2.2.2)))
 else a
def thV (a e:Sm):Int:=
 if e.2.2.1=1 then(if a.2.2.2.1=0 then a.2.2.1+1 else if a.2.2.2.1=1 then a.2.2.2.2.1+1 else if a.2.2.2.1=2 then a.2.2.2.2.2.1+1 else if a.2.2.2.1=3 then a.2.2.2.2.2.2.1+1 else a.2.2.2.2.2.2.2+1)else 0
theorem o_aC {x y:Int}{e:Sm}(J:Form x y e)(O:0≤x∧x≤4):OkS e:=by
 rcases J with⟨rfl,H⟩|⟨rfl,I,H⟩|⟨rfl,I,H⟩|⟨rfl,I,H⟩<;>exact Qan.2 (by omega)
structure ThOk (a e:Sm) (y:Int):Prop where
 prog:F.bI a e=if(1048576:Int)<thV a e then some ((0,0,0,0,(0,0,0,0)),12)else some (thW a e,0)
 ref:F.b9 a e=(F.z (thW a e)).bind fun r=>if r≠0 then some ((0,0,0,0,(0,0,0,0)),12)else some (thW a e,0)
 ok:OkS (thW a e)↔¬(1048576:Int)<thV a e
 from_:(thW a e).1=a.1
 ends:(thW a e).2.1+(thW a e).2.2.2.1=y
 app:(opS e).app (ctr a)=if thV a e≤1048576 then some (ctr (thW a e))else none
theorem c00 {f B H I J O:Int}:ctr (f,0,B,0,(H,I,J,O))=[]:=rfl
theorem c01 {f B H I J O:Int}:ctr (f,0,B,1,(H,I,J,O))=[(false,H)]:=rfl
theorem c02 {f B H I J O:Int}:ctr (f,0,B,2,(H,I,J,O))=[(false,H),(false,I)]:=rfl
theorem c03 {f B H I J O:Int}:ctr (f,0,B,3,(H,I,J,O))=[(false,H),(false,I),(false,J)]:=rfl
theorem c04 {f B H I J O:Int}:ctr (f,0,B,4,(H,I,J,O))=[(false,H),(false,I),(false,J),(false,O)]:=rfl
theorem c10 {f B H I J O:Int}:ctr (f,1,B,0,(H,I,J,O))=[(true,B)]:=rfl
theorem c11 {f B H I J O:Int}:ctr (f,1,B,1,(H,I,J,O))=[(true,B),(false,H)]:=rfl
theorem c12 {f B H I J O:Int}:ctr (f,1,B,2,(H,I,J,O))=[(true,B),(false,H),(false,I)]:=rfl
theorem c13 {f B H I J O:Int}:ctr (f,1,B,3,(H,I,J,O))=[(true,B),(false,H),(false,I),(false,J)]:=rfl
theorem c20 {f B H I J O:Int}:ctr (f,2,B,0,(H,I,J,O))=[(true,0),(true,B)]:=rfl
theorem c21 {f B H I J O:Int}:ctr (f,2,B,1,(H,I,J,O))=[(true,0),(true,B),(false,H)]:=rfl
theorem c22 {f B H I J O:Int}:ctr (f,2,B,2,(H,I,J,O))=[(true,0),(true,B),(false,H),(false,I)]:=rfl
theorem c30 {f B H I J O:Int}:ctr (f,3,B,0,(H,I,J,O))=[(true,0),(true,0),(true,B)]:=rfl
theorem c31 {f B H I J O:Int}:ctr (f,3,B,1,(H,I,J,O))=[(true,0),(true,0),(true,B),(false,H)]:=rfl
theorem c40 {f B H I J O:Int}:ctr (f,4,B,0,(H,I,J,O))=[(true,0),(true,0),(true,0),(true,B)]:=rfl
theorem thN0 {f K B x y:Int}{e:Sm}(H:OkS (f,K,B,0,(0,0,0,0)))(hx:K+0=x)(I:Form x y e):ThOk (f,K,B,0,(0,0,0,0)) e y:=by
 have hk:=Qan.1 H
 obtain⟨n,hn⟩: ∃n,A.FU=n+5:=⟨A.FU-5,by decide⟩
 have g00: -9223372036854775808≤B∧B≤9223372036854775807:=by omega
 have g01: -9223372036854775808≤B+1∧B+1≤9223372036854775807:=by omega
 have g02: -9223372036854775808≤1+B∧1+B≤9223372036854775807:=by omega
 have b0:B≤1048576:=by omega
 have cK:K=0∨K=1∨K=2∨K=3∨K=4:=by omega
 have J:=o_aC I (by omega)
 subst hx
 rcases cK with rfl|rfl|rfl|rfl|rfl<;>rcases I with⟨rfl,rfl⟩|⟨rfl,O,rfl⟩|⟨rfl,O,rfl⟩|⟨rfl,O,rfl⟩<;>first
  |(exfalso;omega)
  |exact⟨(by unfold F.bI;rw[show F.ax (_,_,_,_,(_,_,_,_))=some true from o_r H,Qa,show F.ax (_,_,_,_,(_,_,_,_))=some true from o_r J];simp[thW,thV,F.bQ,F.bo,A.cp4,A.ix,A.gd,Z.R64,Jv 1 B,g00,g01,g02,b0,Wz.2 b0]),(by unfold F.b9;rw[show F.z (_,_,_,_,(_,_,_,_))=some 0 from o_e H,Qa,show F.z (_,_,_,_,(_,_,_,_))=some 0 from o_e J];simp[thW,F.cf,F.ce,F.cd,F.bq,F.cc,F.cb,A.ix,A.gd,Z.R64,Int.min_def,hn,g00,g01,g02]),(by simp[thW,thV];rw[Qan];omega),(by simp[thW]),(by simp[thW]),(by simp[thW,thV,opS,Pth.Op.app,Pth.bump,c00,c01,c02,c03,c04,c10,c11,c12,c13,c20,c21,c22,c30,c31,c40,b0,Wz.2 b0])⟩
theorem thN1 {f K B H x y:Int}{e:Sm}(I:OkS (f,K,B,1,(H,0,0,0)))(hx:K+1=x)(J:Form x y e):ThOk (f,K,B,1,(H,0,0,0)) e y:=by
 have hk:=Qan.1 I
 obtain⟨n,hn⟩: ∃n,A.FU=n+5:=⟨A.FU-5,by decide⟩
 have g00: -9223372036854775808≤B∧B≤9223372036854775807:=by omega
 have g01: -9223372036854775808≤B+1∧B+1≤9223372036854775807:=by omega
 have g02: -9223372036854775808≤1+B∧1+B≤9223372036854775807:=by omega
 have b0:B≤1048576:=by omega
 have g10: -9223372036854775808≤H∧H≤9223372036854775807:=by omega
 have g11: -9223372036854775808≤H+1∧H+1≤9223372036854775807:=by omega
 have g12: -9223372036854775808≤1+H∧1+H≤9223372036854775807:=by omega
 have b1:H≤1048576:=by omega
 have cK:K=0∨K=1∨K=2∨K=3:=by omega
 have O:=o_aC J (by omega)
 subst hx
 rcases cK with rfl|rfl|rfl|rfl<;>rcases J with⟨rfl,rfl⟩|⟨rfl,h1,rfl⟩|⟨rfl,h1,rfl⟩|⟨rfl,h1,rfl⟩<;>first
  |(exfalso;omega)
  |exact⟨(by unfold F.bI;rw[show F.ax (_,_,_,_,(_,_,_,_))=some true from o_r I,Qa,show F.ax (_,_,_,_,(_,_,_,_))=some true from o_r O];simp[thW,thV,F.bQ,F.bo,A.cp4,A.ix,A.gd,Z.R64,Jv 1 B,g00,g01,g02,g10,g11,g12,b0,Wz.2 b0,b1,Wz.2 b1]),(by unfold F.b9;rw[show F.z (_,_,_,_,(_,_,_,_))=some 0 from o_e I,Qa,show F.z (_,_,_,_,(_,_,_,_))=some 0 from o_e O];simp[thW,F.cf,F.ce,F.cd,F.bq,F.cc,F.cb,A.ix,A.gd,Z.R64,Int.min_def,hn,g00,g01,g02,g10,g11,g12]),(by simp[thW,thV];rw[Qan];omega),(by simp[thW]),(by simp[thW]),(by simp[thW,thV,opS,Pth.Op.app,Pth.bump,c00,c01,c02,c03,c04,c10,c11,c12,c13,c20,c21,c22,c30,c31,c40,b0,Wz.2 b0,b1,Wz.2 b1])⟩
theorem thN2 {f K B H I x y:Int}{e:Sm}(J:OkS (f,K,B,2,(H,I,0,0)))(hx:K+2=x)(O:Form x y e):ThOk (f,K,B,2,(H,I,0,0)) e y:=by
 have hk:=Qan.1 J
 obtain⟨n,hn⟩: ∃n,A.FU=n+5:=⟨A.FU-5,by decide⟩
 have g00: -9223372036854775808≤B∧B≤9223372036854775807:=by omega
 have g01: -9223372036854775808≤B+1∧B+1≤9223372036854775807:=by omega
 have g02: -9223372036854775808≤1+B∧1+B≤9223372036854775807:=by omega
 have b0:B≤1048576:=by omega
 have g10: -9223372036854775808≤H∧H≤9223372036854775807:=by omega
 have g11: -9223372036854775808≤H+1∧H+1≤9223372036854775807:=by omega
 have g12: -9223372036854775808≤1+H∧1+H≤9223372036854775807:=by omega
 have b1:H≤1048576:=by omega
 have g20: -9223372036854775808≤I∧I≤9223372036854775807:=by omega
 have g21: -9223372036854775808≤I+1∧I+1≤9223372036854775807:=by omega
 have g22: -9223372036854775808≤1+I∧1+I≤9223372036854775807:=by omega
 have b2:I≤1048576:=by omega
 have cK:K=0∨K=1∨K=2:=by omega
 have he:=o_aC O (by omega)
 subst hx
 rcases cK with rfl|rfl|rfl<;>rcases O with⟨rfl,rfl⟩|⟨rfl,h1,rfl⟩|⟨rfl,h1,rfl⟩|⟨rfl,h1,rfl⟩<;>first
  |(exfalso;omega)
  |exact⟨(by unfold F.bI;rw[show F.ax (_,_,_,_,(_,_,_,_))=some true from o_r J,Qa,show F.ax (_,_,_,_,(_,_,_,_))=some true from o_r he];simp[thW,thV,F.bQ,F.bo,A.cp4,A.ix,A.gd,Z.R64,Jv 1 B,g00,g01,g02,g10,g11,g12,g20,g21,g22,b0,Wz.2 b0,b1,Wz.2 b1,b2,Wz.2 b2]),(by unfold F.b9;rw[show F.z (_,_,_,_,(_,_,_,_))=some 0 from o_e J,Qa,show F.z (_,_,_,_,(_,_,_,_))=some 0 from o_e he];simp[thW,F.cf,F.ce,F.cd,F.bq,F.cc,F.cb,A.ix,A.gd,Z.R64,Int.min_def,hn,g00,g01,g02,g10,g11,g12,g20,g21,g22]),(by simp[thW,thV];rw[Qan];omega),(by simp[thW]),(by simp[thW]),(by simp[thW,thV,opS,Pth.Op.app,Pth.bump,c00,c01,c02,c03,c04,c10,c11,c12,c13,c20,c21,c22,c30,c31,c40,b0,Wz.2 b0,b1,Wz.2 b1,b2,Wz.2 b2])⟩
theorem thN3 {f K B H I J x y:Int}{e:Sm}(O:OkS (f,K,B,3,(H,I,J,0)))(hx:K+3=x)(hf:Form x y e):ThOk (f,K,B,3,(H,I,J,0)) e y:=by
 have hk:=Qan.1 O
 obtain⟨n,hn⟩: ∃n,A.FU=n+5:=⟨A.FU-5,by decide⟩
 have g00: -9223372036854775808≤B∧B≤9223372036854775807:=by omega
 have g01: -9223372036854775808≤B+1∧B+1≤9223372036854775807:=by omega
 have g02: -9223372036854775808≤1+B∧1+B≤9223372036854775807:=by omega
 have b0:B≤1048576:=by omega
 have g10: -9223372036854775808≤H∧H≤9223372036854775807:=by omega
 have g11: -9223372036854775808≤H+1∧H+1≤9223372036854775807:=by omega
 have g12: -9223372036854775808≤1+H∧1+H≤9223372036854775807:=by omega
 have b1:H≤1048576:=by omega
 have g20: -9223372036854775808≤I∧I≤9223372036854775807:=by omega
 have g21: -9223372036854775808≤I+1∧I+1≤9223372036854775807:=by omega
 have g22: -9223372036854775808≤1+I∧1+I≤9223372036854775807:=by omega
 have b2:I≤1048576:=by omega
 have g30: -9223372036854775808≤J∧J≤9223372036854775807:=by omega
 have g31: -9223372036854775808≤J+1∧J+1≤9223372036854775807:=by omega
 have g32: -9223372036854775808≤1+J∧1+J≤9223372036854775807:=by omega
 have b3:J≤1048576:=by omega
 have cK:K=0∨K=1:=by omega
 have he:=o_aC hf (by omega)
 subst hx
 rcases cK with rfl|rfl<;>rcases hf with⟨rfl,rfl⟩|⟨rfl,h1,rfl⟩|⟨rfl,h1,rfl⟩|⟨rfl,h1,rfl⟩<;>first
  |(exfalso;omega)
  |exact⟨(by unfold F.bI;rw[show F.ax (_,_,_,_,(_,_,_,_))=some true from o_r O,Qa,show F.ax (_,_,_,_,(_,_,_,_))=some true from o_r he];simp[thW,thV,F.bQ,F.bo,A.cp4,A.ix,A.gd,Z.R64,Jv 1 B,g00,g01,g02,g10,g11,g12,g20,g21,g22,g30,g31,g32,b0,Wz.2 b0,b1,Wz.2 b1,b2,Wz.2 b2,b3,Wz.2 b3]),(by unfold F.b9;rw[show F.z (_,_,_,_,(_,_,_,_))=some 0 from o_e O,Qa,show F.z (_,_,_,_,(_,_,_,_))=some 0 from o_e he];simp[thW,F.cf,F.ce,F.cd,F.bq,F.cc,F.cb,A.ix,A.gd,Z.R64,Int.min_def,hn,g00,g01,g02,g10,g11,g12,g20,g21,g22,g30,g31,g32]),(by simp[thW,thV];rw[Qan];omega),(by simp[thW]),(by simp[thW]),(by simp[thW,thV,opS,Pth.Op.app,Pth.bump,c00,c01,c02,c03,c04,c10,c11,c12,c13,c20,c21,c22,c30,c31,c40,b0,Wz.2 b0,b1,Wz.2 b1,b2,Wz.2 b2,b3,Wz.2 b3])⟩
theorem thN4 {f K B H I J O x y:Int}{e:Sm}(hs:OkS (f,K,B,4,(H,I,J,O)))(hx:K+4=x)(hf:Form x y e):ThOk (f,K,B,4,(H,I,J,O)) e y:=by
 have hk:=Qan.1 hs
 obtain⟨n,hn⟩: ∃n,A.FU=n+5:=⟨A.FU-5,by decide⟩
 have g00: -9223372036854775808≤B∧B≤9223372036854775807:=by omega
 have g01: -9223372036854775808≤B+1∧B+1≤9223372036854775807:=by omega
 have g02: -9223372036854775808≤1+B∧1+B≤9223372036854775807:=by omega
 have b0:B≤1048576:=by omega
 have g10: -9223372036854775808≤H∧H≤9223372036854775807:=by omega
 have g11: -9223372036854775808≤H+1∧H+1≤9223372036854775807:=by omega
 have g12: -9223372036854775808≤1+H∧1+H≤9223372036854775807:=by omega
 have b1:H≤1048576:=by omega
 have g20: -9223372036854775808≤I∧I≤9223372036854775807:=by omega
 have g21: -9223372036854775808≤I+1∧I+1≤9223372036854775807:=by omega
 have g22: -9223372036854775808≤1+I∧1+I≤9223372036854775807:=by omega
 have b2:I≤1048576:=by omega
 have g30: -9223372036854775808≤J∧J≤9223372036854775807:=by omega
 have g31: -9223372036854775808≤J+1∧J+1≤9223372036854775807:=by omega
 have g32: -9223372036854775808≤1+J∧1+J≤9223372036854775807:=by omega
 have b3:J≤1048576:=by omega
 have g40: -9223372036854775808≤O∧O≤9223372036854775807:=by omega
 have g41: -9223372036854775808≤O+1∧O+1≤9223372036854775807:=by omega
 have g42: -9223372036854775808≤1+O∧1+O≤9223372036854775807:=by omega
 have b4:O≤1048576:=by omega
 have cK:K=0:=by omega
 have he:=o_aC hf (by omega)
 subst hx
 rcases cK with rfl<;>rcases hf with⟨rfl,rfl⟩|⟨rfl,h1,rfl⟩|⟨rfl,h1,rfl⟩|⟨rfl,h1,rfl⟩<;>first
  |(exfalso;omega)
  |exact⟨(by unfold F.bI;rw[show F.ax (_,_,_,_,(_,_,_,_))=some true from o_r hs,Qa,show F.ax (_,_,_,_,(_,_,_,_))=some true from o_r he];simp[thW,thV,F.bQ,F.bo,A.cp4,A.ix,A.gd,Z.R64,Jv 1 B,g00,g01,g02,g10,g11,g12,g20,g21,g22,g30,g31,g32,g40,g41,g42,b0,Wz.2 b0,b1,Wz.2 b1,b2,Wz.2 b2,b3,Wz.2 b3,b4,Wz.2 b4]),(by unfold F.b9;rw[show F.z (_,_,_,_,(_,_,_,_))=some 0 from o_e hs,Qa,show F.z (_,_,_,_,(_,_,_,_))=some 0 from o_e he];simp[thW,F.cf,F.ce,F.cd,F.bq,F.cc,F.cb,A.ix,A.gd,Z.R64,Int.min_def,hn,g00,g01,g02,g10,g11,g12,g20,g21,g22,g30,g31,g32,g40,g41,g42]),(by simp[thW,thV];rw[Qan];omega),(by simp[thW]),(by simp[thW]),(by simp[thW,thV,opS,Pth.Op.app,Pth.bump,c00,c01,c02,c03,c04,c10,c11,c12,c13,c20,c21,c22,c30,c31,c40,b0,Wz.2 b0,b1,Wz.2 b1,b2,Wz.2 b2,b3,Wz.2 b3,b4,Wz.2 b4])⟩
theorem then_form {a e:Sm}{x y:Int}(I:OkS a)(H:a.2.1+a.2.2.2.1=x)(J:Form x y e):ThOk a e y:=by
 obtain⟨f,K,A,N,p0,p1,p2,O⟩:=a
 have hk:=Qan.1 I
 have H:K+N=x:=H
 have cN:N=0∨N=1∨N=2∨N=3∨N=4:=by omega
 rcases cN with rfl|rfl|rfl|rfl|rfl
 ·obtain rfl:p0=0:=(by omega);obtain rfl:p1=0:=(by omega);obtain rfl:p2=0:=(by omega);obtain rfl:O=0:=(by omega);exact thN0 I H J
 ·obtain rfl:p1=0:=(by omega);obtain rfl:p2=0:=(by omega);obtain rfl:O=0:=(by omega);exact thN1 I H J
 ·obtain rfl:p2=0:=(by omega);obtain rfl:O=0:=(by omega);exact thN2 I H J
 ·obtain rfl:O=0:=(by omega);exact thN3 I H J
 ·exact thN4 I H J
abbrev PE:=Pth.Ed (V:=Pl)
def eNt (e:Ed):PE:=⟨e.1,e.2.1,opS e.2.2⟩
def dpN (g:List Nd)(d:List Int)(p:Pl):Nat:=(Dp g d p).toNat
def i0N (g:List Nd)(d:List Int)(p:Pl):Pth.D:=List.replicate (dpN g d p) (true,0)
def lpsN (g:List Nd):List Pl:=(g.filter fun n=>decide (n.2.1=14)).map fun n=>(n.1,2)
def EN (g:List Nd)(d:List Int):List PE:=(edges g d).map eNt
theorem within_add {n:Nd}{x:Int}(h:n.2.1≠14):(Qaj n x).2.2.1=0:=by
 have st: ∀(lo H:Int) (t:Sm),t.2.2.1=0→(Qbk x lo H t).1.2.2.1=0:=fun lo H t h=>by
  unfold Qbk
  split
  ·rfl
  ·exact h
 unfold Qaj
 split
 ·exact st _ _ _ rfl
 ·(split)
  ·exact st _ _ _ rfl
  ·first|exact st _ _ _ rfl|(rw[if_neg h];exact st _ _ _ rfl)
theorem id_add {x:Int}:(idP x).1.2.2.1=0:=by
 unfold idP Qbk
 split<;>rfl
structure EF (g:List Nd) (d:List Int) (e:Ed):Prop where
 form:Form (Dp g d e.1) (Dp g d e.2.1) e.2.2
 src:0≤Dp g d e.1∧Dp g d e.1≤4
 tgt:0≤Dp g d e.2.1∧Dp g d e.2.1≤4
 lp:e.2.2.2.2.1≠0→e.2.1∈lpsN g
 ends:(∃a,(e.1,a)∈spots g d)∧∃b,(e.2.1,b)∈spots g d
theorem Qak {g:List Nd}{l d:List Int}{dm:List (Int×Int)}(W:Whole g l d dm){e:Ed}(he:e∈edges g d):EF g d e:=by
 obtain⟨a,b,ha,hb,K,_⟩:=edge_kd W he
 have O:=nodup_S (d:=d) W.inc W.own
 have ea:Dp g d e.1=a:=mget_mem O ha
 have eb:Dp g d e.2.1=b:=mget_mem O hb
 have fin: ∀(n:Nd) (x:Int),Form a b e.2.2→(0≤a∧a≤4)→(e.2.2.2.2.1≠0→e.2.1∈lpsN g)→EF g d e:=fun n x R I hl=>by
  refine⟨by rw[ea,eb];exact R,by rw[ea];exact I,?_,hl,⟨a,ha⟩,⟨b,hb⟩⟩
  rw[eb]
  rcases R with⟨_,h⟩|⟨_,h1,h⟩|⟨_,h1,h⟩|⟨_,h1,h⟩<;>omega
 obtain⟨j,n,hn,h15,h|h⟩:=Qcn d 0 g e he
 ·obtain⟨k,z,hz,rfl⟩:=Qiu g d n 0 n.2.2.1 e h
  have hng:=Qf hn
  have ex:Dp g d (n.1,((0+k:Nat):Int))=iget d (idx g z):=mget_mem O (Qax d 0 g n hng _ (Qfo g d n.1 0 n.2.2.1 k z hz))
  have H:a=iget d (idx g z):=by rw[←ea];exact ex
  have I:=W.inb (idx g z)
  refine fin n (iget d (idx g z)) (by rw[H];exact form_of I (.inl rfl) K H) (by rw[H];exact I) fun h0=>?_
  by_cases J:n.2.1=14
  ·exact Qt.2 ⟨n,Yn.2 ⟨hng,decide_eq_true J⟩,rfl⟩
  ·exact absurd (within_add J) h0
 ·unfold outE at h
  obtain⟨u,hu,rfl⟩:=Qt.1 h
  have h2:=spotsF_outP (g:=g) d 0 g j n hn h15
  have ex:Dp g d (n.1,2)=iget d ((0+j:Nat):Int):=mget_mem O h2
  have H:a=iget d ((0+j:Nat):Int):=by rw[←ea];exact ex
  have I:=W.inb ((0+j:Nat):Int)
  exact fin n (iget d ((0+j:Nat):Int)) (by rw[H];exact form_of (n:=n) I (.inr rfl) K H) (by rw[H];exact I) fun h0=>absurd id_add h0
theorem netN {g:List Nd}{l d:List Int}{dm:List (Int×Int)}(W:Whole g l d dm):Pth.Net (EN g d) (i0N g d) (dpN g d) (lpsN g) where
 i0e p:=rfl
 keep e he:=by
  obtain⟨e,hE,rfl⟩:=Qt.1 he
  have h:=Qak W hE
  have h1:=h.src
  show e.2.2.2.1.toNat≤(Dp g d e.1).toNat
  rcases h.form with⟨h2,h3⟩|⟨h2,_,h3⟩|⟨h2,_,h3⟩|⟨h2,_,h3⟩<;>rw[h2]<;>simp only<;>omega
 ends e he:=by
  obtain⟨e,hE,rfl⟩:=Qt.1 he
  have h:=Qak W hE
  have h1:=h.src
  show e.2.2.2.1.toNat+e.2.2.2.2.2.1.toNat=(Dp g d e.2.1).toNat
  rcases h.form with⟨h2,h3⟩|⟨h2,_,h3⟩|⟨h2,_,h3⟩|⟨h2,_,h3⟩<;>rw[h2,h3]<;>simp only<;>omega
 add e he:=by
  obtain⟨e,hE,rfl⟩:=Qt.1 he
  have h:=Qak W hE
  have h1:=h.src
  show e.2.2.2.2.1=0∨(e.2.2.2.2.1=1∧e.2.2.2.1.toNat=(Dp g d e.1).toNat∧e.2.2.2.2.2.1.toNat=0∧e.2.1∈lpsN g)
  have hl:=h.lp
  rcases h.form with⟨h2,h3⟩|⟨h2,_,h3⟩|⟨h2,_,h3⟩|⟨h2,_,h3⟩<;>rw[h2]at hl ⊢
  ·exact .inl rfl
  ·exact .inl rfl
  ·exact .inl rfl
  ·exact .inr ⟨rfl,rfl,rfl,hl (show(1:Int)≠0 by decide)⟩
 few:=by
  have h1:=X5 (fun n:Nd=>decide (n.2.1=14)) g
  have h2:=W.l32
  unfold lpsN
  rw[Qw];omega
theorem lps32 {g:List Nd}{l d:List Int}{dm:List (Int×Int)}(W:Whole g l d dm):(lpsN g).length≤32:=by
 have H:=X5 (fun n:Nd=>decide (n.2.1=14)) g
 have I:=W.l32
 unfold lpsN
 rw[Qw];omega
theorem dp4 {g:List Nd}{l d:List Int}{dm:List (Int×Int)}(W:Whole g l d dm){p:Pl}{a:Int}(h:(p,a)∈spots g d):Dp g d p=a∧0≤a∧a≤4:=by
 have I:=nodup_S (d:=d) W.inc W.own
 refine⟨mget_mem I h,?_⟩
 have: ∀(i:Nat) (l:List Nd) (sp:Sp),sp∈spotsF g d i l→0≤sp.2∧sp.2≤4:=by
  intro i l
  induction l generalizing i with
  |nil=>intro sp h;cases h
  |cons n r J=>
   intro sp h
   unfold spotsF at h
   rcases Qn.1 h with h|h
   ·have: ∀(k:Nat) (l:List Int),sp∈insS g d n.1 k l→0≤sp.2∧sp.2≤4:=by
     intro k l
     induction l generalizing k with
     |nil=>intro h;cases h
     |cons y r H=>
      intro h
      unfold insS at h
      rcases Qk.1 h with rfl|h
      ·exact W.inb _
      ·exact H (k+1) h
    exact this _ _ h
   ·rcases Qn.1 h with h|h
    ·unfold outS at h
     split at h
     ·rw[Qi]at h;subst h;exact W.inb _
     ·cases h
    ·exact J (i+1) sp h
 exact this 0 g (p,a) h
def GN (g:List Nd)(d:List Int)(p q:Pl)(s:Sm):Prop:=GS (dpN g d p) (dpN g d q) s
def sumE (dep:Pl→Nat)(e:PE):Sm:=((dep e.src:Int),(e.op.keep:Int),e.op.add,(e.op.zeros:Int),(0,0,0,0))
def thnN (g:List Nd)(d:List Int)(e:PE)(s:Sm):Option Sm:=if thV s (sumE (dpN g d) e)≤1048576 then some (thW s (sumE (dpN g d) e))else none
theorem sum_eq {g:List Nd}{d:List Int}{e:Ed}(h:EF g d e):sumE (dpN g d) (eNt e)=e.2.2:=by
 have J:=h.src
 unfold sumE eNt dpN opS
 simp only
 have e1:((Dp g d e.1).toNat:Int)=Dp g d e.1:=by omega
 rcases h.form with⟨H,I⟩|⟨H,_,I⟩|⟨H,_,I⟩|⟨H,_,I⟩<;>rw[H]<;>simp only[e1]
 ·rfl
 ·rfl
 ·rw[show(((Dp g d e.1)-1).toNat:Int)=Dp g d e.1-1 by omega];rfl
 ·rfl
theorem Qii {g:List Nd}{d:List Int}{e:Ed}(h:EF g d e){p:Pl}{s:Sm}(I:GN g d p e.1 s):ThOk s e.2.2 (Dp g d e.2.1):=by
 have J:=h.src
 obtain⟨o,O,H⟩:=I
 unfold dpN at H
 exact then_form o (by rw[H];omega) h.form
theorem syN {g:List Nd}{l d:List Int}{dm:List (Int×Int)}(W:Whole g l d dm):Pth.Sy (EN g d) ctr ltS (GN g d) (thnN g d) where
 lin:=linS
 inj ha hb h:=ctr_inj ha hb h
 ok h:=o_cd h.1
 some he hs h:=by
  obtain⟨e,hE,rfl⟩:=Qt.1 he
  have R:=Qak W hE
  have T:=Qii R hs
  have h4:=R.tgt
  unfold thnN at h
  rw[sum_eq R]at h
  split at h
  ·rename_i hv
   obtain rfl:=Qp h
   refine⟨⟨T.ok.2 (by omega),by rw[T.from_];exact hs.2.1,?_⟩,?_⟩
   ·rw[T.ends]
    show Dp g d e.2.1=((Dp g d e.2.1).toNat:Int)
    omega
   ·show(opS e.2.2).app _=_
    rw[T.app,if_pos hv]
  ·cases h
 none he hs h:=by
  obtain⟨e,hE,rfl⟩:=Qt.1 he
  have R:=Qak W hE
  have T:=Qii R hs
  unfold thnN at h
  rw[sum_eq R]at h
  split at h
  ·cases h
  ·rename_i hv
   show(opS e.2.2).app _=_
   rw[T.app,if_neg hv]
theorem Qhr {g:List Nd}{l d:List Int}{dm:List (Int×Int)}(W:Whole g l d dm){e:Ed}(I:e∈edges g d){p:Pl}{s:Sm}(J:GN g d p e.1 s):
  (∃m,thnN g d (eNt e) s=some m∧F.bI s e.2.2=some (m,0)∧F.b9 s e.2.2=some (m,0))∨(thnN g d (eNt e) s=none∧∃z,F.bI s e.2.2=some (z,12)∧F.b9 s e.2.2=some (z,12)):=by
 have R:=Qak W I
 have T:=Qii R J
 unfold thnN
 rw[sum_eq R,T.prog,T.ref]
 by_cases H:thV s e.2.2≤1048576
 ·rw[if_pos H,if_neg (by omega),o_e (T.ok.2 (by omega)),Qa,if_neg (by decide)]
  exact .inl ⟨_,rfl,rfl,rfl⟩
 ·rw[if_neg H,if_pos (by omega),Check_no (fun h=>T.ok.1 h (by omega)),Qa,if_pos (by decide)]
  exact .inr ⟨rfl,_,rfl,rfl⟩
theorem o_b9 {g:List Nd}{l d:List Int}{dm:List (Int×Int)}(W:Whole g l d dm){p:Pl}{x:Int}(h:(p,x)∈spots g d):F.dx x=some (idP x)∧F.eQ x=some (idP x)∧idP x=((x,x,0,0,(0,0,0,0)),0)∧GN g d p p (idP x).1∧ctr (idP x).1=i0N g d p:=by
 obtain⟨H,I⟩:=dp4 W h
 have e:idP x=((x,x,0,0,(0,0,0,0)),0):=by unfold idP Qbk;rw[if_neg (by omega)]
 refine⟨Id_eqP x I,Id_eqR x I,e,⟨by rw[e];exact Qan.2 (by omega),?_,?_⟩,?_⟩
 ·rw[e];unfold dpN;rw[H];show x=_;omega
 ·rw[e];unfold dpN;rw[H];show x+0=_;omega
 ·rw[e]
  unfold i0N dpN
  rw[H]
  exact five (P:=fun x=>ctr (x,x,0,0,(0,0,0,0))=List.replicate x.toNat (true,0)) rfl rfl rfl rfl rfl x I
theorem leC_t {x y:Pth.Ctr}(h:x.1=true∧y.1=false):Pth.leC x y↔y.2=1048576:=by unfold Pth.leC;rw[if_pos h]
theorem leC_f {x y:Pth.Ctr}(h: ¬(x.1=true∧y.1=false)):Pth.leC x y↔x.2≤y.2:=by unfold Pth.leC;rw[if_neg h]
theorem all_le {α:Type}(f g:α→Pth.Ctr)(l:List α):(l.all fun i=>decide (Pth.leC (f i) (g i)))=decide (Pth.le (l.map f) (l.map g)):=by
 rw[Y4,Qz,decide_eq_true_iff,Pth.le_map]
 simp only[decide_eq_true_eq]
theorem cg_ix {s:Sm}(h:OkS s){i:Nat}(hi:i<4):(s.2.1≤(i:Int)→∃x,A.ix [s.2.2.2.2.1,s.2.2.2.2.2.1,s.2.2.2.2.2.2.1,s.2.2.2.2.2.2.2] ((i:Int)-s.2.1)=some x∧cg s i=(false,x))∧((i:Int)<s.2.1→cg s i=(true,if(i:Int)=s.2.1-1 then s.2.2.1 else 0)):=by
 have hk:=h.k
 constructor
 ·intro I
  obtain⟨x,O,H⟩:=ix4 (a:=s.2.2.2.2.1) (b:=s.2.2.2.2.2.1) (c:=s.2.2.2.2.2.2.1) (d:=s.2.2.2.2.2.2.2) (i:=(i:Int)-s.2.1) (by omega)
  refine⟨x,O,?_⟩
  unfold cg
  rw[if_neg (by omega),Jc]
  have e:i-s.2.1.toNat=((i:Int)-s.2.1).toNat:=by omega
  rw[e]
  show(false,([s.2.2.2.2.1,s.2.2.2.2.2.1,s.2.2.2.2.2.2.1,s.2.2.2.2.2.2.2][((i:Int)-s.2.1).toNat]?).getD 0)=_
  rw[H];rfl
 ·intro I
  unfold cg
  rw[if_pos I]
  by_cases J:(i:Int)=s.2.1-1
  ·rw[if_pos J,if_pos (by omega)]
  ·rw[if_neg J,if_neg (by omega)]
theorem leq_ix {a b:Sm}(ha:OkS a)(hb:OkS b){i:Nat}(hi:i<4):F.eZ a b (i:Int)=some (decide (Pth.leC (cg a i) (cg b i))):=by
 have ak:=ha.k
 have af:=ha.f
 have bk:=hb.k
 have bf:=hb.f
 obtain⟨a1,a2⟩:=cg_ix ha hi
 obtain⟨b1,b2⟩:=cg_ix hb hi
 have gj: ∀x y:Int,(cg a i).2=x→(cg b i).2=y→F.d3 a b (i:Int) x y=some (decide (Pth.leC (cg a i) (cg b i))):=fun x y J hy=>by
  unfold F.d3
  rw[A.ba]
  have e:((i:Int)<a.2.1∧b.2.1≤(i:Int))↔((cg a i).1=true∧(cg b i).1=false):=by
   by_cases I:(i:Int)<a.2.1
   ·rw[a2 I]
    by_cases H:(i:Int)<b.2.1
    ·rw[b2 H];simp;omega
    ·obtain⟨z,_,hz⟩:=b1 (by omega)
     rw[hz];simp;omega
   ·obtain⟨z,_,hz⟩:=a1 (by omega)
    rw[hz];simp;omega
  rw[←J,←hy]
  by_cases h:(i:Int)<a.2.1∧b.2.1≤(i:Int)
  ·rw[if_pos (decide_eq_true h)];exact congrArg some (decide_eq_decide.2 (leC_t (e.1 h)).symm)
  ·rw[if_neg (by rw[decide_eq_true_iff];exact h)];exact congrArg some (decide_eq_decide.2 (leC_f (fun H=>h (e.2 H))).symm)
 have g2: ∀x v:Int,(cg a i).2=x→((i:Int)<b.2.1→v=if(i:Int)=b.2.1-1 then b.2.2.1 else 0)→F.d4 a b (i:Int) v x=some (decide (Pth.leC (cg a i) (cg b i))):=fun x v J O=>by
  unfold F.d4
  by_cases h:b.2.1≤(i:Int)
  ·obtain⟨y,I,H⟩:=b1 h
   rw[if_pos h,A.gd1 ⟨by omega,by omega⟩,I,Qa]
   exact gj _ _ J (by rw[H])
  ·rw[if_neg h]
   exact gj _ _ J (by rw[b2 (by omega),O (by omega)])
 have g3: ∀u v:Int,((i:Int)<a.2.1→u=if(i:Int)=a.2.1-1 then a.2.2.1 else 0)→((i:Int)<b.2.1→v=if(i:Int)=b.2.1-1 then b.2.2.1 else 0)→F.d5 a b (i:Int) u v=some (decide (Pth.leC (cg a i) (cg b i))):=fun u v hu O=>by
  unfold F.d5
  by_cases h:a.2.1≤(i:Int)
  ·obtain⟨x,I,H⟩:=a1 h
   rw[if_pos h,A.gd1 ⟨by omega,by omega⟩,I,Qa]
   exact g2 _ _ (by rw[H]) O
  ·rw[if_neg h]
   exact g2 _ _ (by rw[a2 (by omega),hu (by omega)]) O
 have g4: ∀u:Int,((i:Int)<a.2.1→u=if(i:Int)=a.2.1-1 then a.2.2.1 else 0)→F.d6 a b (i:Int) u=some (decide (Pth.leC (cg a i) (cg b i))):=fun u hu=>by
  unfold F.d6
  rw[A.gd1 ⟨by omega,by omega⟩]
  by_cases h:(i:Int)=b.2.1-1
  ·rw[if_pos h];exact g3 _ _ hu fun _=>(if_pos h).symm
  ·rw[if_neg h];exact g3 _ _ hu fun _=>(if_neg h).symm
 unfold F.eZ
 rw[A.gd1 ⟨by omega,by omega⟩]
 by_cases h:(i:Int)=a.2.1-1
 ·rw[if_pos h];exact g4 _ fun _=>(if_pos h).symm
 ·rw[if_neg h];exact g4 _ fun _=>(if_neg h).symm
theorem Leq_R {x y:Int}{a b:Sm}(I:GS x y a)(J:GS x y b):F.eo a b=some (decide (Pth.le (ctr a) (ctr b))):=by
 obtain⟨oa,fa,ea⟩:=I
 obtain⟨ob,fb,eb⟩:=J
 have ak:=oa.k
 have an:=oa.n
 have akn:=oa.kn
 have bk:=ob.k
 have bn:=ob.n
 have loop:=A.lp0 (List.range (a.2.1+a.2.2.2.1).toNat) (fun f z=>F.dn a b f z) (fun k l=>some (l.all fun i=>decide (Pth.leC (cg a i) (cg b i))))
  (fun f=>by
   rw[X3,F.dn,A.gd1 ⟨by omega,by omega⟩,if_neg (by omega)];rfl)
  (fun f k i H hk O=>by
   rw[X3]at hk
   rw[Yo hk]at H
   obtain rfl:k=i:=Qp H
   rw[F.dn,A.gd1 ⟨by omega,by omega⟩,if_pos (by omega),show F.eZ (_,_,_,_,(_,_,_,_)) (_,_,_,_,(_,_,_,_)) (k:Int)=_ from leq_ix oa ob (i:=k) (by omega),Qa,Xx]
   cases hd:decide (Pth.leC (cg a k) (cg b k))with
   |false=>rfl
   |true=>rw[if_neg (by decide),A.gd1 (A.r64n (by omega)),O,Xn])
  (by rw[X3];have:=Qab;omega)
 rw[all_le]at loop
 unfold F.eo F.eC
 rw[show F.z (_,_,_,_,(_,_,_,_))=some 0 from o_e oa,Qa,if_neg (by decide),show F.z (_,_,_,_,(_,_,_,_))=some 0 from o_e ob,Qa,A.gd1 ⟨fun _=>⟨by omega,by omega⟩,fun _=>⟨by omega,by omega⟩⟩]
 simp only[ne_eq,not_true_eq_false,decide_false,cond_false,fa,fb,ea,eb,Qy,if_false]
 rw[loop]
 unfold ctr
 rw[ea,eb]
theorem Qdn {b:Sm}(J:OkS b):F.aZ b=some ((List.range (b.2.1+b.2.2.2.1).toNat).map fun(i:Nat)=>((i:Int),cg b i)):=by
 have bk:=J.k
 have bn:=J.n
 have bkn:=J.kn
 unfold F.aZ
 rw[A.gd1 ⟨by omega,by omega⟩]
 exact A.lp0 (List.range (b.2.1+b.2.2.2.1).toNat) (fun f z=>F.ae b f z) (fun k l=>some (l.map fun(i:Nat)=>((i:Int),cg b i)))
  (fun f=>by rw[X3,F.ae,if_neg (by omega)];rfl)
  (fun f k i hi hk ih=>by
   rw[X3]at hk
   rw[Yo hk]at hi
   obtain rfl:k=i:=Qp hi
   obtain⟨b1,b2⟩:=cg_ix J (i:=k) (by omega)
   have go: ∀v:Int,cg b k=(decide ((k:Int)<b.2.1),v)→F.aT (F.ae b f) b (k:Int) v=some ((k::(List.range (b.2.1+b.2.2.2.1).toNat).drop (k+1)).map fun(i:Nat)=>((i:Int),cg b i)):=fun v hv=>by
    unfold F.aT
    rw[A.gd1 (A.r64n (by omega)),ih,Q4,hv];rfl
   rw[F.ae,if_pos (by omega),A.gd1 ⟨by omega,by omega⟩]
   by_cases O:(k:Int)<b.2.1
   ·have H:=b2 O
    by_cases I:(k:Int)=b.2.1-1
    ·rw[if_pos I]
     rw[if_pos I]at H
     exact go _ (by rw[H,decide_eq_true O])
    ·rw[if_neg I,if_neg (by omega)]
     rw[if_neg I]at H
     exact go _ (by rw[H,decide_eq_true O])
   ·obtain⟨z,H,I⟩:=b1 (by omega)
    rw[if_neg (by omega),if_pos (by omega),A.gd1 ⟨by omega,by omega⟩,H,Qa]
    exact go _ (by rw[I,decide_eq_false O]))
  (by rw[X3];have:=Qab;omega)
theorem leqP_l2 {a b:Sm}{xs:List Pth.Ctr}(J:xs.length=4): ∀(l:List Nat),(∀i∈l,xs[i]?=some (cg b i))→F.bM xs (l.map fun(i:Nat)=>((i:Int),cg a i))=some (l.all fun i=>decide (Pth.leC (cg a i) (cg b i)))
 | [],_=>rfl
 |i::l,h=>by
  have ih:=leqP_l2 (a:=a) (b:=b) J l fun j O=>h j (Qe _ O)
  have hi:=A.ixn (h i (Qg ..))
  rw[Q4,F.bM,Xx]
  have tail: ∀t:Bool,(some ((if t=true then false else true)&&l.all fun i=>decide (Pth.leC (cg a i) (cg b i))):Option Bool)=if t=true then some false else some (l.all fun i=>decide (Pth.leC (cg a i) (cg b i))):=fun t=>by cases t<;>rfl
  have O: ∀y:Bool,(y=true↔((cg a i).1=true∧(cg b i).1=false))→F.dA (F.bM xs (l.map fun(i:Nat)=>((i:Int),cg a i))) xs ((i:Int),cg a i) y=some (decide (Pth.leC (cg a i) (cg b i))&&l.all fun i=>decide (Pth.leC (cg a i) (cg b i))):=fun y hy=>by
   unfold F.dA
   rw[A.gd1 J.symm,A.gd1 J.symm,hi,Qa,Qa,ih]
   by_cases H:y=true
   ·rw[if_pos H]
    by_cases I:(cg b i).2=1048576
    ·rw[if_neg (fun h=>h I),decide_eq_true ((leC_t (hy.1 H)).2 I)];rfl
    ·rw[if_pos I,decide_eq_false (fun h=>I ((leC_t (hy.1 H)).1 h))];rfl
   ·rw[if_neg H]
    have hn: ¬((cg a i).1=true∧(cg b i).1=false):=fun h=>H (hy.2 h)
    by_cases I:(cg b i).2<(cg a i).2
    ·rw[if_pos I,decide_eq_false (fun h=>by have:=(leC_f hn).1 h;omega)];rfl
    ·rw[if_neg I,decide_eq_true ((leC_f hn).2 (by omega))];rfl
  by_cases H:(cg a i).1=true
  ·rw[if_pos H,A.gd1 J.symm,hi,Qa]
   exact O _ (by rw[H];simp)
  ·rw[if_neg H]
   exact O _ (by simp[H])
theorem leqP_l3 {a b:Sm}(O:OkS a)(m:Nat)(hm:(a.2.1+a.2.2.2.1).toNat=m)(hm4:m≤4): ∀(n k:Nat) (xs:List Pth.Ctr),k+n=m→xs.length=4→(∀j,j<k→xs[j]?=some (cg b j))→
  F.cz a ((List.range' k n).map fun(i:Nat)=>((i:Int),cg b i)) xs=some (decide (Pth.le ((List.range m).map (cg a)) ((List.range m).map (cg b)))):=by
 intro n
 induction n with
 |zero=>
  intro k xs hk I h
  rw[List.range'_zero,Xr,F.cz,show F.cL (_,_,_,_,(_,_,_,_))=some a from rfl,Qa,show F.aZ (_,_,_,_,(_,_,_,_))=_ from Qdn O,Qa,hm]
  rw[leqP_l2 (b:=b) I _ fun i hi=>h i (by have:=Xj.1 hi;omega),all_le]
 |succ n ih=>
  intro k xs hk I h
  have J:xs[k]?=some xs[k]:=Qd (by omega)
  rw[List.range'_succ,Q4,F.cz,A.gd1 I.symm,A.ixn J,Qa]
  refine ih (k+1) _ (by omega) (by rw[Wr];exact I) fun j hj=>?_
  show(xs.set ((k:Int)).toNat (cg b k))[j]?=_
  rw[Qr,Y9]
  by_cases H:k=j
  ·subst H;rw[if_pos rfl,if_pos (by omega)]
  ·rw[if_neg H];exact h j (by omega)
theorem Leq_P {x y:Int}{a b:Sm}(H:GS x y a)(I:GS x y b):F.dJ a b=some (decide (Pth.le (ctr a) (ctr b))):=by
 obtain⟨oa,fa,ea⟩:=H
 obtain⟨ob,fb,eb⟩:=I
 have ak:=oa.k
 have an:=oa.n
 have akn:=oa.kn
 have bk:=ob.k
 have bn:=ob.n
 unfold F.dJ F.ec
 rw[show F.ax (_,_,_,_,(_,_,_,_))=some true from o_r oa,Qa,if_neg (by decide),show F.ax (_,_,_,_,(_,_,_,_))=some true from o_r ob,Qa,A.gd1 ⟨fun _=>⟨by omega,by omega⟩,fun _=>⟨by omega,by omega⟩⟩]
 rw[show(bif bif !true then true else decide (a.1≠b.1)then true else decide (a.2.1+a.2.2.2.1≠b.2.1+b.2.2.2.1))=false from by simp[fa,fb,ea,eb],if_neg (by decide),show F.cL (_,_,_,_,(_,_,_,_))=some b from rfl,Qa,show F.aZ (_,_,_,_,(_,_,_,_))=_ from Qdn ob,Qa,eb,List.range_eq_range']
 refine(leqP_l3 oa y.toNat (by rw[ea]) (by omega) y.toNat 0 _ (by omega) rfl (fun j J=>absurd J (by omega))).trans ?_
 unfold ctr
 rw[ea,eb]
def lexC:List Int→List Int→Int
 |x::a,y::b=>if x<y then-1 else if y<x then 1 else lexC a b
 |_,_=>0
theorem lexC_lt: ∀(a b:List Int),lexC a b<0↔Pth.ltL a b
 |x::a,y::b=>by
  unfold lexC Pth.ltL
  by_cases H:x<y
  ·rw[if_pos H];exact⟨fun _=>.inl H,fun _=>by decide⟩
  rw[if_neg H]
  by_cases I:y<x
  ·rw[if_pos I];exact⟨fun h=>absurd h (by decide),fun h=>h.elim (fun h=>absurd h H) fun h=>by omega⟩
  rw[if_neg I,lexC_lt a b]
  exact⟨fun h=>.inr ⟨by omega,h⟩,fun h=>h.elim (fun h=>absurd h H) fun h=>h.2⟩
 | [],b=>by cases b<;>exact⟨fun h=>absurd h (by simp[lexC]),fun h=>h.elim⟩
 |x::a,[]=>⟨fun h=>absurd h (by simp[lexC]),fun h=>h.elim⟩
theorem Qhw (a b:Sm):F.cW a b=some (lexC (ints a) (ints b)):=by
 have:=A.lp0 (ints a) (fun f z=>F.b8 a b f z) (fun k l=>some (lexC l ((ints b).drop k)))
  (fun f=>by rw[F.b8,if_neg (by simp[ints])];rfl)
  (fun f k x I hk J=>by
   have O:k<8:=hk
   have H:(ints b)[k]?=some ((ints b)[k]'(by show k<8;omega)):=Qd _
   have e1:A.ix [a.1,a.2.1,a.2.2.1,a.2.2.2.1,a.2.2.2.2.1,a.2.2.2.2.2.1,a.2.2.2.2.2.2.1,a.2.2.2.2.2.2.2] (k:Int)=some x:=A.ixn I
   have e2:A.ix [b.1,b.2.1,b.2.2.1,b.2.2.2.1,b.2.2.2.2.1,b.2.2.2.2.2.1,b.2.2.2.2.2.2.1,b.2.2.2.2.2.2.2] (k:Int)=some _:=A.ixn H
   rw[F.b8,A.ba,if_pos (decide_eq_true ⟨by omega,by omega⟩),e1,e2]
   simp only[Qa]
   rw[A.gd1 (A.r64n (by omega)),J,A.dropx H,lexC]
   repeat' split
   all_goals first|rfl|omega)
  (by show 8<A.FU;decide)
 rw[Q7]at this
 exact this
theorem Cmp64_eq (a b:Int):F.b1 a b=some (cmpI a b):=by
 unfold F.b1 F.cR cmpI
 simp only[Qa,ne_eq,not_true_eq_false,decide_false,Qy,if_false]
 split
 ·rfl
 ·split<;>rfl
theorem CompareI (a b:List Int)(h:a.length=b.length)(hl:a.length≤100):F.bA a b=some (lexC a b):=by
 have:=A.lp0 a (fun f z=>F.aq a b f z) (fun k l=>some (lexC l (b.drop k)))
  (fun f=>by rw[F.aq,if_neg (by omega),if_neg (by omega)];rfl)
  (fun f k x O hk ih=>by
   have J:b[k]?=some b[k]:=Qd (by omega)
   rw[F.aq,if_pos (by omega),A.ixn O,Qa,if_neg (by omega),A.ixn J,Qa,Cmp64_eq,Qa,A.gd1 (A.r64n (by omega)),ih,A.dropx J,lexC]
   unfold cmpI
   by_cases H:x<b[k]
   ·rw[if_pos H,if_pos H,if_pos (by decide)]
   rw[if_neg H,if_neg H]
   by_cases I:b[k]<x
   ·rw[if_pos I,if_pos I,if_pos (by decide)]
   ·rw[if_neg I,if_neg I,if_neg (by decide)])
  (by have:=Qab;omega)
 rw[Q7]at this
 exact this
theorem Qeb (a b:Sm):F.aU a b=some (lexC (ints a) (ints b)):=by
 have st: ∀(x y:Int) (r:List Int) (u v:List Int) (z:Option Int),(x=y→(if orF r≠0 then some (orF r)else z)=some (lexC u v))→(if orF (cmpI x y::r)≠0 then some (orF (cmpI x y::r))else z)=some (lexC (x::u) (y::v)):=fun x y r u v z h=>by
  have e0:orF (cmpI x y::r)=if cmpI x y≠0 then cmpI x y else orF r:=rfl
  have e1:lexC (x::u) (y::v)=if x<y then-1 else if y<x then 1 else lexC u v:=rfl
  rcases Int.lt_trichotomy x y with H|H|H
  ·have e:cmpI x y= -1:=by unfold cmpI;rw[if_pos H]
   have e2:orF (cmpI x y::r)= -1:=by rw[e0,e];rfl
   rw[e2,e1,if_pos H,if_pos (show(-1:Int)≠0 by decide)]
  ·have e2:orF (cmpI x y::r)=orF r:=by rw[e0,H,Qbx];rfl
   rw[e2,e1,if_neg (show ¬x<y by omega),if_neg (show ¬y<x by omega)];exact h H
  ·have e2:orF (cmpI x y::r)=1:=by rw[e0,Qis H];rfl
   rw[e2,e1,if_neg (show ¬x<y by omega),if_pos H,if_pos (show(1:Int)≠0 by decide)]
 unfold F.aU
 rw[Qdy,Qa,Qdy,Qa,Cmp64_eq,Qa,Qdy,Qa,Or_eq _ (by simp),Qa,CompareI _ _ (by simp) (by simp),Qa]
 exact st _ _ _ _ _ _ fun _=>st _ _ _ _ _ _ fun _=>st _ _ _ _ _ _ fun _=>st _ _ _ _ _ _ fun _=>by rw[orF,if_neg (fun h=>h rfl)]
instance decLess: ∀a b:Sm,Decidable (Pth.less ctr ltS a b):=fun a b=>inferInstanceAs (Decidable (Pth.le (ctr a) (ctr b)∧(¬Pth.le (ctr b) (ctr a)∨ltS a b)))
theorem cmp_lt (a b:Sm):decide (lexC (ints a) (ints b)<0)=decide (ltS a b):=decide_eq_decide.2 (lexC_lt _ _)
theorem less_P {x y:Int}{a b:Sm}(O:GS x y a)(hb:GS x y b):F.em a b=some (decide (Pth.less ctr ltS a b)):=by
 unfold F.em F.cD
 by_cases J:a=b
 ·rw[if_neg (fun h=>h J),decide_eq_false (by rw[J];exact Pth.less_irr linS _)]
 rw[if_pos J,show F.dJ (_,_,_,_,(_,_,_,_)) (_,_,_,_,(_,_,_,_))=_ from Leq_P O hb,Qa]
 by_cases H:Pth.le (ctr a) (ctr b)
 ·rw[if_pos (decide_eq_true H),show F.dJ (_,_,_,_,(_,_,_,_)) (_,_,_,_,(_,_,_,_))=_ from Leq_P hb O,Qa]
  by_cases I:Pth.le (ctr b) (ctr a)
  ·rw[if_neg (by rw[decide_eq_true I];decide),show F.aU (_,_,_,_,(_,_,_,_)) (_,_,_,_,(_,_,_,_))=_ from Qeb a b,Qa,cmp_lt]
   congr 1;rw[decide_eq_decide]
   exact⟨fun h=>⟨H,.inr h⟩,fun h=>h.2.resolve_left fun h3=>h3 I⟩
  ·rw[if_pos (by rw[decide_eq_false I];rfl),decide_eq_true (p:=Pth.less ctr ltS a b) ⟨H,.inl I⟩]
 ·rw[if_neg (by rw[decide_eq_true_iff];exact H),decide_eq_false (fun h=>H h.1)]
theorem under_R {x y:Int}{a b:Sm}(J:GS x y a)(O:GS x y b):F.ep a b=some (decide (Pth.less ctr ltS a b)):=by
 unfold F.ep F.c8
 rw[show F.eo (_,_,_,_,(_,_,_,_)) (_,_,_,_,(_,_,_,_))=_ from Leq_R J O,Qa]
 by_cases H:Pth.le (ctr a) (ctr b)
 ·rw[if_pos (decide_eq_true H),show F.eo (_,_,_,_,(_,_,_,_)) (_,_,_,_,(_,_,_,_))=_ from Leq_R O J,Qa]
  by_cases I:Pth.le (ctr b) (ctr a)
  ·rw[if_neg (by rw[decide_eq_true I];decide),show F.cW (_,_,_,_,(_,_,_,_)) (_,_,_,_,(_,_,_,_))=_ from Qhw a b,Qa,cmp_lt]
   congr 1;rw[decide_eq_decide]
   exact⟨fun h=>⟨H,.inr h⟩,fun h=>h.2.resolve_left fun h3=>h3 I⟩
  ·rw[if_pos (by rw[decide_eq_false I];rfl),decide_eq_true (p:=Pth.less ctr ltS a b) ⟨H,.inl I⟩]
 ·rw[if_neg (by rw[decide_eq_true_iff];exact H),decide_eq_false (fun h=>H h.1)]
abbrev rlS (a b:Sm):Bool:=decide (ltS a b)
def cpF:Sm→List Sm→List Sm
 |_,[]=>[]
 |p,x::l=>if x=p then cpF p l else x::cpF x l
def cpS:List Sm→List Sm
 | []=>[]
 |p::t=>p::cpF p t
theorem Qix: ∀{l:List Sm} {p r:Sm},r∈p::cpF p l↔r∈p::l
 | [],p,r=>by simp[cpF]
 |x::l,p,r=>by
  unfold cpF
  by_cases h:x=p
  ·subst h
   rw[if_pos rfl,Qix];simp
  ·rw[if_neg h,Qk,Qix,Qk,Qk,Qk]
theorem cpF_pw: ∀{l:List Sm} {p:Sm},(p::l).Pairwise (fun a b=>rlS b a=false)→(p::cpF p l).Pairwise ltS
 | [],p,_=>Yd ..
 |x::l,p,h=>by
  obtain⟨h1,J⟩:=Wk.1 h
  unfold cpF
  by_cases e:x=p
  ·subst e
   rw[if_pos rfl]
   exact cpF_pw J
  ·rw[if_neg e]
   have O:=cpF_pw J
   have H:ltS p x:=(linS.tri p x fun h=>e h.symm).resolve_right (of_decide_eq_false (h1 x (Qg ..)))
   refine Wk.2 ⟨fun b I=>?_,O⟩
   rcases Qk.1 I with rfl|I
   ·exact H
   ·exact linS.tr _ _ _ H ((Wk.1 O).1 b I)
theorem o_ce {l:List Sm}(h:l.Pairwise (fun a b=>rlS b a=false)):(cpS l).Pairwise ltS∧∀s,s∈cpS l↔s∈l:=by
 cases l with
 |nil=>exact⟨List.Pairwise.nil,fun s=>Iff.rfl⟩
 |cons p t=>exact⟨cpF_pw h,fun s=>Qix⟩
theorem CompactS (l:List Sm)(hl:l.length≤1000000000):F.am l=some (cpS l):=by
 have hFU:=Qab
 rw[F.am]
 by_cases h2:l.length<2
 ·rw[if_pos (by omega)]
  cases l with
  |nil=>rfl
  |cons p t=>
   have:t=[]:=by cases t with
    |nil=>rfl
    |cons a b=>simp only[Qj]at h2;omega
   subst this
   rfl
 ·rw[if_neg (by omega)]
  have second: ∀(k:Nat) (hk:k<l.length),1≤k→∀(q j f i:Nat) (xs:List Sm) (p:Sm),k+j+q=l.length→q<f→1≤j→k≤i→i≤k+j-1→xs.length=l.length→xs.drop (k+j-1)=l.drop (k+j-1)→l[k+j-1]?=some p→
    F.p l (k:Int) f xs (i:Int) (j:Int)=some (xs.take i++cpF p (l.drop (k+j))):=by
   intro k hk hk1 q
   induction q with
   |zero=>
    intro j f i xs p hq O hj hi hij hx I hp
    obtain⟨f,rfl⟩: ∃f',f=f'+1:=⟨f-1,by omega⟩
    rw[F.p,if_neg (by omega),A.gd1 ⟨by omega,by omega⟩,A.gd1 ⟨by omega,by simp;omega⟩,Qr,X1 (by rw[Qv];omega),List.take_take,Nat.min_self,Q0 (by omega)]
    simp[cpF]
   |succ q J=>
    intro j f i xs p hq O hj hi hij hx I hp
    obtain⟨f,rfl⟩: ∃f',f=f'+1:=⟨f-1,by omega⟩
    obtain⟨y,H⟩: ∃y,l[k+j]?=some y:=⟨_,Qd (by omega)⟩
    have gx: ∀t,k+j-1≤t→xs[t]?=l[t]?:=fun t ht=>by
     have:=congrArg (fun z=>z[t-(k+j-1)]?) I
     simp only[We]at this
     rw[show k+j-1+(t-(k+j-1))=t by omega]at this
     exact this
    have y1:(xs.drop k)[j]?=some y:=by rw[We,gx _ (by omega)];exact H
    have y2:(xs.drop k)[j-1]?=some p:=by rw[We,gx _ (by omega),show k+(j-1)=k+j-1 by omega];exact hp
    have hxi:xs[i]?=some xs[i]:=Qd (by omega)
    have ej:(j:Int)-1=((j-1:Nat):Int):=by omega
    have ej1:(j:Int)+1=((j+1:Nat):Int):=by omega
    have ei1:(i:Int)+1=((i+1:Nat):Int):=by omega
    rw[F.p,if_pos (by omega),A.gd1 ⟨by omega,by omega⟩,Qr,A.gd1 (by omega),A.ixn y1,Qa,A.gd1 (by omega),ej,A.ixn y2,Qa,A.dropx H]
    show(if y≠p then _ else _)=some (xs.take i++cpF p (y::l.drop (k+j+1)))
    unfold cpF
    by_cases e:y=p
    ·rw[if_neg (fun h=>h e),if_pos e,F.ar,A.gd1 ⟨by omega,by omega⟩,ej1]
     exact J (j+1) f i xs p (by omega) (by omega) (by omega) hi (by omega) hx (by
      have:=congrArg (List.drop 1) I
      rw[X7,X7]at this
      rw[show k+(j+1)-1=k+j-1+1 by omega];exact this) (by rw[show k+(j+1)-1=k+j by omega,H,e])
    ·rw[if_pos e,if_neg e,A.gd1 (by omega),Qa,A.ixn hxi,Qa,A.gd1 ⟨by omega,by omega⟩,F.ar,A.gd1 ⟨by omega,by omega⟩,ej1,ei1,Qr]
     rw[J (j+1) f (i+1) (xs.set i y) y (by omega) (by omega) (by omega) (by omega) (by omega) (by rw[Wr];exact hx) (by
      rw[List.drop_set_of_lt (by omega)]
      have:=congrArg (List.drop 1) I
      rw[X7,X7]at this
      rw[show k+(j+1)-1=k+j-1+1 by omega];exact this) (by rw[show k+(j+1)-1=k+j by omega,H])]
     have:(xs.set i y).take (i+1)=xs.take i++[y]:=by
      rw[Yk,Yf (by omega),List.take_set_of_le (by omega)];rfl
     rw[this,Wb];rfl
  have first: ∀(q k f:Nat) (p:Sm),k+q=l.length→q<f→1≤k→l[k-1]?=some p→F.x l f (k:Int)=some (l.take k++cpF p (l.drop k)):=by
   intro q
   induction q with
   |zero=>
    intro k f p hk O h1 hp
    obtain⟨f,rfl⟩: ∃f',f=f'+1:=⟨f-1,by omega⟩
    rw[F.x,if_neg (by omega),Q0 (by omega),W8 (by omega)];simp[cpF]
   |succ q J=>
    intro k f p hk O h1 hp
    obtain⟨f,rfl⟩: ∃f',f=f'+1:=⟨f-1,by omega⟩
    obtain⟨y,H⟩: ∃y,l[k]?=some y:=⟨_,Qd (by omega)⟩
    have ek:(k:Int)-1=((k-1:Nat):Int):=by omega
    rw[F.x,if_pos (by omega),A.gd1 ⟨by omega,by omega⟩,A.ixn H,Qa,ek,A.ixn hp,Qa]
    show(if y=p then _ else _)=_
    by_cases e:y=p
    ·rw[if_pos e,A.gd1 ⟨by omega,by omega⟩]
     have:=second k (by omega) h1 (l.length-(k+1)) 1 A.FU k l y (by omega) (by omega) (by omega) (by omega) (by omega) rfl rfl (by rw[show k+1-1=k by omega];exact H)
     refine this.trans ?_
     rw[A.dropx H]
     conv=>rhs;rw[cpF]
     rw[if_pos e,e]
    ·rw[if_neg e,A.gd1 ⟨by omega,by omega⟩,show(k:Int)+1=((k+1:Nat):Int) by omega,J (k+1) f y (by omega) (by omega) (by omega) (by rw[show k+1-1=k by omega];exact H),A.dropx H,Yk,H]
     conv=>rhs;rw[cpF]
     rw[if_neg e];simp
  obtain⟨p,t,rfl⟩: ∃p t,l=p::t:=by
   cases l with
   |nil=>simp at h2
   |cons p t=>exact⟨p,t,rfl⟩
  have:=first ((p::t).length -1) 1 A.FU p (by omega) (by omega) (by omega) rfl
  refine(show F.x (p::t) A.FU 1=_ from this).trans ?_
  rfl
theorem ordS (l:List Sm):A.ordB (fun x y=>F.aU x y) l=true∧A.cl0 (fun x y=>F.aU x y)=rlS∧A.OrdOn rlS l:=by
 have e:A.cl0 (fun x y=>F.aU x y)=rlS:=by
  funext a b
  show(match F.aU a b with|some c=>decide (c<0)|none=>false)=_
  rw[Qeb];exact cmp_lt a b
 have asy: ∀a b,rlS a b=true→rlS b a=false:=fun a b h=>decide_eq_false fun H=>linS.irr _ (linS.tr _ _ _ (of_decide_eq_true h) H)
 have tri: ∀a b,rlS a b=false→rlS b a=false→a=b:=fun a b I H=>Wc fun h=>(linS.tri a b h).elim (of_decide_eq_false I) (of_decide_eq_false H)
 have tr: ∀a b c,rlS a b=true→rlS b c=true→rlS a c=true:=fun a b c I H=>decide_eq_true (linS.tr _ _ _ (of_decide_eq_true I) (of_decide_eq_true H))
 refine⟨?_,e,fun x _ y _ h=>asy x y h,fun x _ y _ I H=>tri x y I H,fun x _ y _ z _ I H=>tr x y z I H⟩
 unfold A.ordB
 rw[Qz]
 intro x J
 rw[Qz]
 intro y O
 rw[e,Qm,Qm]
 refine⟨⟨by show(F.aU x y).isSome=true;rw[Qeb];rfl,?_⟩,?_⟩
 ·cases I:rlS x y with
  |true=>rw[asy x y I];rfl
  |false=>
   cases H:rlS y x with
   |true=>rfl
   |false=>rw[decide_eq_true (tri x y I H)];rfl
 ·rw[Qz]
  intro z hz
  cases I:rlS x y with
  |false=>rfl
  |true=>
   cases H:rlS y z with
   |false=>rfl
   |true=>rw[tr x y z I H];rfl
theorem sortSm (l:List Sm)(H:l.length≤1000000000): ∃r,((F.aa l).bind fun r=>(F.am r).bind fun r=>some (r,(0:Int)))=some (r,0)∧r.Pairwise ltS∧∀s,s∈r↔s∈l:=by
 obtain⟨I,J,O⟩:=ordS l
 have hp:=A.srtL_perm rlS l
 obtain⟨h4,h5⟩:=o_ce (A.srtL_pw O l fun a h=>h)
 refine⟨cpS (A.srtL rlS l),?_,h4,fun s=>(h5 s).trans hp.mem_iff⟩
 rw[F.aa,A.gd1 (by omega),A.srtF,if_pos I,Qa,J,CompactS _ (by rw[hp.length_eq];exact H)];rfl
theorem Qgn {x y:Int}(l:List Sm)(hl:l.length≤1000000000)(O: ∀s∈l,GS x y s){s:Sm}(hs:GS x y s):F.o l s=some (l.any fun u=>decide (Pth.less ctr ltS u s)):=by
 have h:=A.fst l (fun u=>decide (Pth.less ctr ltS u s)) (fun f z=>F.d l s f z)
  (fun f=>by rw[F.d,if_neg (by omega)])
  (fun f k u H hk=>by
   rw[F.d,if_pos (by omega),A.ixn H,Qa,F.eB]
   rw[show F.em (_,_,_,_,(_,_,_,_)) (_,_,_,_,(_,_,_,_))=_ from less_P (O u (Qf H)) hs,Qa,Qa,A.gd1 (A.r64n (by omega))])
  (by have:=Qab;omega)
 unfold F.o F.av
 rcases h with⟨I,J⟩|⟨k,u,I,J,h3,_⟩
 ·rw[show F.d l (_,_,_,_,(_,_,_,_)) A.FU 0=_ from I,Qa,X2.2 fun u H=>by rw[J u H];decide];rfl
 ·rw[show F.d l (_,_,_,_,(_,_,_,_)) A.FU 0=_ from J,Qa,Y0.2 ⟨u,Qf I,h3⟩,decide_eq_true (by omega)]
theorem Ends_P {x y:Int}{s:Sm}(h:GS x y s):F.dj s=some y:=by
 obtain⟨o,I,H⟩:=h
 have hk:=o.k
 have J:=o.n
 have O:=o.f
 unfold F.dj
 rw[show F.ax (_,_,_,_,(_,_,_,_))=some true from o_r o,Qa,if_neg (by decide),A.gd1 ⟨by omega,by omega⟩,H]
theorem least_mem {x y:Int}{l r:List Sm}(H:r.Pairwise ltS)(I: ∀s,s∈r↔s∈l.filter fun s=> !(l.any fun u=>decide (Pth.less ctr ltS u s))):Pth.IsLst ctr ltS l r:=by
 refine⟨H,fun s=>(I s).trans ?_⟩
 rw[Yn,Xq,X2]
 simp only[decide_eq_true_eq]
theorem Least_P {x y:Int}(l:List Sm)(hl:l.length≤1000000000)(J: ∀s∈l,GS x y s): ∃r,F.d1 l=some (r,0)∧Pth.IsLst ctr ltS l r:=by
 have l3:=A.lp l (fun f (xs:List Sm) z=>F.a0 l f xs z) (fun k t xs=>((F.aa (xs++t.filter fun s=> !(l.any fun u=>decide (Pth.less ctr ltS u s)))).bind fun r=>(F.am r).bind fun r=>some (r,(0:Int)))) (fun k xs=>xs.length≤k)
  (fun f xs hxs=>by rw[F.a0,if_neg (by omega),List.filter_nil,Wg])
  (fun f xs k s H hk hxs O=>by
   obtain⟨z,I⟩: ∃z,l[0]?=some z:=⟨_,Qd (by omega)⟩
   have hsl:=Qf H
   have g1:=J s hsl
   have g0:=J _ (Qf I)
   rw[F.a0,if_pos (by omega),A.ixn H,Qa,show A.ix l 0=some z from A.ixn (k:=0) I,Qa,if_neg (by rw[g1.2.1,g0.2.1];exact fun h=>h rfl),Qa]
   rw[show F.dj (_,_,_,_,(_,_,_,_))=_ from Ends_P g1,Qa,show F.dj (_,_,_,_,(_,_,_,_))=_ from Ends_P g0,Qa,decide_eq_false (fun h=>h rfl)]
   unfold F.dt F.ds
   rw[if_neg (by decide),show F.o l (_,_,_,_,(_,_,_,_))=_ from Qgn l hl J g1,Qa,A.gd1 (A.r64n (by omega)),A.gd1 (A.r64n (by omega)),Xk]
   cases hb:(l.any fun u=>decide (Pth.less ctr ltS u s))with
   |true=>rw[if_neg (by decide),if_neg (by decide)];exact O _ (by omega)
   |false=>
    rw[if_pos (show(!false)=true from rfl),if_pos (show(!false)=true from rfl),A.gd1 (by rw[Wd];omega),O _ (by rw[Ql,Wd];omega),Wb]
    rfl)
  (by have:=Qab;omega) [] (by simp)
 have l4:=A.lp0 l (fun f z=>F.cr l f z) (fun k t=>F.a0 l A.FU [] 0)
  (fun f=>by rw[F.cr,if_neg (by omega)])
  (fun f k s H hk O=>by
   rw[F.cr,if_pos (by omega),A.ixn H,Qa,show F.ax (_,_,_,_,(_,_,_,_))=some true from o_r (J s (Qf H)).1,Qa,if_neg (by decide),A.gd1 (A.r64n (by omega)),O])
  (by have:=Qab;omega)
 obtain⟨r,h1,h2,h3⟩:=sortSm (l.filter fun s=> !(l.any fun u=>decide (Pth.less ctr ltS u s))) (Wj (X5 _ _) hl)
 refine⟨r,?_,least_mem (x:=x) (y:=y) h2 h3⟩
 unfold F.d1
 rw[l4,l3,W6,h1]
def insP (s:Sm):List Sm→List Sm
 | []=>[s]
 |x::l=>if x=s then x::l else if ltS s x then s::x::l else x::insP s l
theorem Qgc (s:Sm): ∀(l:List Sm) (u:Sm),u∈insP s l↔u=s∨u∈l
 | [],u=>by simp[insP]
 |x::l,u=>by
  unfold insP
  split
  ·rename_i h;subst h;simp
  ·(split)
   ·simp
   ·rw[Qk,Qgc s l u,Qk]
    constructor<;>rintro(h|h|h)<;>simp[h]
theorem insP_pw (s:Sm): ∀{l:List Sm},l.Pairwise ltS→(insP s l).Pairwise ltS
 | [],_=>Yd ..
 |x::l,h=>by
  obtain⟨O,h2⟩:=Wk.1 h
  unfold insP
  split
  ·exact h
  ·rename_i J
   split
   ·rename_i I
    refine Wk.2 ⟨fun b H=>?_,h⟩
    rcases Qk.1 H with rfl|H
    ·exact I
    ·exact linS.tr _ _ _ I (O b H)
   ·rename_i hnlt
    refine Wk.2 ⟨fun b H=>?_,insP_pw s h2⟩
    rcases(Qgc s l b).1 H with rfl|H
    ·exact(linS.tri x b J).resolve_right hnlt
    ·exact O b H
theorem insP_len (s:Sm): ∀(l:List Sm),(insP s l).length≤l.length+1
 | []=>Q1 _
 |x::l=>by
  unfold insP
  have:=insP_len s l
  split
  ·simp
  ·split<;>simp<;>omega
theorem insert_R (l:List Sm)(s:Sm)(hl:l.length≤1000000000):F.eD l s=some (insP s l):=by
 have:=A.lp l (fun f (st:List Sm×Bool) z=>F.aR l s f st.1 st.2 z) (fun k t st=>some (st.1++if st.2=true then t else insP s t)) (fun k st=>st.1.length≤k+1∧(st.2=false→st.1.length≤k))
  (fun f st H=>by
   rw[F.aR,if_neg (by omega)]
   cases hb:st.2 with
   |true=>rw[if_neg (by decide),F.cP,if_pos rfl,Wg]
   |false=>rw[if_pos (by decide),A.gd1 (by rw[Wd];omega),F.cP];rfl)
  (fun f st k x hx hk H ih=>by
   have J: ∀(xs:List Sm) (b:Bool),xs.length≤k+1→(b=false→xs.length≤k)→F.cM (F.aR l s f) l (k:Int) xs b=some (xs++[x]++if b=true then l.drop (k+1)else insP s (l.drop (k+1))):=fun xs b h1 h2=>by
    unfold F.cM
    rw[A.ixn hx,Qa,A.gd1 (by rw[Wd];omega),A.gd1 (A.r64n (by omega))]
    exact ih (xs++[x],b) ⟨by rw[Ql,Wd];omega,fun h=>by rw[Ql,Wd];have:=h2 h;omega⟩
   rw[F.aR,if_pos (by omega),A.ixn hx,Qa]
   by_cases O:x=s
   ·rw[if_pos O]
    unfold F.cO F.cN
    rw[if_neg (by decide),if_neg (by decide),J _ _ H.1 (fun h=>absurd h (by decide)),if_pos rfl]
    cases st.2 with
    |true=>simp
    |false=>simp[insP,O]
   ·rw[if_neg O]
    unfold F.cO F.cN
    cases hb:st.2 with
    |true=>rw[if_neg (by decide),if_neg (by decide),J _ _ H.1 (fun h=>absurd h (by decide))];simp
    |false=>
     have h3:=H.2 hb
     rw[if_pos (by decide),A.ixn hx,Qa,show F.cW (_,_,_,_,(_,_,_,_)) (_,_,_,_,(_,_,_,_))=_ from Qhw s x,Qa,cmp_lt,if_neg (show ¬(false:Bool)=true by decide),insP,if_neg O]
     by_cases I:ltS s x
     ·rw[if_pos (decide_eq_true I),if_pos I,A.gd1 (by rw[Wd];omega),J _ _ (by rw[Ql,Wd];omega) (fun h=>absurd h (by decide)),if_pos rfl]
      simp
     ·rw[if_neg (by rw[decide_eq_true_iff];exact I),if_neg I,J _ _ (by omega) (fun _=>h3),if_neg (by decide)]
      simp)
  (by have:=Qab;omega) ([],false) ⟨by simp,by simp⟩
 exact this
theorem Least_R {x y:Int}(l:List Sm)(hl:l.length≤1000000000)(O: ∀s∈l,GS x y s): ∃r,F.eq l=some (r,0)∧Pth.IsLst ctr ltS l r:=by
 have l3: ∀(xs:List Sm) (i:Nat) (s:Sm) (K:List Sm→Int→Option (List Sm×Int)),l[i]?=some s→i<l.length→xs.length≤1000000000→F.bp K l xs (i:Int) A.FU true 0=if(l.any fun u=>decide (Pth.less ctr ltS u s))=true then F.bR K (i:Int) xs else F.bR K (i:Int) (insP s xs):=fun xs i s K H hi J=>by
  have:=A.lp l (fun f (b:Bool) z=>F.bp K l xs (i:Int) f b z) (fun k t b=>if(!b||t.any fun u=>decide (Pth.less ctr ltS u s))=true then F.bR K (i:Int) xs else F.bR K (i:Int) (insP s xs)) (fun _ _=>True)
   (fun f b _=>by
    rw[F.bp,if_neg (by omega)]
    cases b with
    |true=>rw[if_pos rfl,A.ixn H,Qa,show F.eD xs (_,_,_,_,(_,_,_,_))=_ from insert_R xs s J,Qa];exact(if_neg (by simp)).symm
    |false=>rw[if_neg (show ¬(false:Bool)=true by decide)];exact(if_pos (by simp)).symm)
   (fun f b k u hu hk _ I=>by
    rw[F.bp,if_pos (by omega),A.ixn hu,Qa,A.ixn H,Qa,show F.ep (_,_,_,_,(_,_,_,_)) (_,_,_,_,(_,_,_,_))=_ from under_R (O u (Qf hu)) (O s (Qf H)),Qa]
    unfold F.dK
    rw[A.gd1 (A.r64n (by omega)),A.gd1 (A.r64n (by omega)),X6,I _ trivial,I _ trivial]
    cases hb:decide (Pth.less ctr ltS u s)with
    |true=>rw[if_pos rfl,if_pos (by simp),if_pos (by simp)]
    |false=>simp only[Xv,Qy,if_false])
   (by have:=Qab;omega) true trivial
  exact this
 have l5:=A.lp l (fun f (xs:List Sm) z=>F.aV l f xs z) (fun k t xs=>some ((t.filter fun s=> !(l.any fun u=>decide (Pth.less ctr ltS u s))).foldl (fun a s=>insP s a) xs,(0:Int))) (fun k xs=>xs.length≤k)
  (fun f xs J=>by rw[F.aV,if_neg (by omega)];rfl)
  (fun f xs k s H hk J I=>by
   obtain⟨z,hl0⟩: ∃z,l[0]?=some z:=⟨_,Qd (by omega)⟩
   have g1:=O s (Qf H)
   have g0:=O _ (Qf hl0)
   have k1:=g1.1.k
   have n1:=g1.1.n
   have f1:=g1.1.f
   have k2:=g0.1.k
   have n2:=g0.1.n
   have f2:=g0.1.f
   have e0:A.ix l 0=some z:=A.ixn (k:=0) hl0
   rw[F.aV,if_pos (by omega),A.ixn H,Qa,e0,Qa,if_neg (by rw[g1.2.1,g0.2.1];exact fun h=>h rfl)]
   simp only[Qa]
   rw[A.gd1 ⟨by omega,by omega⟩,A.gd1 ⟨by omega,by omega⟩,decide_eq_false (by rw[g1.2.2,g0.2.2];exact fun h=>h rfl)]
   unfold F.dL
   rw[if_neg (by decide),l3 xs k s _ H hk (by omega),Xk]
   unfold F.bR
   rw[A.gd1 (A.r64n (by omega)),A.gd1 (A.r64n (by omega))]
   cases hb:(l.any fun u=>decide (Pth.less ctr ltS u s))with
   |true=>rw[if_pos rfl,if_neg (by decide)];exact I _ (by omega)
   |false=>
    have:=insP_len s xs
    rw[if_neg (by decide),if_pos (show(!false)=true from rfl),List.foldl_cons];exact I _ (by omega))
  (by have:=Qab;omega) [] (by simp)
 have l6:=A.lp0 l (fun f z=>F.cF l f z) (fun k t=>F.aV l A.FU [] 0)
  (fun f=>by rw[F.cF,if_neg (by omega)])
  (fun f k s H hk I=>by
   rw[F.cF,if_pos (by omega),A.ixn H,Qa,show F.z (_,_,_,_,(_,_,_,_))=some 0 from o_e (O s (Qf H)).1,Qa,if_neg (by decide),A.gd1 (A.r64n (by omega)),I])
  (by have:=Qab;omega)
 have fold: ∀(t xs:List Sm),xs.Pairwise ltS→(t.foldl (fun a s=>insP s a) xs).Pairwise ltS∧∀s,s∈t.foldl (fun a s=>insP s a) xs↔s∈xs∨s∈t:=by
  intro t
  induction t with
  |nil=>intro xs h;exact⟨h,fun s=>by simp⟩
  |cons u t I=>
   intro xs h
   obtain⟨h1,h2⟩:=I (insP u xs) (insP_pw u h)
   refine⟨h1,fun s=>(h2 s).trans ?_⟩
   rw[Qgc,Qk]
   constructor
   ·rintro((h|h)|h)<;>simp[h]
   ·rintro(h|h|h)<;>simp[h]
 obtain⟨h2,h3⟩:=fold (l.filter fun s=> !(l.any fun u=>decide (Pth.less ctr ltS u s))) [] List.Pairwise.nil
 refine⟨_,?_,least_mem (x:=x) (y:=y) h2 fun s=>(h3 s).trans ?_⟩
 ·unfold F.eq
  rw[l6,l5]
 ·simp
abbrev Pth:=Pl×Pl×List Sm
theorem SameS (a b:List Sm)(h:a.length≤1000000000):F.eH a b=some (decide (a=b)):=by
 unfold F.eH
 by_cases H:a.length=b.length
 ·rw[if_neg (by omega)]
  exact A.eql a b (fun f y=>F.cX a b f y) H (fun f=>by rw[F.cX,if_neg (by omega)])
   (fun f k x z I J hk=>by
    rw[F.cX,if_pos (by omega),A.ixn I,Qa,A.ixn J,Qa,A.gd1 (A.r64n (by omega))]
    by_cases e:x=z
    ·rw[if_neg (fun h=>h e),if_pos e]
    ·rw[if_pos e,if_neg e])
   (by have:=Qab;omega)
 ·rw[if_pos (by omega),decide_eq_false (fun e=>H (by rw[e]))]
theorem EqualS (a b:List Sm)(h:a.length≤1000000000):F.aE a b=some (decide (a=b)):=by
 unfold F.aE
 by_cases H:a.length=b.length
 ·rw[if_neg (by omega)]
  exact A.eql a b (fun f y=>F.ah a b f y) H (fun f=>by rw[F.ah,if_neg (by omega)])
   (fun f k x z I J hk=>by
    rw[F.ah,if_pos (by omega),A.ixn I,Qa,A.ixn J,Qa,A.gd1 (A.r64n (by omega))]
    by_cases e:x=z
    ·rw[if_neg (fun h=>h e),if_pos e]
    ·rw[if_pos e,if_neg e])
   (by have:=Qab;omega)
 ·rw[if_pos (by omega),decide_eq_false (fun e=>H (by rw[e]))]
def Tbl (l:List Pth):Prop:=l.length≤100000∧∀x∈l,x.2.2.length≤1000000000
theorem Same_R (a b:List Pth)(h:Tbl a):F.e5 a b=some (decide (a=b)):=by
 unfold F.e5
 have hl0:=h.1
 by_cases O:a.length=b.length
 ·rw[if_neg (by omega)]
  exact A.eql a b (fun f y=>F.bi a b f y) O (fun f=>by rw[F.bi,if_neg (by omega)])
   (fun f k x z hx hz hk=>by
    have hs:=h.2 x (Qf hx)
    rw[F.bi,if_pos (by omega),A.ixn hx,A.ixn hz]
    simp only[Qa,F.dF]
    have hstep:A.gd (Z.R64 ((k:Int)+1)) (F.bi a b f ((k:Int)+1))=F.bi a b f ((k:Int)+1):=A.gd1 (A.r64n (by omega)) _
    rw[hstep]
    by_cases H:x.1=z.1
    ·rw[if_neg (fun h=>h H)]
     by_cases I:x.2.1=z.2.1
     ·rw[if_neg (fun h=>h I),SameS _ _ (by omega),Qa]
      by_cases J:x.2.2=z.2.2
      ·rw[decide_eq_true J,if_neg (by decide),if_pos (Jt H (Jt I J))]
      ·rw[decide_eq_false J,if_pos (by decide),if_neg (fun e=>J (by rw[e]))]
     ·rw[if_pos I,if_pos trivial,if_neg (fun e=>I (by rw[e]))]
    ·rw[if_pos H,if_pos trivial,if_neg (fun e=>H (by rw[e]))])
   (by have:=Qab;omega)
 ·rw[if_pos (by omega),decide_eq_false (fun e=>O (by rw[e]))]
end Go.Proofs.YtlbnpmfggfbdoaaGreatDoor
end
section
namespace Go.A
theorem srtF_perm {α:Type}[DecidableEq α]{cmp:α→α→Option Int}{xs ys:List α}(h:ys.Perm xs)(H:ordB cmp xs=true):srtF cmp ys=some (srtL (cl0 cmp) xs):=by
 have key:ordB cmp ys=true:=by
  unfold ordB at H ⊢
  rw[Qz]at H ⊢
  intro x hx
  have J:=H x (h.mem_iff.1 hx)
  rw[Qz]at J ⊢
  intro y hy
  have I:=J y (h.mem_iff.1 hy)
  rw[Qm,Qz]at I ⊢
  exact⟨I.1,fun z hz=>I.2 z (h.mem_iff.1 hz)⟩
 unfold srtF
 rw[if_pos key]
 obtain⟨O,_⟩:=Qiv H
 have hm: ∀a∈ys,a∈xs:=fun a ha=>h.mem_iff.1 ha
 rw[srt_uniq O ((srtL_perm (cl0 cmp) ys).trans h) (srtL_pw O ys hm)]
theorem dem_allK {α β γ:Type}[DecidableEq γ](m:List α)(g:α→β)(L:Nat→List Nat→List β→Option γ)(E:List β→Option γ)(K:Nat→List Nat→List β→Nat→α→Option γ)(r:γ)
  (hL: ∀f sn xs,L (f+1) sn xs=dem m sn (E xs) (K f sn xs)) (hK: ∀f sn xs i p,m[i]?=some p→xs.length<m.length→K f sn xs i p=L f (i::sn) (xs++[g p]))
  (hE: ∀ys,ys.Perm (m.map g)→E ys=some r) (hm:m.length<FU):L FU [] []=some r:=by
 have main: ∀(f:Nat) (sn:List Nat) (xs:List β),sn.Nodup→(∀i,i∈sn→i<m.length)→m.length<f+sn.length→xs.length=sn.length→xs.Perm ((sn.filterMap fun i=>m[i]?).map g)→L f sn xs=some r:=by
  intro f
  induction f with
  |zero=>intro sn xs J H h3;have:=Qef J H;omega
  |succ f ih=>
   intro sn xs J H h3 h4 h5
   have hsl:=Qef J H
   rw[hL]
   have dof: ∀{e:Option γ} {k:Nat→α→Option γ},((∀i,i<m.length→i∈sn)→e=some r)→(∀i p,m[i]?=some p→i∉sn→k i p=some r)→dem m sn e k=some r:=by
    intro e k J H
    unfold dem
    have hmem: ∀i,i∈(List.range m.length).filter (fun i=> !(sn.contains i))↔i<m.length∧i∉sn:=fun i=>by
     rw[Yn,Xj];simp
    split
    ·rename_i hl
     rw[hl]at hmem
     exact J fun i O=>Wc fun hn=>by have:=(hmem i).2 ⟨O,hn⟩;cases this
    ·rename_i i js hl
     rw[hl]at hmem
     have O:=(hmem i).1 (Qg ..)
     rw[Qd O.1,Qa,H i _ (Qd O.1) O.2,if_pos]
     rw[Qz]
     intro j I
     have I:=(hmem j).1 (Qe _ I)
     rw[Qd I.1,Qa,H j _ (Qd I.1) I.2]
     exact decide_eq_true rfl
   refine dof (fun hall=>hE xs (h5.trans ?_)) fun i p hp O=>?_
   ·refine List.Perm.map g ?_
    have hp:sn.Perm (List.range m.length):=by
     refine(List.perm_ext_iff_of_nodup J List.nodup_range).2 fun i=>?_
     rw[Xj];exact⟨H i,hall i⟩
    refine(hp.filterMap _).trans ?_
    have:(List.range m.length).filterMap (fun i=>m[i]?)=m:=by
     have e:(List.range m.length).filterMap (fun i=>m[i]?)=(List.range m.length).pmap (fun i h=>m[i]'h) (fun i h=>Xj.1 h):=by
      have: ∀(l:List Nat) (h: ∀i,i∈l→i<m.length),l.filterMap (fun i=>m[i]?)=l.pmap (fun i h=>m[i]'h) h:=by
       intro l
       induction l with
       |nil=>intro _;rfl
       |cons i l ih=>intro h;rw[Jg,Qd (h i (Qg ..)),List.pmap];simp only[];rw[ih fun j I=>h j (Qe _ I)]
      exact this _ _
     rw[e];exact List.ext_getElem (by simp) fun k J H=>by simp
    rw[this]
   ·have hlt:=(Qc.1 hp).1
    have hsn:(i::sn).Nodup:=Wn.2 ⟨O,J⟩
    have hsb: ∀j,j∈i::sn→j<m.length:=fun j I=>(Qk.1 I).elim (fun e=>e▸hlt) (H j)
    have hsl2:=Qef hsn hsb
    rw[Qj]at hsl2
    rw[hK f sn xs i p hp (by omega)]
    refine ih _ _ hsn hsb (by rw[Qj];omega) (by rw[Ql,h4];rfl) ?_
    rw[Jg,hp]
    simp only[Q4]
    exact(List.perm_append_comm (l₁:=xs) (l₂:=[g p])).trans (h5.cons (g p))
 exact main FU [] [] Xu (by simp) (by simpa using hm) rfl (List.Perm.refl _)
end Go.A
namespace Go.Proofs.YtlbnpmfggfbdoaaGreatDoor
open Go.RowKit Go.Graph
abbrev Ends:=Pl×Pl
abbrev Tab0:=List (Ends×List Sm)
def Qcq (p:Ends×List Sm):Pth:=(p.1.1,p.1.2,p.2)
theorem Qho (m:Tab0)(hk: ∀p∈m,A.h6 p.1.1.1∧A.h6 p.1.1.2∧A.h6 p.1.2.1∧A.h6 p.1.2.2)(J: ∀p∈m,p.2≠[])(hl:m.length≤1000000)(O:A.ordB (fun x y=>F.aF x y) (m.map Qcq)=true):
  F.aA m A.FU [] []=some (A.srtL (A.cl0 fun x y=>F.aF x y) (m.map Qcq),0):=
 A.dem_allK m Qcq (fun f sn xs=>F.aA m f sn xs) (fun xs=>(F.ao xs).bind fun r=>some (r,0))
  (fun f sn xs i p=>A.gd (decide (A.h6 p.1.1.1)=true∧decide (A.h6 p.1.1.2)=true∧decide (A.h6 p.1.2.1)=true∧decide (A.h6 p.1.2.2)=true) (if(0:Int)<((p.2).length:Int)then(A.gd ((List.length (α:=Pth) xs+List.length (α:=Pth) [(p.1.1,p.1.2,p.2)])*56≤140737488355328) ((F.aA m f) (i::sn) (xs++[(p.1.1,p.1.2,p.2)])))else((F.aA m f) (i::sn) xs))) _
  (fun f sn xs=>by rw[F.aA])
  (fun f sn xs i p hp hx=>by
   have H:=Qf hp
   obtain⟨a,b,c,d⟩:=hk p H
   have h0:=List.length_pos_iff.2 (J p H)
   rw[A.gd1 ⟨decide_eq_true a,decide_eq_true b,decide_eq_true c,decide_eq_true d⟩,if_pos (by omega),A.gd1 (by rw[Wd];omega)]
   rfl)
  (fun ys I=>by
   have hlen:=I.length_eq
   rw[Qw]at hlen
   unfold F.ao
   rw[A.gd1 (by omega),A.srtF_perm I O];rfl)
  (by have:=Qab;omega)
def g0_:List Nd:=[(1,1,[],(0,0,ByteArray.mk #[]),ByteArray.mk #[97],0,0),(2,2,[1],(1,0,ByteArray.mk #[]),ByteArray.mk #[],0,0),(3,15,[2],(0,0,ByteArray.mk #[]),ByteArray.mk #[98],0,0)]
def zz:List Sm:=[(0,0,0,0,(0,0,0,0))]
def sp0:List Sp:=[((1,2),0),((2,0),0),((2,2),0),((3,0),0)]
def zS:Sm:=(0,0,0,0,(0,0,0,0))
def ed0:List (Pl×Pl×Sm):=[((1,2),(2,0),zS),((2,0),(2,2),zS),((2,2),(3,0),zS)]
theorem spots0:F.cv g0_=some (sp0,0):=by kernel_rfl
theorem edges0:F.cw g0_=some (ed0,0):=by kernel_rfl
def tb4:Tab0:=[(((1,2),(1,2)),zz),(((2,0),(2,0)),zz),(((2,2),(2,2)),zz),(((3,0),(3,0)),zz)]
def tb5:Tab0:=[(((1,2),(1,2)),zz),(((2,0),(2,0)),zz),(((2,2),(2,2)),zz),(((3,0),(3,0)),zz),(((1,2),(2,0)),zz)]
def tb6:Tab0:=[(((1,2),(1,2)),zz),(((2,0),(2,0)),zz),(((2,2),(2,2)),zz),(((3,0),(3,0)),zz),(((1,2),(2,0)),zz),(((1,2),(2,2)),zz)]
def tb7:Tab0:=[(((1,2),(1,2)),zz),(((2,0),(2,0)),zz),(((2,2),(2,2)),zz),(((3,0),(3,0)),zz),(((1,2),(2,0)),zz),(((1,2),(2,2)),zz),(((1,2),(3,0)),zz)]
def tb8:Tab0:=[(((1,2),(1,2)),zz),(((2,0),(2,0)),zz),(((2,2),(2,2)),zz),(((3,0),(3,0)),zz),(((1,2),(2,0)),zz),(((1,2),(2,2)),zz),(((1,2),(3,0)),zz),(((2,0),(2,2)),zz)]
def tb9:Tab0:=[(((1,2),(1,2)),zz),(((2,0),(2,0)),zz),(((2,2),(2,2)),zz),(((3,0),(3,0)),zz),(((1,2),(2,0)),zz),(((1,2),(2,2)),zz),(((1,2),(3,0)),zz),(((2,0),(2,2)),zz),(((2,0),(3,0)),zz)]
def tb10:Tab0:=[(((1,2),(1,2)),zz),(((2,0),(2,0)),zz),(((2,2),(2,2)),zz),(((3,0),(3,0)),zz),(((1,2),(2,0)),zz),(((1,2),(2,2)),zz),(((1,2),(3,0)),zz),(((2,0),(2,2)),zz),(((2,0),(3,0)),zz),(((2,2),(3,0)),zz)]
def ta0:Tab0:=[]
def ta1:Tab0:=[(((1,2),(1,2)),zz)]
def ta2:Tab0:=[(((1,2),(1,2)),zz),(((2,0),(2,0)),zz)]
def ta3:Tab0:=[(((1,2),(1,2)),zz),(((2,0),(2,0)),zz),(((2,2),(2,2)),zz)]
theorem id0:F.dx 0=some (zS,0):=by kernel_rfl
theorem init_step {f:Nat}{m m':Tab0}{y:Nat}{p:Pl}(hp:sp0[y]?=some (p,0))(H:F.an m (p,p) [zS]=some (true,m')):F.aB (sp0,0) (ed0,0) (f+1) m (y:Int)=F.aB (sp0,0) (ed0,0) f m' ((y:Int)+1):=by
 have I:=(Qc.1 hp).1
 have J:sp0.length=4:=rfl
 rw[F.aB,if_pos (show(y:Int)<(sp0.length:Int) by omega),show A.ix ((sp0,0):List Sp×Int).1 (y:Int)=some (p,0)from A.ixn hp,Qa,show F.dx ((p,0):Sp).2=some (zS,0)from id0,Qa]
 rw[show F.an m (((((p,0):Sp).1.1),(((p,0):Sp).1.2)),((((p,0):Sp).1.1),(((p,0):Sp).1.2))) [(((zS,0):Sm×Int).1.1,((zS,0):Sm×Int).1.2.1,((zS,0):Sm×Int).1.2.2.1,((zS,0):Sm×Int).1.2.2.2.1,(((zS,0):Sm×Int).1.2.2.2.2.1,((zS,0):Sm×Int).1.2.2.2.2.2.1,((zS,0):Sm×Int).1.2.2.2.2.2.2.1,((zS,0):Sm×Int).1.2.2.2.2.2.2.2))]=some (true,m')from H,Qa,A.gd1 (A.r64n (by omega))]
theorem ad0:F.an ta0 ((1,2),(1,2)) [zS]=some (true,ta1):=by kernel_rfl
theorem ad1:F.an ta1 ((2,0),(2,0)) [zS]=some (true,ta2):=by kernel_rfl
theorem ad2:F.an ta2 ((2,2),(2,2)) [zS]=some (true,ta3):=by kernel_rfl
theorem ad3:F.an ta3 ((3,0),(3,0)) [zS]=some (true,tb4):=by kernel_rfl
theorem init0:F.aB (sp0,0) (ed0,0) A.FU [] 0=F.t (sp0,0) (ed0,0) A.FU tb4:=by
 obtain⟨n,H⟩: ∃n,A.FU=n+5:=⟨A.FU-5,by decide⟩
 rw[show F.aB (sp0,0) (ed0,0) A.FU [] 0=F.aB (sp0,0) (ed0,0) (n+5) ta0 ((0:Nat):Int) by rw[←H];rfl]
 rw[init_step (y:=0) rfl ad0]
 refine(init_step (y:=1) rfl ad1).trans ?_
 refine(init_step (y:=2) rfl ad2).trans ?_
 refine(init_step (y:=3) rfl ad3).trans ?_
 rw[F.aB,if_neg (by decide)]
theorem round4 (k:Tab0→Option ((List Pth)×Int)):F.j k (sp0,0) (ed0,0) A.FU tb4 0=k tb5:=by kernel_rfl
theorem round5 (k:Tab0→Option ((List Pth)×Int)):F.j k (sp0,0) (ed0,0) A.FU tb5 0=k tb6:=by kernel_rfl
theorem round6 (k:Tab0→Option ((List Pth)×Int)):F.j k (sp0,0) (ed0,0) A.FU tb6 0=k tb7:=by kernel_rfl
theorem round7 (k:Tab0→Option ((List Pth)×Int)):F.j k (sp0,0) (ed0,0) A.FU tb7 0=k tb8:=by kernel_rfl
theorem round8 (k:Tab0→Option ((List Pth)×Int)):F.j k (sp0,0) (ed0,0) A.FU tb8 0=k tb9:=by kernel_rfl
theorem round9 (k:Tab0→Option ((List Pth)×Int)):F.j k (sp0,0) (ed0,0) A.FU tb9 0=k tb10:=by kernel_rfl
theorem scan {f:Nat}{k:Tab0→Option ((List Pth)×Int)}{y:Nat}{x:Sp}(H:sp0[y]?=some x)(I: ∀k65,F.af k k65 (ed0,0) (y:Int) x A.FU tb10 0=k65 tb10 ((y:Int)+1)):F.j k (sp0,0) (ed0,0) (f+1) tb10 (y:Int)=F.j k (sp0,0) (ed0,0) f tb10 ((y:Int)+1):=by
 have J:=(Qc.1 H).1
 have O:sp0.length=4:=rfl
 rw[F.j,if_pos (show(y:Int)<(sp0.length:Int) by omega),show A.ix ((sp0,0):List Sp×Int).1 (y:Int)=some x from A.ixn H,Qa,I]
theorem round10 (k:Tab0→Option ((List Pth)×Int)):F.j k (sp0,0) (ed0,0) A.FU tb10 0=F.aA tb10 A.FU [] []:=by
 obtain⟨n,H⟩: ∃n,A.FU=n+5:=⟨A.FU-5,by decide⟩
 have e:F.j k (sp0,0) (ed0,0) A.FU tb10 0=F.j k (sp0,0) (ed0,0) (n+5) tb10 ((0:Nat):Int):=by rw[←H];rfl
 rw[e,scan (y:=0) (x:=((1,2),0)) rfl (fun k65=>by kernel_rfl)]
 refine(scan (y:=1) (x:=((2,0),0)) rfl (fun k65=>by kernel_rfl)).trans ?_
 refine(scan (y:=2) (x:=((2,2),0)) rfl (fun k65=>by kernel_rfl)).trans ?_
 refine(scan (y:=3) (x:=((3,0),0)) rfl (fun k65=>by kernel_rfl)).trans ?_
 rw[F.j,if_neg (by decide)]
theorem table0:F.a9 g0_=F.aA tb10 A.FU [] []:=by
 obtain⟨n,H⟩: ∃n,A.FU=n+7:=⟨A.FU-7,by decide⟩
 have st: ∀f m,F.t (sp0,0) (ed0,0) (f+1) m=F.j (F.t (sp0,0) (ed0,0) f) (sp0,0) (ed0,0) A.FU m 0:=fun f m=>by rw[F.t]
 unfold F.a9
 rw[spots0,Qa,if_neg (fun h=>h rfl),edges0,Qa,if_neg (fun h=>h rfl),init0]
 have:F.t (sp0,0) (ed0,0) A.FU tb4=F.t (sp0,0) (ed0,0) (n+7) tb4:=by rw[←H]
 rw[this,st,round4,st,round5,st,round6,st,round7,st,round8,st,round9,st,round10]
theorem begunP:F.en=some true:=by
 have h:F.a9 [(1,1,[],(0,0,ByteArray.mk #[]),ByteArray.mk #[97],0,0),(2,2,[1],(1,0,ByteArray.mk #[]),ByteArray.mk #[],0,0),(3,15,[2],(0,0,ByteArray.mk #[]),ByteArray.mk #[98],0,0)]=some (A.srtL (A.cl0 fun x y=>F.aF x y) (tb10.map Qcq),0):=
  table0.trans (Qho tb10 (by decide) (by decide) (by decide) (by kernel_rfl))
 have e:F.en=((F.a9 [(1,1,[],(0,0,ByteArray.mk #[]),ByteArray.mk #[97],0,0),(2,2,[1],(1,0,ByteArray.mk #[]),ByteArray.mk #[],0,0),(3,15,[2],(0,0,ByteArray.mk #[]),ByteArray.mk #[98],0,0)]).bind fun H=>((F.eX H.1 (1,2) (3,0)).bind fun r10=>(if(bif bif decide (H.2=0)then decide (((H.1).length:Int)=10)else false then decide (((r10).length:Int)=1)else false)=true then((A.ix r10 0).bind fun x15=>(F.c7 (decide (x15=(0,0,0,0,(0,0,0,0))))))else(F.c7 false)))):=rfl
 rw[e,h,Qa]
 show _=some true
 kernel_rfl
end Go.Proofs.YtlbnpmfggfbdoaaGreatDoor
end
section
namespace Go.Proofs.YtlbnpmfggfbdoaaGreatDoor
open Go.RowKit Go.Graph
theorem Qcd (g:List Nd)(d:List Int)(id:Int): ∀(k:Nat) (l:List Int) (sp:Sp),sp∈insS g d id k l→sp.1.1=id∧(k:Int)≤sp.1.2∧sp.1.2<(k:Int)+l.length
 |_,[],sp,h=>by cases h
 |k,y::r,sp,h=>by
  unfold insS at h
  rcases Qk.1 h with rfl|h
  ·refine⟨rfl,Xl _,?_⟩
   rw[Qj];show(k:Int)<_;omega
  ·have:=Qcd g d id (k+1) r sp h
   rw[Qj]
   exact⟨this.1,by omega,by omega⟩
theorem insS_od (g:List Nd)(d:List Int)(id:Int): ∀(k:Nat) (l:List Int),(insS g d id k l).Pairwise fun a b=>ltP a.1 b.1
 |_,[]=>List.Pairwise.nil
 |k,y::r=>by
  unfold insS
  refine Wk.2 ⟨fun sp h=>.inr ?_,insS_od g d id (k+1) r⟩
  have:=Qcd g d id (k+1) r sp h
  exact⟨this.1.symm,by show(k:Int)<sp.1.2;omega⟩
theorem Qbp {g:List Nd}(d:List Int): ∀(i:Nat) (l:List Nd),(∀n∈l,n.2.2.1.length≤2)→∀sp∈spotsF g d i l,∃n∈l,sp.1.1=n.1∧0≤sp.1.2∧sp.1.2≤2
 |_,[],_,sp,h=>by cases h
 |i,n::r,H,sp,h=>by
  have hn:=H n (Qg ..)
  unfold spotsF at h
  rcases Qn.1 h with h|h
  ·have:=Qcd g d n.1 0 n.2.2.1 sp h
   exact⟨n,Qg ..,this.1,by omega,by omega⟩
  ·rcases Qn.1 h with h|h
   ·unfold outS at h
    split at h
    ·rw[Qi]at h
     subst h
     exact⟨n,Qg ..,rfl,by show(0:Int)≤2;omega,by show(2:Int)≤2;omega⟩
    ·cases h
   ·obtain⟨m,I,J⟩:=Qbp d (i+1) r (fun m O=>H m (Qe _ O)) sp h
    exact⟨m,Qe _ I,J⟩
theorem Qhd {g:List Nd}(d:List Int): ∀(i:Nat) (l:List Nd),Inc l→(∀n∈l,n.2.2.1.length≤2)→(spotsF g d i l).Pairwise fun a b=>ltP a.1 b.1
 |_,[],_,_=>List.Pairwise.nil
 |i,n::r,h,J=>by
  have h':=Wk.1 h
  have h2r:=fun m O=>J m (Qe n O)
  have hn:=J n (Qg ..)
  have later: ∀a:Sp,a.1.1=n.1→∀b∈spotsF g d (i+1) r,ltP a.1 b.1:=fun a I b H=>by
   obtain⟨m,h3,h4,_⟩:=Qbp d (i+1) r h2r b H
   exact .inl (by rw[I,h4];exact h'.1 m h3)
  have out: ∀b∈outS n (iget d (i:Int)),b.1=(n.1,2):=fun b H=>by
   unfold outS at H
   split at H
   ·rw[Qi]at H;subst H;rfl
   ·cases H
  unfold spotsF
  refine Yy.2 ⟨insS_od g d n.1 0 n.2.2.1,Yy.2 ⟨?_,Qhd d (i+1) r h'.2 h2r,fun a I b H=>later a (by rw[out a I]) b H⟩,fun a I b H=>?_⟩
  ·unfold outS
   split
   ·exact Yd ..
   ·exact List.Pairwise.nil
  ·have ha':=Qcd g d n.1 0 n.2.2.1 a I
   rcases Qn.1 H with H|H
   ·rw[out b H];exact .inr ⟨ha'.1,by show a.1.2<2;omega⟩
   ·exact later a ha'.1 b H
theorem CloneS (l:List Sm)(H:l.length≤1000000000):F.aw l=some l:=by
 unfold F.aw
 simp[A.gd]
 try omega
section
variable {g:List Nd}{l d:List Int}{dm:List (Int×Int)}(W:Whole g l d dm)
def Qhv:Nat:=66^4
include W
theorem row_len {T:Pl→Pl→List Sm}(I:Pth.Inv (EN g d) (i0N g d) ctr ltS (GN g d) T){p q:Pl}{y:Int}(hq:(q,y)∈spots g d):(T p q).length≤Qhv:=by
 have H:=I.len (netN W) (syN W) p q
 have h2:=lps32 W
 have J:=dp4 W hq
 have O:dpN g d q≤4:=by unfold dpN;rw[J.1];omega
 have h5:2*((lpsN g).length+1)≤66:=by omega
 exact Wj H (Wj (Nat.pow_le_pow_left h5 _) (Nat.pow_le_pow_right (show 0<66 by decide) O))
theorem then_eq {e:Ed}(he:e∈edges g d){p:Pl}(l:List Sm)(hl:l.length≤1000000000)(hG: ∀s∈l,GN g d p e.1 s):F.d2 l e.2.2=some (l.filterMap (thnN g d (eNt e))):=by
 have:=A.lp l (fun f (xs:List Sm) z=>F.bB l e.2.2 f xs z) (fun k t xs=>some (xs++t.filterMap (thnN g d (eNt e)))) (fun k xs=>xs.length≤k)
  (fun f xs H=>by rw[F.bB,if_neg (by omega),List.filterMap_nil,Wg])
  (fun f xs k s O hk H ih=>by
   rw[F.bB,if_pos (by omega),A.ixn O,Qa,Jg]
   unfold F.du
   rcases Qhr W he (hG s (Qf O))with⟨m,I,J,_⟩|⟨I,z,J,_⟩
   ·rw[show F.bI (_,_,_,_,(_,_,_,_)) (_,_,_,_,(_,_,_,_))=_ from J,Qa,if_pos rfl,A.gd1 (by rw[Wd];omega),A.gd1 (A.r64n (by omega)),I,ih _ (by rw[Ql,Wd];omega),Wb]
    rfl
   ·rw[show F.bI (_,_,_,_,(_,_,_,_)) (_,_,_,_,(_,_,_,_))=_ from J,Qa,if_neg (show(12:Int)≠0 by decide),A.gd1 (A.r64n (by omega)),I,ih _ (by omega)])
  (by have:=Qab;omega) [] (by simp)
 exact this
end
def tbl (m:Tab0):Pl→Pl→List Sm:=fun p q=>Z.mget [] m (p,q)
theorem Qcl (m:Tab0)(p q:Pl)(r:List Sm):tbl (Z.mins m (p,q) r)=Pth.put (tbl m) p q r:=by
 funext p' q'
 unfold tbl Pth.put
 rw[Ux]
 by_cases h:p'=p∧q'=q
 ·rw[if_pos h,if_pos (by rw[h.1,h.2])]
 ·rw[if_neg h,if_neg (fun e=>h ⟨congrArg Prod.fst e,congrArg Prod.snd e⟩)]
theorem add_eq {x y:Int}(m:Tab0)(p q:Pl)(more:List Sm)(hl:(tbl m p q).length≤100000000)(I:more.length≤100000000)(J: ∀s∈tbl m p q++more,GS x y s): ∃r,Pth.IsLst ctr ltS (tbl m p q++more) r∧
  F.an m (p,q) more=some (if tbl m p q=r then(false,m)else(true,Z.mins m (p,q) r)):=by
 obtain⟨r,O,h2⟩:=Least_P (tbl m p q++more) (by rw[Ql];omega) J
 refine⟨r,h2,?_⟩
 unfold F.an
 show((F.aw (tbl m p q)).bind fun H=>(A.gd ((List.length (α:=Sm) H+List.length (α:=Sm) more)*64≤140737488355328) ((F.d1 (H++more)).bind fun r14=>(if r14.2≠0 then(F.be m (p,q) r14 true)else((F.aE (tbl m p q) r14.1).bind fun r20=>(F.be m (p,q) r14 r20))))))=_
 rw[CloneS _ (by omega),Qa,A.gd1 (by omega),O,Qa,if_neg (fun h=>h rfl),EqualS _ _ (by omega),Qa]
 unfold F.be
 by_cases h:tbl m p q=r
 ·rw[decide_eq_true h,if_pos rfl,if_pos h]
 ·rw[decide_eq_false h,if_neg (by decide),if_neg h]
def Cl (g:List Nd)(d:List Int)(T:Pl→Pl→List Sm)(p:Pl)(e:Ed):Prop:=∀u∈T p e.1,∀v,thnN g d (eNt e) u=some v→∃w∈T p e.2.1,Pth.le (ctr w) (ctr v)
structure MI (g:List Nd) (d:List Int) (m:Tab0):Prop where
 inv:Pth.Inv (EN g d) (i0N g d) ctr ltS (GN g d) (tbl m)
 nd:(m.map Prod.fst).Nodup
 ne: ∀x∈m,x.2≠[]
 ks: ∀x∈m,(∃a,(x.1.1,a)∈spots g d)∧∃b,(x.1.2,b)∈spots g d
def prs (g:List Nd)(d:List Int):List (Pl×Pl):=(spots g d).flatMap fun s=>(spots g d).map fun t=>(s.1,t.1)
theorem Qiy {g:List Nd}{d:List Int}{p q:Pl}{a b:Int}(hp:(p,a)∈spots g d)(hq:(q,b)∈spots g d):(p,q)∈prs g d:=Xi.2 ⟨_,hp,Qt.2 ⟨_,hq,rfl⟩⟩
abbrev muN (g:List Nd) (d:List Int) (P:List (Pl×Pl)) (T:Pl→Pl→List Sm):Nat:=Pth.mu (dpN g d) ctr (lpsN g).length P T
section
variable {g:List Nd}{l d:List Int}{dm:List (Int×Int)}(W:Whole g l d dm)
theorem tbl_mem {m:Tab0}{p q:Pl}(h:tbl m p q≠[]):((p,q),tbl m p q)∈m:=by
 refine Z.mget_mem ?_
 cases H:Z.mhas m (p,q)with
 |true=>rfl
 |false=>exact absurd (Z.mget_none H) h
theorem MI.ins {m:Tab0}(M:MI g d m){p q:Pl}{a b:Int}(hp:(p,a)∈spots g d)(hq:(q,b)∈spots g d){r:List Sm}(hr:r≠[])(hI:Pth.Inv (EN g d) (i0N g d) ctr ltS (GN g d) (Pth.put (tbl m) p q r)):MI g d (Z.mins m (p,q) r):=by
 refine⟨by rw[Qcl];exact hI,Z.mins_nodup M.nd _ _,fun z J=>?_,fun z J=>?_⟩
 all_goals have H:z.1∈(Z.mins m (p,q) r).map Prod.fst:=Qt.2 ⟨z,J,rfl⟩
 all_goals rw[Z.mins_keys]at H
 ·obtain⟨i,hi⟩:=Xe J
  have I:=(Z.mget_get (z:=[]) (Z.mins_nodup M.nd (p,q) r) hi).1
  rw[Ux]at I
  split at I
  ·rw[←I];exact hr
  ·rename_i hk
   have O:z.1∈m.map Prod.fst:=by
    split at H
    ·exact H
    ·rcases Qn.1 H with H|H
     ·exact H
     ·exact absurd (Qi.1 H) hk
   rw[←I]
   have h6:=Z.mget_mem (z:=[]) ((Z.mhas_iff m z.1).2 O)
   exact M.ne _ h6
 ·have old:z.1∈m.map Prod.fst→(∃a,(z.1.1,a)∈spots g d)∧∃b,(z.1.2,b)∈spots g d:=fun O=>by
   obtain⟨z',hz',h6⟩:=Qt.1 O
   have:=M.ks z' hz'
   rw[h6]at this;exact this
  split at H
  ·exact old H
  ·rcases Qn.1 H with H|H
   ·exact old H
   ·rw[Qi.1 H];exact⟨⟨a,hp⟩,⟨b,hq⟩⟩
include W
theorem step_eq {m:Tab0}(M:MI g d m){p:Pl}{a:Int}(hp:(p,a)∈spots g d){e:Ed}(he:e∈edges g d)(h0:tbl m p e.1≠[]):
  ∃b m',((F.d2 (tbl m p e.1) e.2.2).bind fun r70=>F.an m (p,e.2.1) r70)=some (b,m')∧((b=false∧m'=m∧Cl g d (tbl m) p e)∨(b=true∧MI g d m'∧Pth.Cv ctr (tbl m) (tbl m')∧muN g d (prs g d) (tbl m')<muN g d (prs g d) (tbl m))):=by
 have F':=Qak W he
 obtain⟨⟨x,hx⟩,⟨y,hy⟩⟩:=F'.ends
 have l1:=row_len W M.inv (p:=p) hx
 have l2:=row_len W M.inv (p:=p) hy
 unfold Qhv at l1 l2
 have gd:=fun s (H:s∈tbl m p e.1)=>M.inv.good p e.1 s H
 have hm: ∀v∈(tbl m p e.1).filterMap (thnN g d (eNt e)),∃s,Pth.Good (EN g d) (i0N g d) ctr (GN g d) (tbl m) p e.1 s∧thnN g d (eNt e) s=some v:=fun v I=>by
  obtain⟨s,H,O⟩:=Yu.1 I
  exact⟨s,gd s H,O⟩
 have hE:eNt e∈EN g d:=Qt.2 ⟨e,he,rfl⟩
 obtain⟨r,O,h2⟩:=add_eq m p e.2.1 ((tbl m p e.1).filterMap (thnN g d (eNt e))) (by omega) (Wj (Jj _ _) (by omega)) fun s H=>by
  rcases Qn.1 H with H|H
  ·exact(M.inv.good p e.2.1 s H).1
  ·obtain⟨u,hu,h3⟩:=hm s H
   exact((syN W).some hE hu.1 h3).1
 have A':=M.inv.add (netN W) (syN W) (p:=p) hE hm O
 rw[then_eq W he (tbl m p e.1) (by omega) fun s H=>(gd s H).1,Qa,h2]
 by_cases hr:tbl m p e.2.1=r
 ·rw[if_pos hr]
  refine⟨_,_,rfl,.inl ⟨rfl,rfl,fun u hu v I=>?_⟩⟩
  have:=A'.2.2.1 v (Yu.2 ⟨u,hu,I⟩)
  rw[←hr]at this;exact this
 ·rw[if_neg hr]
  have J:r≠tbl m p e.2.1:=fun h=>hr h.symm
  have hrne:r≠[]:=fun h=>by
   obtain⟨v,I,_⟩:=A'.2.2.2 J
   obtain⟨w,hw,_⟩:=A'.2.2.1 v I
   rw[h]at hw;cases hw
  refine⟨_,_,rfl,.inr ⟨rfl,M.ins hp hy hrne A'.1,?_,?_⟩⟩
  ·rw[Qcl];exact A'.2.1
  ·rw[Qcl];exact M.inv.add_lt (netN W) (syN W) hE hm O (Qiy hp hy) J
theorem table_l2 (k60:Tab0→Option (List Pth×Int))(k65:Tab0→Int→Option (List Pth×Int))(e0:Int)(y:Nat)(hy:y≤1000000){s:Sp}(hs:s∈spots g d){m:Tab0}(M:MI g d m)(hE:(edges g d).length≤1000000): ∀(n k f:Nat),k+n=(edges g d).length→n<f→
  (∃m',MI g d m'∧Pth.Cv ctr (tbl m) (tbl m')∧muN g d (prs g d) (tbl m')<muN g d (prs g d) (tbl m)∧F.af k60 k65 (edges g d,e0) (y:Int) s f m (k:Int)=k60 m')∨((∀e∈(edges g d).drop k,Cl g d (tbl m) s.1 e)∧F.af k60 k65 (edges g d,e0) (y:Int) s f m (k:Int)=k65 m ((y:Int)+1)):=by
 intro n
 induction n with
 |zero=>
  intro k f hk hf
  obtain⟨f,rfl⟩: ∃f',f=f'+1:=⟨f-1,by omega⟩
  refine .inr ⟨fun e H=>(by rw[Q0 (by omega)]at H;cases H),?_⟩
  rw[F.af,if_neg (by show ¬(k:Int)<((edges g d).length:Int);omega),A.gd1 (A.r64n (by omega))]
 |succ n ih=>
  intro k f hk hf
  obtain⟨f,rfl⟩: ∃f',f=f'+1:=⟨f-1,by omega⟩
  obtain⟨x,J⟩: ∃x,(edges g d)[k]?=some x:=⟨_,Qd (by omega)⟩
  have O:=Qf J
  have next:Cl g d (tbl m) s.1 x→(∃m',MI g d m'∧Pth.Cv ctr (tbl m) (tbl m')∧muN g d (prs g d) (tbl m')<muN g d (prs g d) (tbl m)∧F.af k60 k65 (edges g d,e0) (y:Int) s f m ((k:Int)+1)=k60 m')∨((∀e∈(edges g d).drop k,Cl g d (tbl m) s.1 e)∧F.af k60 k65 (edges g d,e0) (y:Int) s f m ((k:Int)+1)=k65 m ((y:Int)+1)):=fun hc=>by
   rcases ih (k+1) f (by omega) (by omega)with h|⟨h1,h2⟩
   ·exact .inl h
   ·refine .inr ⟨fun e H=>?_,h2⟩
    rw[A.dropx J]at H
    rcases Qk.1 H with rfl|H
    ·exact hc
    ·exact h1 e H
  have e:F.af k60 k65 (edges g d,e0) (y:Int) s (f+1) m (k:Int)=(if(0:Int)<((tbl m s.1 x.1).length:Int)then(((F.d2 (tbl m s.1 x.1) x.2.2).bind fun r70=>F.an m (s.1,x.2.1) r70).bind fun r74=>F.bJ k60 (F.af k60 k65 (edges g d,e0) (y:Int) s f) (k:Int) r74.2 r74.1)else F.bJ k60 (F.af k60 k65 (edges g d,e0) (y:Int) s f) (k:Int) m false):=by
   rw[F.af,if_pos (by show(k:Int)<((edges g d).length:Int);omega),show A.ix ((edges g d,e0):List Ed×Int).1 (k:Int)=some x from A.ixn J,Qa,Option.bind_assoc];rfl
  rw[e]
  by_cases I:tbl m s.1 x.1=[]
  ·rw[I,if_neg (by simp)]
   unfold F.bJ
   rw[if_neg (by decide),A.gd1 (A.r64n (by omega))]
   exact next fun u hu=>by rw[I]at hu;cases hu
  ·rw[if_pos (by have:=List.length_pos_iff.2 I;omega)]
   obtain⟨b,m',h1,h2⟩:=step_eq W M (p:=s.1) (a:=s.2) hs O I
   rw[h1,Qa]
   unfold F.bJ
   rcases h2 with⟨rfl,rfl,hc⟩|⟨rfl,M',hcv,hmu⟩
   ·rw[if_neg (show ¬(false:Bool)=true by decide),A.gd1 (A.r64n (by omega))];exact next hc
   ·rw[if_pos rfl];exact .inl ⟨m',M',hcv,hmu,rfl⟩
theorem table_l4 (k60:Tab0→Option (List Pth×Int))(e0 e1:Int){m:Tab0}(M:MI g d m)(hE:(edges g d).length≤1000000)(hS:(spots g d).length≤1000000): ∀(n k f:Nat),k+n=(spots g d).length→n<f→
  (∃m',MI g d m'∧Pth.Cv ctr (tbl m) (tbl m')∧muN g d (prs g d) (tbl m')<muN g d (prs g d) (tbl m)∧F.j k60 (spots g d,e1) (edges g d,e0) f m (k:Int)=k60 m')∨((∀s∈(spots g d).drop k,∀e∈edges g d,Cl g d (tbl m) s.1 e)∧F.j k60 (spots g d,e1) (edges g d,e0) f m (k:Int)=F.aA m A.FU [] []):=by
 intro n
 induction n with
 |zero=>
  intro k f hk hf
  obtain⟨f,rfl⟩: ∃f',f=f'+1:=⟨f-1,by omega⟩
  refine .inr ⟨fun e he=>(by rw[Q0 (by omega)]at he;cases he),?_⟩
  rw[F.j,if_neg (by show ¬(k:Int)<((spots g d).length:Int);omega)]
 |succ n ih=>
  intro k f hk hf
  obtain⟨f,rfl⟩: ∃f',f=f'+1:=⟨f-1,by omega⟩
  obtain⟨s,J⟩: ∃s,(spots g d)[k]?=some s:=⟨_,Qd (by omega)⟩
  rw[F.j,if_pos (by show(k:Int)<((spots g d).length:Int);omega),show A.ix ((spots g d,e1):List Sp×Int).1 (k:Int)=some s from A.ixn J,Qa]
  rcases table_l2 W k60 (F.j k60 (spots g d,e1) (edges g d,e0) f) e0 k (by omega) (Qf J) M hE (edges g d).length 0 A.FU (by omega) (by have:=Qab;omega)with⟨m',H,O,h3,h4⟩|⟨H,O⟩
  ·exact .inl ⟨m',H,O,h3,h4⟩
  ·rw[Q7]at H
   rw[show F.af k60 (F.j k60 (spots g d,e1) (edges g d,e0) f) (edges g d,e0) (k:Int) s A.FU m 0=_ from O]
   rcases ih (k+1) f (by omega) (by omega)with h|⟨h3,h4⟩
   ·exact .inl h
   ·refine .inr ⟨fun t I=>?_,h4⟩
    rw[A.dropx J]at I
    rcases Qk.1 I with rfl|I
    ·exact H
    ·exact h3 t I
theorem table_l5 (e0 e1:Int)(hE:(edges g d).length≤1000000)(hS:(spots g d).length≤1000000): ∀(n f:Nat) (m:Tab0),MI g d m→muN g d (prs g d) (tbl m)≤n→n<f→
  ∃m',MI g d m'∧Pth.Cv ctr (tbl m) (tbl m')∧(∀s∈spots g d,∀e∈edges g d,Cl g d (tbl m') s.1 e)∧F.t (spots g d,e1) (edges g d,e0) f m=F.aA m' A.FU [] []:=by
 intro n
 induction n with
 |zero=>
  intro f m M J hf
  obtain⟨f,rfl⟩: ∃f',f=f'+1:=⟨f-1,by omega⟩
  rw[F.t]
  rcases table_l4 W (F.t (spots g d,e1) (edges g d,e0) f) e0 e1 M hE hS (spots g d).length 0 A.FU (by omega) (by have:=Qab;omega)with⟨m',H,I,h3,h4⟩|⟨H,I⟩
  ·omega
  ·exact⟨m,M,Pth.Cv.refl _,by rw[Q7]at H;exact H,I⟩
 |succ n ih=>
  intro f m M J hf
  obtain⟨f,rfl⟩: ∃f',f=f'+1:=⟨f-1,by omega⟩
  rw[F.t]
  rcases table_l4 W (F.t (spots g d,e1) (edges g d,e0) f) e0 e1 M hE hS (spots g d).length 0 A.FU (by omega) (by have:=Qab;omega)with⟨m',H,I,h3,h4⟩|⟨H,I⟩
  ·obtain⟨m2,h5,h6,h7,h8⟩:=ih f m' H (by omega) (by omega)
   exact⟨m2,h5,I.trans (netN W) (syN W) (fun p q s O=>(syN W).ok (M.inv.good p q s O).1) (fun p q s O=>(syN W).ok (h5.inv.good p q s O).1) h6,h7,h4.trans h8⟩
  ·exact⟨m,M,Pth.Cv.refl _,by rw[Q7]at H;exact H,I⟩
end
theorem orF2 (a b:Int):orF [a,b]=if a≠0 then a else b:=by
 unfold orF
 by_cases h:a≠0
 ·rw[if_pos h,if_pos h]
 ·rw[if_neg h,if_neg h]
  unfold orF
  by_cases H:b≠0
  ·rw[if_pos H]
  ·rw[if_neg H];unfold orF;omega
theorem cmpI_iff (a b:Int):(cmpI a b<0↔a<b)∧(cmpI a b=0↔a=b):=by
 unfold cmpI
 split
 ·exact⟨⟨fun _=>by assumption,fun _=>by decide⟩,⟨fun h=>absurd h (by decide),fun h=>by omega⟩⟩
 ·(split)
  ·exact⟨⟨fun h=>absurd h (by decide),fun h=>by omega⟩,⟨fun h=>absurd h (by decide),fun h=>by omega⟩⟩
  ·exact⟨⟨fun h=>absurd h (by decide),fun h=>by omega⟩,⟨fun _=>by omega,fun _=>rfl⟩⟩
theorem cmpP_iff (p q:Pl):(cmpP p q<0↔ltP p q)∧(cmpP p q=0↔p=q):=by
 have J:=cmpI_iff p.1 q.1
 have O:=cmpI_iff p.2 q.2
 have e:p=q↔p.1=q.1∧p.2=q.2:=⟨fun h=>by rw[h];exact⟨rfl,rfl⟩,fun h=>Jt h.1 h.2⟩
 unfold cmpP ltP
 rw[orF2,e]
 by_cases h:cmpI p.1 q.1≠0
 ·rw[if_pos h]
  have I: ¬p.1=q.1:=fun H=>h (J.2.2 H)
  exact⟨⟨fun H=>.inl (J.1.1 H),fun H=>J.1.2 (H.resolve_right fun h5=>I h5.1)⟩,⟨fun H=>absurd H h,fun H=>absurd H.1 I⟩⟩
 ·rw[if_neg h]
  have I:p.1=q.1:=J.2.1 (Classical.not_not.1 h)
  exact⟨⟨fun H=>.inr ⟨I,O.1.1 H⟩,fun H=>O.1.2 (H.resolve_left (by omega)).2⟩,⟨fun H=>⟨I,O.2.1 H⟩,fun H=>O.2.2 H.2⟩⟩
def cK (x y:Pth):Int:=orF [cmpP x.1 y.1,cmpP x.2.1 y.2.1]
def ltK (x y:Pth):Prop:=ltP x.1 y.1∨x.1=y.1∧ltP x.2.1 y.2.1
theorem cK_iff (x y:Pth):(cK x y<0↔ltK x y)∧(cK x y=0↔x.1=y.1∧x.2.1=y.2.1):=by
 have J:=cmpP_iff x.1 y.1
 have O:=cmpP_iff x.2.1 y.2.1
 have irr: ∀p:Pl,¬ltP p p:=fun p h=>by rcases h with h|h<;>omega
 unfold cK ltK
 rw[orF2]
 by_cases h:cmpP x.1 y.1≠0
 ·rw[if_pos h]
  have I: ¬x.1=y.1:=fun H=>h (J.2.2 H)
  exact⟨⟨fun H=>.inl (J.1.1 H),fun H=>J.1.2 (H.resolve_right fun h5=>I h5.1)⟩,⟨fun H=>absurd H h,fun H=>absurd H.1 I⟩⟩
 ·rw[if_neg h]
  have I:x.1=y.1:=J.2.1 (Classical.not_not.1 h)
  exact⟨⟨fun H=>.inr ⟨I,O.1.1 H⟩,fun H=>O.1.2 (H.resolve_left (by rw[I];exact irr _)).2⟩,⟨fun H=>⟨I,O.2.1 H⟩,fun H=>O.2.2 H.2⟩⟩
theorem Qhs (p q:Pl):F.dB p q=some (cmpP p q):=by
 unfold F.dB
 rw[Qdy,Qa,Qdy,Qa,Or_eq _ (by simp),Qa];rfl
theorem Qhc (x y:Pth):F.aF x y=some (cK x y):=by
 unfold F.aF
 rw[Qhs,Qa,Qhs,Qa,Or_eq _ (by simp),Qa];rfl
theorem ltP_tr {p q r:Pl}(H:ltP p q)(I:ltP q r):ltP p r:=by
 rcases H with H|⟨H,J⟩<;>rcases I with I|⟨I,O⟩
 ·exact .inl (by omega)
 ·exact .inl (by omega)
 ·exact .inl (by omega)
 ·exact .inr ⟨by omega,by omega⟩
theorem ltP_no {p:Pl}: ¬ltP p p:=fun h=>by rcases h with h|h<;>omega
theorem ltP_tri {p q:Pl}(h:p≠q):ltP p q∨ltP q p:=by
 have I: ¬(p.1=q.1∧p.2=q.2):=fun H=>h (Jt H.1 H.2)
 unfold ltP;omega
theorem ltK_tr {x y z:Pth}(H:ltK x y)(I:ltK y z):ltK x z:=by
 rcases H with H|⟨H,J⟩<;>rcases I with I|⟨I,O⟩
 ·exact .inl (ltP_tr H I)
 ·exact .inl (by rw[←I];exact H)
 ·exact .inl (by rw[H];exact I)
 ·exact .inr ⟨by rw[H,I],ltP_tr J O⟩
theorem ltK_no {x:Pth}: ¬ltK x x:=fun h=>by
 rcases h with h|⟨_,h⟩
 ·exact ltP_no h
 ·exact ltP_no h
theorem ltK_tri {x y:Pth}(h: ¬(x.1=y.1∧x.2.1=y.2.1)):ltK x y∨ltK y x:=by
 by_cases I:x.1=y.1
 ·rcases ltP_tri (fun J=>h ⟨I,J⟩)with H|H
  ·exact .inl (.inr ⟨I,H⟩)
  ·exact .inr (.inr ⟨I.symm,H⟩)
 ·rcases ltP_tri I with H|H
  ·exact .inl (.inl H)
  ·exact .inr (.inl H)
abbrev rlK (a b:Pth):Bool:=decide (cK a b<0)
theorem Qbc (a b:Pth):rlK a b=true↔ltK a b:=(decide_eq_true_iff).trans (cK_iff a b).1
theorem ordK (xs:List Pth)(hk: ∀x∈xs,∀y∈xs,x.1=y.1→x.2.1=y.2.1→x=y):A.ordB (fun x y=>F.aF x y) xs=true∧A.cl0 (fun x y=>F.aF x y)=rlK∧A.OrdOn rlK xs:=by
 have e:A.cl0 (fun x y=>F.aF x y)=rlK:=by
  funext a b
  show(match F.aF a b with|some c=>decide (c<0)|none=>false)=_
  rw[Qhc]
 have asy: ∀a b,rlK a b=true→rlK b a=false:=fun a b h=>by
  rw[Ym]
  exact fun H=>ltK_no (ltK_tr ((Qbc a b).1 h) ((Qbc b a).1 H))
 have tri: ∀a∈xs,∀b∈xs,rlK a b=false→rlK b a=false→a=b:=fun a ha b hb I H=>Wc fun h=>by
  rcases ltK_tri (x:=a) (y:=b) (fun h3=>h (hk a ha b hb h3.1 h3.2))with J|J
  ·rw[(Qbc a b).2 J]at I;cases I
  ·rw[(Qbc b a).2 J]at H;cases H
 have tr: ∀a b c,rlK a b=true→rlK b c=true→rlK a c=true:=fun a b c I H=>(Qbc a c).2 (ltK_tr ((Qbc a b).1 I) ((Qbc b c).1 H))
 refine⟨?_,e,fun x _ y _ h=>asy x y h,fun x O y hy I H=>tri x O y hy I H,fun x _ y _ z _ I H=>tr x y z I H⟩
 unfold A.ordB
 rw[Qz]
 intro x O
 rw[Qz]
 intro y hy
 rw[e,Qm,Qm]
 refine⟨⟨by show(F.aF x y).isSome=true;rw[Qhc];rfl,?_⟩,?_⟩
 ·cases I:rlK x y with
  |true=>rw[asy x y I];rfl
  |false=>
   cases H:rlK y x with
   |true=>rfl
   |false=>rw[decide_eq_true (tri x O y hy I H)];rfl
 ·rw[Qz]
  intro z hz
  cases I:rlK x y with
  |false=>rfl
  |true=>
   cases H:rlK y z with
   |false=>rfl
   |true=>rw[tr x y z I H];rfl
structure TT (g:List Nd) (d:List Int) (T:Pl→Pl→List Sm):Prop where
 inv:Pth.Inv (EN g d) (i0N g d) ctr ltS (GN g d) T
 tab:Pth.Tab (E:=EN g d) (i0:=i0N g d) fun p q=>(T p q).map ctr
 ini: ∀s∈spots g d,T s.1 s.1≠[]
 sp: ∀p q,T p q≠[]→(∃a,(p,a)∈spots g d)∧∃b,(q,b)∈spots g d
def tabL (g:List Nd)(d:List Int)(T:Pl→Pl→List Sm):List Pth:=(spots g d).flatMap fun s=>(spots g d).filterMap fun t=>if T s.1 t.1=[]then none else some (s.1,t.1,T s.1 t.1)
section
variable {g:List Nd}{l d:List Int}{dm:List (Int×Int)}(W:Whole g l d dm)
theorem tabL_mem {T:Pl→Pl→List Sm}{x:Pth}:x∈tabL g d T↔(∃a,(x.1,a)∈spots g d)∧(∃b,(x.2.1,b)∈spots g d)∧T x.1 x.2.1≠[]∧x.2.2=T x.1 x.2.1:=by
 unfold tabL
 rw[Xi]
 constructor
 ·rintro⟨s,I,h⟩
  obtain⟨t,J,h⟩:=Yu.1 h
  split at h
  ·cases h
  ·rename_i H
   obtain rfl:=Qp h
   exact⟨⟨s.2,I⟩,⟨t.2,J⟩,H,rfl⟩
 ·rintro⟨⟨a,O⟩,⟨b,hb⟩,H,h2⟩
  refine⟨_,O,Yu.2 ⟨_,hb,?_⟩⟩
  rw[if_neg H,←h2]
include W
theorem spots_pw:(spots g d).Pairwise fun a b=>ltP a.1 b.1:=Qhd d 0 g W.inc fun n H=>in2 W.own H
theorem tabL_pw (T:Pl→Pl→List Sm):(tabL g d T).Pairwise ltK:=by
 have O:=spots_pw W
 unfold tabL
 rw[List.flatMap,List.pairwise_flatten]
 refine⟨fun r hr=>?_,Ja.2 (O.imp fun {a b} J x H y I=>?_)⟩
 ·obtain⟨s,_,rfl⟩:=Qt.1 hr
  refine List.Pairwise.filterMap _ (fun a b J x H y I=>?_) O
  split at H
  ·cases H
  ·split at I
   ·cases I
   ·obtain rfl:=Qp H
    obtain rfl:=Qp I
    exact .inr ⟨rfl,J⟩
 ·obtain⟨t,_,H⟩:=Yu.1 H
  obtain⟨u,_,I⟩:=Yu.1 I
  split at H
  ·cases H
  ·split at I
   ·cases I
   ·obtain rfl:=Qp H
    obtain rfl:=Qp I
    exact .inl J
theorem Qcp:(spots g d).length≤96:=by
 have H:=Qbv W.own d g.length 0 (by omega)
 rw[Q7]at H
 have:=W.l32
 unfold spots;omega
theorem tabL_len {T:Pl→Pl→List Sm}:(tabL g d T).length≤10000:=by
 have H:=Qcp W
 have I: ∀(r:List Sp),((r.flatMap fun s=>(spots g d).filterMap fun t=>if T s.1 t.1=[]then none else some (s.1,t.1,T s.1 t.1)):List Pth).length≤r.length*96:=by
  intro r
  induction r with
  |nil=>simp
  |cons s r J=>
   rw[Jp,Ql,Qj]
   have:=Jj (fun t:Sp=>if T s.1 t.1=[]then none else some ((s.1,t.1,T s.1 t.1):Pth)) (spots g d)
   omega
 have:=I (spots g d)
 unfold tabL
 omega
theorem prs_len:(prs g d).length≤9216:=by
 have H:=Qcp W
 unfold prs
 rw[Pth.flat_len (k:=(spots g d).length) fun x _=>by rw[Qw]]
 exact Nat.mul_le_mul H H
theorem mu_fu (T:Pl→Pl→List Sm):muN g d (prs g d) T≤9216*66^4:=by
 have H:=Pth.mu_max (netN W) (syN W) (T:=T) (prs g d) fun x I=>by
  obtain⟨s,hs,h⟩:=Xi.1 I
  obtain⟨t,J,rfl⟩:=Qt.1 h
  have:=dp4 W (p:=t.1) (a:=t.2) J
  unfold dpN;rw[this.1];show t.2.toNat≤4;omega
 have O:=prs_len W
 have h3:=lps32 W
 have h4:2*((lpsN g).length+1)≤66:=by omega
 exact Wj H (Nat.mul_le_mul O (Nat.pow_le_pow_left h4 4))
omit W in
theorem isLst1 (s:Sm):Pth.IsLst ctr ltS [s] [s]:=by
 refine⟨Yd ..,fun u=>⟨fun h=>⟨h,fun x H I=>?_⟩,fun h=>h.1⟩⟩
 rw[Qi]at h H
 subst h;subst H
 exact Pth.less_irr linS _ I
theorem table_l6 (e0 e1:Int): ∀(n k f:Nat) (m:Tab0),k+n=(spots g d).length→n<f→MI g d m→(∀s∈(spots g d).take k,∃u∈tbl m s.1 s.1,Pth.le (ctr u) (i0N g d s.1))→(∀p q,tbl m p q≠[]→∃s∈(spots g d).take k,s.1=p)→
  ∃m',MI g d m'∧(∀s∈spots g d,∃u∈tbl m' s.1 s.1,Pth.le (ctr u) (i0N g d s.1))∧F.aB (spots g d,e1) (edges g d,e0) f m (k:Int)=F.t (spots g d,e1) (edges g d,e0) A.FU m':=by
 have h96:=Qcp W
 intro n
 induction n with
 |zero=>
  intro k f m hk hf M h1 h2
  obtain⟨f,rfl⟩: ∃f',f=f'+1:=⟨f-1,by omega⟩
  rw[W8 (by omega)]at h1
  refine⟨m,M,h1,?_⟩
  rw[F.aB,if_neg (by show ¬(k:Int)<((spots g d).length:Int);omega)]
 |succ n ih=>
  intro k f m hk hf M h1 h2
  obtain⟨f,rfl⟩: ∃f',f=f'+1:=⟨f-1,by omega⟩
  obtain⟨x,hx⟩: ∃x,(spots g d)[k]?=some x:=⟨_,Qd (by omega)⟩
  have J:=Qf hx
  obtain⟨i1,_,_,i4,i5⟩:=o_b9 W (p:=x.1) (x:=x.2) J
  have I: ∀q,tbl m x.1 q=[]:=fun q=>Wc fun h=>by
   obtain⟨s,H,h3⟩:=h2 x.1 q h
   obtain⟨j,hj⟩:=Xe H
   rw[Xf]at hj
   split at hj
   ·rename_i hjk
    have h4:=X0.1 (spots_pw W) j k (by omega) (by omega) hjk
    obtain⟨_,e1⟩:=Qc.1 hj
    obtain⟨_,e2⟩:=Qc.1 hx
    rw[e1,e2,h3]at h4
    exact ltP_no h4
   ·cases hj
  have hG: ∀s∈tbl m x.1 x.1++[(idP x.2).1],GN g d x.1 x.1 s:=fun s H=>by
   rw[I,W6,Qi]at H
   rw[H];exact i4
  obtain⟨r,h3,h4⟩:=add_eq m x.1 x.1 [(idP x.2).1] (by rw[I];simp) (by simp) hG
  rw[I,W6]at h3
  obtain rfl:=h3.uniq linS (isLst1 _)
  rw[I,if_neg (fun h=>by cases h)]at h4
  have M':MI g d (Z.mins m (x.1,x.1) [(idP x.2).1]):=M.ins J J (fun h=>by cases h) (M.inv.first (netN W) (syN W) I i4 i5)
  have hself:tbl (Z.mins m (x.1,x.1) [(idP x.2).1]) x.1 x.1=[(idP x.2).1]:=by rw[Qcl,Pth.put_self]
  obtain⟨m',h5,h6,h7⟩:=ih (k+1) f _ (by omega) (by omega) M' (fun s H=>by
   rw[Yk,hx]at H
   by_cases O:s.1=x.1
   ·rw[O,hself]
    exact⟨_,Xd _,by rw[i5];exact Pth.le_refl _⟩
   ·rcases Qn.1 H with H|H
    ·obtain⟨u,hu,h⟩:=h1 s H
     refine⟨u,?_,h⟩
     rw[Qcl];unfold Pth.put;rw[if_neg (fun h=>O h.1)];exact hu
    ·rw[Option.toList_some,Qi]at H
     exact absurd (by rw[H]) O) (fun p q h=>by
   rw[Yk,hx]
   rw[Qcl]at h
   unfold Pth.put at h
   split at h
   ·rename_i hpq
    exact⟨x,Q9 _ (by rw[Option.toList_some];exact Xd _),hpq.1.symm⟩
   ·obtain⟨s,H,h3⟩:=h2 p q h
    exact⟨s,Q6 _ H,h3⟩)
  refine⟨m',h5,h6,?_⟩
  rw[F.aB,if_pos (by show(k:Int)<((spots g d).length:Int);omega),show A.ix ((spots g d,e1):List Sp×Int).1 (k:Int)=some x from A.ixn hx,Qa,i1,Qa,
   show F.an m (x.1,x.1) _=_ from h4,Qa,A.gd1 (A.r64n (by omega))]
  exact h7
theorem table_P (hid: ∀n∈g,A.h6 n.1)(hE:(edges g d).length≤1000000)(h1:F.cv g=some (spots g d,0))(h2:F.cw g=some (edges g d,0)): ∃T,TT g d T∧F.a9 g=some (tabL g d T,0):=by
 have h96:=Qcp W
 have M0:MI g d []:=⟨⟨fun p q s I=>(by cases I),fun p q=>List.Pairwise.nil,fun p q s I=>(by cases I)⟩,Xu,fun x O=>(by cases O),fun x O=>(by cases O)⟩
 obtain⟨m1,M1,i1,e1⟩:=table_l6 W 0 0 (spots g d).length 0 A.FU [] (by omega) (by have:=Qab;omega) M0 (fun s I=>by rw[List.take_zero]at I;cases I) (fun p q h=>absurd rfl h)
 obtain⟨m,M,hc,cl,e2⟩:=table_l5 W 0 0 hE (by omega) _ A.FU m1 M1 (Q1 _) (Nat.lt_of_le_of_lt (mu_fu W _) (by decide))
 have ini: ∀s∈spots g d,∃u∈tbl m s.1 s.1,Pth.le (ctr u) (i0N g d s.1):=fun s I=>by
  obtain⟨u,hu,J⟩:=i1 s I
  obtain⟨v,hv,h4⟩:=hc s.1 s.1 u hu
  exact⟨v,hv,Pth.le_trans ((syN W).ok (M.inv.good _ _ v hv).1) ((netN W).iok _) h4 J⟩
 have sp: ∀p q,tbl m p q≠[]→(∃a,(p,a)∈spots g d)∧∃b,(q,b)∈spots g d:=fun p q h=>M.ks _ (tbl_mem h)
 have hT:TT g d (tbl m):=by
  refine⟨M.inv,M.inv.tab (netN W) (syN W) (fun p h=>?_) (fun p e he s I v hv=>?_),fun s I h=>?_,sp⟩
  ·obtain⟨q,hq⟩:=h
   obtain⟨a,H⟩:=(sp p q hq).1
   exact ini _ H
  ·obtain⟨e,hE2,rfl⟩:=Qt.1 he
   obtain⟨a,H⟩:=(sp p _ (List.ne_nil_of_mem I)).1
   exact cl _ H e hE2 s I v hv
  ·obtain⟨u,hu,_⟩:=ini s I
   rw[h]at hu;cases hu
 refine⟨tbl m,hT,?_⟩
 have hk: ∀x∈m,∀y∈m,x.1=y.1→x=y:=fun x O y hy h=>by
  obtain⟨i,hi⟩:=Xe O
  obtain⟨j,hj⟩:=Xe hy
  have a1:=(Z.mget_get (z:=[]) M.nd hi).1
  have a2:=(Z.mget_get (z:=[]) M.nd hj).1
  rw[h,a2]at a1
  exact Jt h a1.symm
 obtain⟨o1,o2,o3⟩:=ordK (m.map Qcq) fun x O y hy J h4=>by
  obtain⟨a,H,rfl⟩:=Qt.1 O
  obtain⟨b,hb,rfl⟩:=Qt.1 hy
  rw[hk a H b hb (Jt J h4)]
 have hperm:(tabL g d (tbl m)).Perm (m.map Qcq):=by
  have hn1:(tabL g d (tbl m)).Nodup:=List.Pairwise.imp (S:=fun a b=>a≠b) (fun {a b} h e=>ltK_no (x:=b) (by rw[e]at h;exact h)) (tabL_pw W (tbl m))
  refine(List.perm_ext_iff_of_nodup hn1 ?_).2 fun x=>?_
  ·refine Ja.2 (List.Pairwise.imp_of_mem (S:=fun a b=>Qcq a≠Qcq b) (fun {a b} H hb h e=>h ?_) (Ja.1 M.nd))
   have h5:a.1=b.1:=Jt (congrArg (fun z:Pth=>z.1) e) (congrArg (fun z:Pth=>z.2.1) e)
   exact h5
  ·rw[tabL_mem,Qt]
   constructor
   ·rintro⟨_,_,J,h4⟩
    refine⟨_,tbl_mem J,?_⟩
    show(x.1,x.2.1,tbl m x.1 x.2.1)=x
    rw[←h4]
   ·rintro⟨a,H,rfl⟩
    obtain⟨i,hi⟩:=Xe H
    have a1:tbl m a.1.1 a.1.2=a.2:=(Z.mget_get (z:=[]) M.nd hi).1
    refine⟨(M.ks a H).1,(M.ks a H).2,?_,a1.symm⟩
    show tbl m a.1.1 a.1.2≠[]
    rw[a1];exact M.ne a H
 have hhas: ∀(p:Pl) (a:Int),(p,a)∈spots g d→A.h6 p.1∧A.h6 p.2:=fun p a h=>by
  obtain⟨n,hn,J,h4,h5⟩:=Qbp d 0 g (fun n hn=>in2 W.own hn) (p,a) h
  have J:p.1=n.1:=J
  have h4:0≤p.2:=h4
  have h5:p.2≤2:=h5
  refine⟨by rw[J];exact hid n hn,?_⟩
  exact⟨by show-9223372036854775808≤p.2;omega,by show p.2≤9223372036854775807;omega⟩
 have hend:=Qho m (fun x O=>by
   obtain⟨⟨a,H⟩,⟨b,hb⟩⟩:=M.ks x O
   exact⟨(hhas _ _ H).1,(hhas _ _ H).2,(hhas _ _ hb).1,(hhas _ _ hb).2⟩) M.ne (by
   have J:=hperm.length_eq
   rw[Qw]at J
   have:=tabL_len W (T:=tbl m)
   omega) o1
 rw[o2,←A.srt_uniq o3 hperm ((tabL_pw W (tbl m)).imp fun {a b} h=>by
  rw[Ym]
  exact fun h2=>ltK_no (ltK_tr h ((Qbc b a).1 h2)))]at hend
 unfold F.a9
 rw[h1,Qa,if_neg (fun h=>h rfl),h2,Qa,if_neg (fun h=>h rfl)]
 exact e1.trans (e2.trans hend)
end
end Go.Proofs.YtlbnpmfggfbdoaaGreatDoor
end
