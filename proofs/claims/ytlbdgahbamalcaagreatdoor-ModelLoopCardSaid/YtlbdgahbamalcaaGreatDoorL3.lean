import Derived.Test.YtlbdgahbamalcaaGreatDoorL2
import Derived.RecoverIn
set_option linter.unusedVariables false
set_option linter.unusedSimpArgs false
set_option linter.unusedSectionVars false
set_option maxRecDepth 20000
section
namespace Go.M
open Go.RowKit Go.Z
section
variable {P:Program}{C:Cx}{w0:World}{ρ:Rho}{h:T O}{nx fl:Nat}{w w':World}{e:Env}{n:Nat}{a:Act}{s s':S}
theorem HR.move (hr:HR P w0 ρ h nx w){i:Nat}{o o':O}{x x':Pl}(hi:h.get i=some o)(hx:ρ i=some x)(hb:x'.b=x.b)(hs:w'.heap.size=w.heap.size)(hw: ∀k,k≠x.b->w'.heap[k]?=w.heap[k]?)(h1:w'.os=w.os)(h2:w'.tape=w.tape)(h3:w'.output=w.output)
  (hben:Ben w w' x.b) (ho:OR P (ρ.add nx x') w' x' o'):HR P w0 (ρ.add nx x') ((h.del i).set nx o') (nx+1) w':=by
 obtain⟨hin,y,hy,hlo,hhi,_⟩:=hr.live i o hi
 rw[hx]at hy
 injection hy with hy
 subst hy
 have hl:Le ρ (ρ.add nx x'):=Rho.le_add (hr.top nx (Qo _))
 have hbenAll: ∀b,b<w.heap.size->Ben w w' b:=fun b _=>by
  by_cases hb:b=x.b
  ·subst hb;exact hben
  ·exact Ben.of_eq (hw b hb)
 have old: ∀{k r},k≠nx->((h.del i).set nx o').get k=some r->h.get k=some r/\k≠i:=fun {k r} hk hg=>by
  rw[T.get_set_other _ _ hk,T.get_del]at hg
  split at hg
  ·cases hg
  ·rename_i e1;exact⟨hg,e1⟩
 have apart: ∀{k r y},h.get k=some r->k≠i->ρ k=some y->y.b≠x.b:=fun {k r y} hk hki hy e1=>hki (hr.inj k i r o y x hk hi hy hx e1)
 refine⟨fun j p hj=>?_,fun j k p q y z hj hk hy hz e1=>?_,fun j hj=>?_,fun k hk=>(hw k (by omega)).trans (hr.base k hk),by rw[hs];exact hr.size,h1.trans hr.os,h2.trans hr.tape,h3.trans hr.output⟩
 ·by_cases hjn:j=nx
  ·subst hjn
   rw[T.get_set_same]at hj
   injection hj with hj
   subst hj
   exact⟨by omega,x',Rho.add_same _ _ _,by omega,by omega,ho⟩
  ·obtain⟨g1,g2⟩:=old hjn hj
   obtain⟨k1,y,k2,k3,k4,k5⟩:=hr.live j p g1
   exact⟨by omega,y,hl _ _ k2,k3,by omega,OR.keep hl (by omega) (hw y.b (apart g1 g2 k2)) hbenAll k5⟩
 ·have res: ∀{k r y},k≠nx->h.get k=some r->(ρ.add nx x') k=some y->ρ k=some y:=fun {k r y} hk _ hy=>by rwa[Rho.add_other hk]at hy
  by_cases hjn:j=nx<;>by_cases hkn:k=nx
  ·omega
  ·subst hjn
   rw[Rho.add_same]at hy
   injection hy with hy;subst hy
   obtain⟨g1,g2⟩:=old hkn hk
   exact absurd (by rw[<-e1,hb]) (apart g1 g2 (res hkn g1 hz))
  ·subst hkn
   rw[Rho.add_same]at hz
   injection hz with hz;subst hz
   obtain⟨g1,g2⟩:=old hjn hj
   exact absurd (by rw[e1,hb]) (apart g1 g2 (res hjn g1 hy))
  ·obtain⟨g1,_⟩:=old hjn hj
   obtain⟨g3,_⟩:=old hkn hk
   exact hr.inj j k p q y z g1 g3 (res hjn g1 hy) (res hkn g3 hz) e1
 ·rw[Rho.add_other (by omega)];exact hr.top j (by omega)
theorem Tr.move (hr:HR P w0 ρ h nx w){i:Nat}{o o':O}{x x':Pl}(hi:h.get i=some o)(hx:ρ i=some x)(hb:x'.b=x.b)(hs:w'.heap.size=w.heap.size)(hw: ∀k,k≠x.b->w'.heap[k]?=w.heap[k]?)(hfl:fl<=i)(hnx:fl<=nx):Tr ρ h nx w (ρ.add nx x') ((h.del i).set nx o') (nx+1) w' fl:=
 ⟨Rho.le_add (hr.top nx (Qo _)),by omega,by omega,fun b hb2 hn=>hw b fun e1=>hn i o x hi hx e1.symm,fun j p y hj hy _=>by
  by_cases hjn:j=nx
  ·subst hjn
   rw[Rho.add_same]at hy
   injection hy with hy;subst hy
   exact⟨i,o,x,hi,hx,hb.symm⟩
  ·rw[T.get_set_other _ _ hjn,T.get_del]at hj
   rw[Rho.add_other hjn]at hy
   split at hj
   ·cases hj
   ·exact⟨j,p,y,hj,hy,rfl⟩,fun j hj=>by rw[T.get_set_other _ _ (by omega),T.get_del,Qd (by omega)],fun j p y hj h1 h2=>hw y.b fun e=>by have:=hr.inj j i p o y x h1 hi h2 hx e;omega,fun j hj h1=>by rw[Rho.add_other (by omega)];exact h1⟩
theorem o_a6 {xs l:List V}{o m:Nat}(h:cells xs o m=some l):l=(xs.drop o).take m/\l.length=m:=by
 unfold cells at h
 obtain⟨hb,h1⟩:=Qaa h
 injection h1 with h1
 exact⟨h1.symm,by rw[<-h1];exact Ql hb⟩
theorem o_cJ (hr:HR P w0 ρ h nx w){sz k:Nat}{y:V}{ys:List V}{uy:Value}(hy:cv ρ y=some uy)(hsl:isSl y=true)(he:elems h sz y=some (ys,k)):
  (k=0/\∃A c,uy=.slice A 0 c)\/(0<k/\∃ad c news,uy=.slice (some ad) k c/\cvc ρ ys=some news/\news.length=k*sz/\∀j u,news[j]?=some u->w.cell? (ad.add j)=some u):=by
 unfold elems at he
 split at he
 ·rename_i i o len c hs
  rw[V.sl?_eq hs]at hy
  cases h0:Nat.beq len 0 with
  |true=>
   rw[h0,cond_true]at he
   simp only[Qc,Qr]at he
   obtain⟨rfl,rfl⟩:=he
   have:=Ql h0
   subst this
   obtain⟨x,_,_,rfl⟩:=cv_s hy
   exact .inl ⟨rfl,_,_,rfl⟩
  |false=>
   rw[h0,cond_false]at he
   split at he
   ·rename_i T xs hrow
    split at he
    ·rename_i l hl
     simp only[Qc,Qr]at he
     obtain⟨rfl,rfl⟩:=he
     obtain⟨rfl,hlen⟩:=o_a6 hl
     obtain⟨x,vs,arr,hx,rfl,_,hvs,_,_,_,_,_,hcell⟩:=hr.cells hy hrow
     have hvs2:=Qbc (len*sz) (Qbb o hvs)
     have hpos:0<len:=by
      cases len with
      |zero=>cases h0
      |succ m=>omega
     refine .inr ⟨hpos,_,_,_,rfl,hvs2,by rw[Qal hvs2,hlen],fun j u hj=>hcell j u ?_⟩
     rw[Wq]at hj
     split at hj
     ·rw[Q8]at hj;exact hj
     ·cases hj
    ·cases he
   ·cases he
 ·split at he
  ·rename_i b hb
   rw[V.str?_eq hb]at hsl
   cases hsl
  ·obtain⟨hn,h1⟩:=Qaa he
   simp only[Qc,Qr]at h1
   obtain⟨rfl,rfl⟩:=h1
   rw[V.nilS_eq hn]at hy
   exact .inl ⟨rfl,none,0,cv_k hy⟩
theorem Qhw (hC:OKC P C){t el ty:TypeId}{J:Ti}(ht:P.underlying t=some (.slice el))(hJ:C.ty.get el=some J){A B:Option Addr}{len c d:Nat}(hle:len<=c)(w:World):(Builtin.append_ #[t,t] ty #[.slice A len c,.slice B 0 d]).run P w=.ok (.slice A len c) w:=by
 cases B<;>cases A<;>simp[Builtin.append_,run_underlying ht,o_r hC hJ,Builtin.lenOf,hle,Builtin.firstCells,loadCells,loadCellsFrom,storeCells]
theorem o_bF (hC:OKC P C)(hr:HR P w0 ρ h nx w){el:TypeId}{J:Ti}(hJ:C.ty.get el=some J){l:List V}{vs:List Value}(hvs:cvc ρ l=some vs){m cap:Nat}(hm:vs.length=m*J.n)(hcap:m<=cap){z:Value}(hz:z.cells.size=J.n)(hnx:fl<=nx):
  HR P w0 (ρ.add nx ⟨w.heap.size,0,cap,J.n⟩) (h.set nx (.c el l)) (nx+1) (w.drew.alloc (.cells (vs.toArray++Builtin.zeroCells z.cells (cap-m)) el))/\
   Tr ρ h nx w (ρ.add nx ⟨w.heap.size,0,cap,J.n⟩) (h.set nx (.c el l)) (nx+1) (w.drew.alloc (.cells (vs.toArray++Builtin.zeroCells z.cells (cap-m)) el)) fl:=by
 have hr1:HR P w0 ρ h nx w.drew:=hr.heap rfl rfl rfl rfl
 have hor:OR P (ρ.add nx ⟨w.heap.size,0,cap,J.n⟩) (w.drew.alloc (.cells (vs.toArray++Builtin.zeroCells z.cells (cap-m)) el)) ⟨w.heap.size,0,cap,J.n⟩ (.c el l):=
  ⟨vs,_,Qbj (Rho.le_add (hr.top nx (Qo _))) _ _ hvs,World.alloc_heap_new w.drew _,fun k v hk=>by
   have hlt:=(Qb.1 hk).1
   rw[Wm,Wt (by simpa using hlt)]
   simpa using hk,(hC.ty el J hJ).sz,by
   simp only[Wm,Array.size_append,Xs,size_zeroCells,hz,hm,<-W6]
   congr 1
   omega⟩
 exact⟨hr1.alloc _ _ _ rfl hor,(Tr.heap (w:=w) (w':=w.drew) ρ h nx fl rfl).trans (Tr.alloc (w:=w.drew) hr1 (.cells (vs.toArray++Builtin.zeroCells z.cells (cap-m)) el) (.c el l) ⟨w.heap.size,0,cap,J.n⟩ rfl hnx)⟩
def Ap (P:Program)(w0:World)(ρ:Rho)(h:T O)(nx fl:Nat)(w:World)(t ty:TypeId)(ux uy:Value)(r:V×T O×Nat):Prop:=∃ρ' w' u,HR P w0 ρ' r.2.1 r.2.2 w'/\Tr ρ h nx w ρ' r.2.1 r.2.2 w' fl/\cv ρ' r.1=some u/\(Builtin.append_ #[t,t] ty #[ux,uy]).run P w=.ok u w'
theorem run_room {t el ty:TypeId}{J:Ti}(hC:OKC P C)(ht:P.underlying t=some (.slice el))(hJ:C.ty.get el=some J){g off sLen sCap:Nat}{cur:Array Value}(hg:w.heap[g]?=some (.cells cur el (0,0))){ad:Addr}{m c:Nat}{news:List Value}(hl:news.length=m*J.n)(hnews: ∀j u,news[j]?=some u->w.cell? (ad.add j)=some u)
  (h1: ∀u∈news,u.oneCell'=true) (hroom:sLen+m<=sCap) (hfit:off+sLen*J.n+news.length<=cur.size):
  (Builtin.append_ #[t,t] ty #[.slice (some ⟨g,off,none⟩) sLen sCap,.slice (some ad) m c]).run P w=.ok (.slice (some ⟨g,off,none⟩) (sLen+m) sCap) (w.setRow g (cur.toList.take (off+sLen*J.n)++news++cur.toList.drop (off+sLen*J.n+news.length)).toArray):=by
 obtain⟨i,z,hi,hz,_,_,_,_,_,hn,_⟩:=(hC.ty el J hJ).info
 have hf:=run_firstCells_some (P:=P) w i.size m ad m c news (by rw[hn];exact hl) hnews
 rw[hn]at hf
 have hst:=run_storeCells_at P g (off+sLen*J.n) el news 0 cur w hg (by simpa using hfit) h1
 simp only[Yo]at hst
 simp[Builtin.append_,run_underlying ht,sizeOf,typeInfo,hi,Builtin.lenOf,hroom,hf,Addr.add_lit,hn,hst]
theorem o_cj (hC:OKC P C)(hr:HR P w0 ρ h nx w)(hnx:fl<=nx){t el ty:TypeId}{J:Ti}(ht:P.underlying t=some (.slice el))(hJ:C.ty.get el=some J){x y:V}{ux uy:Value}(hx:cv ρ x=some ux)(hy:cv ρ y=some uy){r:V×T O×Nat}(hl:Qfx J el h nx fl x y=some r):Ap P w0 ρ h nx fl w t ty ux uy r:=by
 unfold Qfx at hl
 obtain⟨hsy,h1⟩:=Qao hl
 clear hl
 rw[Bool.not_eq_false']at hsy
 split at h1
 ·cases h1
 ·rename_i ys k he
  rcases o_cJ hr hy hsy he with⟨rfl,B,d,rfl⟩|⟨hk,ad,cy,news,rfl,hys,hnl,hnews⟩
  ·rw[show Nat.beq 0 0=true from rfl,cond_true]at h1
   obtain⟨hsx,h2⟩:=Qaa h1
   injection h2 with h2
   subst h2
   have key: ∃A len c,ux=.slice A len c/\len<=c:=by
    unfold isSl at hsx
    rw[Xz]at hsx
    rcases hsx with hsx|hsx
    ·rw[V.nilS_eq hsx]at hx;exact⟨none,0,0,cv_k hx,Qo _⟩
    ·obtain⟨⟨i,o,len,c⟩,hs⟩:=Xg.1 hsx
     rw[V.sl?_eq hs]at hx
     obtain⟨x1,_,hok,rfl⟩:=cv_s hx
     refine⟨_,_,_,rfl,?_⟩
     cases c with
     |c m=>exact Wf hok
     |u m z=>
      have hok:z=x1.s/\o=m*x1.s/\m+len<=x1.c:=Wf hok
      show len<=x1.c-m
      omega
   obtain⟨A,len,c,rfl,hle⟩:=key
   exact⟨ρ,w,_,hr,Tr.refl _ _ _ _ _,hx,Qhw hC ht hJ hle w⟩
  ·have hk0:Nat.beq k 0=false:=by cases k with
    |zero=>omega
    |succ=>rfl
   rw[hk0,cond_false]at h1
   obtain⟨hfit,h2⟩:=Qaa h1
   clear h1
   unfold fits at hfit
   rw[Qe,Qe]at hfit
   have f1:=Qi hfit.1.1
   have f2:=Qi hfit.1.2
   have f3:=Qi hfit.2
   obtain⟨i0,z,hi,hz,_,_,_,_,hby,hn,hzn⟩:=(hC.ty el J hJ).info
   have hone:=cvc_one hys
   unfold ap1 at h2
   split at h2
   ·rename_i i o len c hs
    simp only[hs,Option.elim]at f1
    split at h2
    ·rename_i TT xs hrow
     obtain⟨hT,h3⟩:=Qaa h2
     clear h2
     have hT:=Ql hT
     subst hT
     rw[V.sl?_eq hs]at hx
     obtain⟨x1,vs,arr,hx1,rfl,hok,hvs,hb,hsz,hcap,hget,hlt,hcell⟩:=hr.cells hx hrow
     have hs1:x1.s=J.n:=by
      have:=(hC.ty TT J hJ).sz
      rw[hsz]at this
      injection this
     have hkb:(len+k)*i0.bytes<=140737488355328:=by rw[hby];exact f1
     have h63:len+k<=140737488355328:=Wd (Yk _ f2) f1
     have grow: ∀(h':T O),HR P w0 ρ h' nx w->Tr ρ h nx w ρ h' nx w fl->capN x1 c<len+k->∀l,cells xs o (len*J.n)=some l->Ap P w0 ρ h nx fl w t ty (.slice (some ⟨x1.b,x1.o+o,none⟩) len (capN x1 c)) (.slice (some ad) k cy) (.s nx 0 (len+k) (.u 0 J.n),h'.set nx (.c TT (l++ys)),nx+1):=fun h' hr' htr hlt2 l hl=>by
      obtain⟨rfl,hll⟩:=o_a6 hl
      have hvs2:=Qbc (len*J.n) (Qbb o hvs)
      have hol:((vs.drop o).take (len*J.n)).length=len*J.n:=by rw[Qal hvs2,hll]
      have hg:=grownCap_ge w (len+k) (capN x1 c) TT
      obtain⟨g1,g2⟩:=o_bF (fl:=fl) (m:=len+k) (cap:=grownCap w (len+k) (capN x1 c) TT) hC hr' hJ (Qbr hvs2 hys) (by rw[Wg,hol,hnl,W6]) hg hzn hnx
      refine⟨_,_,_,g1,htr.trans g2,Qbh (Rho.add_same _ _ _) (Wc (⟨rfl,(Y0 _).symm,by show 0+(len+k)<=grownCap w (len+k) (capN x1 c) TT;omega⟩:J.n=(Pl.mk w.heap.size 0 (grownCap w (len+k) (capN x1 c) TT) J.n).s/\0=0*(Pl.mk w.heap.size 0 (grownCap w (len+k) (capN x1 c) TT) J.n).s/\0+(len+k)<=(Pl.mk w.heap.size 0 (grownCap w (len+k) (capN x1 c) TT) J.n).c)),?_⟩
      have:=run_append_grow (P:=P) w t ty TT i0 z ht hi hz ⟨x1.b,x1.o+o,none⟩ len (capN x1 c) ((vs.drop o).take (len*J.n)) (by rw[hol,hn]) (fun j v hj=>hcell j v (by
       rw[Wq]at hj
       split at hj
       ·rw[Q8]at hj;exact hj
       ·cases hj)) ad k cy news (by rw[hn];exact hnl) hnews hlt2 (by omega) (growslice_fits hlt2 hkb)
      rw[this]
      simp[capN]
     have inpl: ∀xs',Qdj xs (o+len*J.n) ys=some xs'->fl<=i->len+k<=capN x1 c->slOk x1 o (len+k) c=true->Ap P w0 ρ h nx fl w t ty (.slice (some ⟨x1.b,x1.o+o,none⟩) len (capN x1 c)) (.slice (some ad) k cy) (.s i o (len+k) c,h.set i (.c TT xs'),nx):=fun xs' hsp hfl hroom hok2=>by
      obtain⟨x2,arr2,w2,k1,k2,k3,k4,k5,k6⟩:=hr.write (rowAt_eq hrow) hfl hsp hys
      rw[hx1]at k1
      injection k1 with k1
      subst k1
      rw[hb]at k2
      injection k2 with k2
      injection k2 with k2 _ _
      subst k2
      refine⟨ρ,w2,_,k5,k6,Qbh hx1 hok2,?_⟩
      rw[run_room hC ht hJ hb hnl hnews hone hroom (by omega),k4]
      simp[Xb]
     unfold apS at h3
     cases c with
     |c cap=>
      simp only at h3
      cases hcb:Nat.ble (len+k) cap with
      |true=>
       rw[hcb,cond_true]at h3
       obtain⟨hfl,h4⟩:=Qaa h3
       unfold apIn at h4
       split at h4
       ·rename_i xs' hsp
        injection h4 with h4
        subst h4
        have:=Qi hcb
        exact inpl xs' hsp (Qi hfl) this (Wc this)
       ·cases h4
      |false=>
       rw[hcb,cond_false]at h3
       unfold apNew at h3
       split at h3
       ·rename_i l hl
        injection h3 with h3
        subst h3
        have hlt2:cap<len+k:=by
         rcases Yn cap (len+k)with g|g
         ·exact g
         ·rw[Yr g]at hcb;cases hcb
        exact grow h hr (Tr.refl _ _ _ _ _) hlt2 l hl
       ·cases h3
     |u m zz=>
      simp only at h3
      obtain⟨hfl,h4⟩:=Qaa h3
      have hfl:=Qi hfl
      have hok':zz=x1.s/\o=m*x1.s/\m+len<=x1.c:=Wf hok
      have hrowin:x1.o+xs.length<=arr.size:=by
       have:=row_in (vs:=vs) (arr:=arr) (o0:=x1.o) (k:=vs.length) hget (by omega) (Qo _)
       rwa[Qal hvs]at this
      cases hcb:Nat.ble (o+len*J.n+ys.length) xs.length with
      |true=>
       rw[hcb,cond_true]at h4
       unfold apIn at h4
       split at h4
       ·rename_i xs' hsp
        injection h4 with h4
        subst h4
        have hle:=Qi hcb
        have hyl:ys.length=k*J.n:=by rw[<-Qal hys,hnl]
        have hmul:(m+len+k)*J.n<=x1.c*J.n:=by
         rw[W6,W6]
         have e1:o=m*J.n:=by rw[<-hs1];exact hok'.2.1
         rw[hs1]at hcap
         omega
        have hfin:m+len+k<=x1.c:=Nat.le_of_mul_le_mul_right hmul f3
        exact inpl xs' hsp hfl (by show len+k<=x1.c-m;omega) (Wc ⟨hok'.1,hok'.2.1,by omega⟩)
       ·cases h4
      |false=>
       rw[hcb,cond_false]at h4
       unfold apNew at h4
       split at h4
       ·rename_i l hl
        injection h4 with h4
        subst h4
        rcases Yn (x1.c-m) (len+k)with hlt2|hge
        ·exact grow (h.del i) (hr.del i) (Tr.del ρ h nx w hfl) hlt2 l hl
        ·obtain⟨rfl,hll⟩:=o_a6 hl
         have hvs2:=Qbc (len*J.n) (Qbb o hvs)
         have hol:((vs.drop o).take (len*J.n)).length=len*J.n:=by rw[Qal hvs2,hll]
         have ho:o=m*J.n:=by rw[<-hs1];exact hok'.2.1
         have hmul:(m+(len+k))*J.n<=x1.c*J.n:=Q5 _ (by omega)
         rw[W6,W6]at hmul
         rw[hs1]at hcap
         have hin:x1.o+o+len*J.n+news.length<=arr.size:=by omega
         have hrun:=run_room (ty:=ty) (w:=w) (sCap:=x1.c-m) (c:=cy) hC ht hJ hb hnl hnews hone hge (by omega)
         have hset:(w.setRow x1.b (arr.toList.take (x1.o+o+len*J.n)++news++arr.toList.drop (x1.o+o+len*J.n+news.length)).toArray).heap[x1.b]?=some (.cells (arr.toList.take (x1.o+o+len*J.n)++news++arr.toList.drop (x1.o+o+len*J.n+news.length)).toArray TT (0,0)):=setRow_heap w x1.b arr _ TT (0,0) hb
         have hoth: ∀j,j≠x1.b->(w.setRow x1.b (arr.toList.take (x1.o+o+len*J.n)++news++arr.toList.drop (x1.o+o+len*J.n+news.length)).toArray).heap[j]?=w.heap[j]?:=fun j hj=>setRow_other w x1.b j _ hj
         have hss:(w.setRow x1.b (arr.toList.take (x1.o+o+len*J.n)++news++arr.toList.drop (x1.o+o+len*J.n+news.length)).toArray).heap.size=w.heap.size:=by simp[World.setRow]
         have hle:Le ρ (ρ.add nx ⟨x1.b,x1.o+o,x1.c-m,J.n⟩):=Rho.le_add (hr.top nx (Qo _))
         have hor:OR P (ρ.add nx ⟨x1.b,x1.o+o,x1.c-m,J.n⟩) (w.setRow x1.b (arr.toList.take (x1.o+o+len*J.n)++news++arr.toList.drop (x1.o+o+len*J.n+news.length)).toArray) ⟨x1.b,x1.o+o,x1.c-m,J.n⟩ (.c TT ((xs.drop o).take (len*J.n)++ys)):=by
          refine⟨_,_,Qbj hle _ _ (Qbr hvs2 hys),hset,fun j v hj=>?_,(hC.ty TT J hJ).sz,?_⟩
          ·simp only[W9]
           rw[get_put (by simp;omega)]
           rw[List.getElem?_append]at hj
           split at hj
           ·rename_i g1
            rw[hol]at g1
            rw[Qj (by omega)]
            rw[Wq,Qj g1,Q8]at hj
            have:=hget _ _ hj
            rw[<-Wh,<-Xb]at this
            exact this
           ·rename_i g1
            rw[hol]at g1 hj
            have hlt3:=(Qb.1 hj).1
            rw[Qd (by omega),Qj (by omega),<-hj]
            congr 1
            omega
          ·have e2:(x1.c-m)*J.n+m*J.n=x1.c*J.n:=by rw[<-W6];congr 1;omega
           simp only[Xs,Wg,Qw,Wy,Xh]
           omega
         refine⟨_,_,_,hr.move (rowAt_eq hrow) hx1 (x':=⟨x1.b,x1.o+o,x1.c-m,J.n⟩) rfl hss hoth rfl rfl rfl (fun a2 c2 ha=>by rw[hset]at ha;injection ha with ha;cases ha) hor,Tr.move hr (rowAt_eq hrow) hx1 rfl hss hoth hfl hnx,Qbh (Rho.add_same _ _ _) (Wc (⟨rfl,(Y0 _).symm,by show 0+(len+k)<=x1.c-m;omega⟩:J.n=(Pl.mk x1.b (x1.o+o) (x1.c-m) J.n).s/\0=0*(Pl.mk x1.b (x1.o+o) (x1.c-m) J.n).s/\0+(len+k)<=(Pl.mk x1.b (x1.o+o) (x1.c-m) J.n).c)),?_⟩
         rw[show capN x1 (Cap.u m zz)=x1.c-m from rfl,hrun]
         simp[capN]
       ·cases h4
    ·cases h2
   ·obtain⟨hnil,h3⟩:=Qaa h2
    injection h3 with h3
    subst h3
    rw[V.nilS_eq hnil]at hx
    rw[cv_k hx]
    have f1':k*J.b<=140737488355328:=by
     have:(0+k)*J.b<=140737488355328:=by simpa[‹x.sl?=none›] using f1
     simpa using this
    have hg:=grownCap_ge w k 0 el
    obtain⟨g1,g2⟩:=o_bF (fl:=fl) (m:=k) (cap:=grownCap w k 0 el) hC hr hJ hys hnl hg hzn hnx
    refine⟨_,_,_,g1,g2,Qbh (Rho.add_same _ _ _) (Wc (⟨rfl,(Y0 _).symm,by show 0+k<=grownCap w k 0 el;omega⟩:J.n=(Pl.mk w.heap.size 0 (grownCap w k 0 el) J.n).s/\0=0*(Pl.mk w.heap.size 0 (grownCap w k 0 el) J.n).s/\0+k<=(Pl.mk w.heap.size 0 (grownCap w k 0 el) J.n).c)),?_⟩
    have h63:k<=140737488355328:=Wd (Yk _ f2) f1'
    have:=run_append_nil (P:=P) w t ty el i0 z ht hi hz ad k cy news (by rw[hn];exact hnl) hnews hk (by omega) (by rw[hby];omega)
    rw[this]
    simp[capN]
end
section
variable {P:Program}{C:Cx}{w0:World}{ρ:Rho}{h:T O}{nx fl:Nat}{w w':World}{e:Env}{n:Nat}{a:Act}{s s':S}
theorem HR.stamp (hr:HR P w0 ρ h nx w)(x:Pl):HR P w0 (ρ.add nx x) h (nx+1) w:=by
 have hl:Le ρ (ρ.add nx x):=Rho.le_add (hr.top nx (Qo _))
 refine⟨fun i o hi=>?_,fun i j o p y z hi hj hy hz e1=>?_,fun i hi=>?_,hr.base,hr.size,hr.os,hr.tape,hr.output⟩
 ·obtain⟨h1,y,h2,h3,h4,h5⟩:=hr.live i o hi
  exact⟨by omega,y,hl _ _ h2,h3,h4,OR.keep hl (Qo _) rfl (fun b _=>Ben.of_eq rfl) h5⟩
 ·have h1:=(hr.live i o hi).1
  have h2:=(hr.live j p hj).1
  rw[Rho.add_other (by omega)]at hy hz
  exact hr.inj i j o p y z hi hj hy hz e1
 ·rw[Rho.add_other (by omega)];exact hr.top i (by omega)
theorem Tr.stamp (hr:HR P w0 ρ h nx w)(x:Pl)(fl:Nat):Tr ρ h nx w (ρ.add nx x) h (nx+1) w fl:=
 ⟨Rho.le_add (hr.top nx (Qo _)),by omega,Qo _,fun _ _ _=>rfl,fun i o y hi hy _=>⟨i,o,y,hi,by
  have h1:=(hr.live i o hi).1
  rwa[Rho.add_other (by omega)]at hy,rfl⟩,fun _ _=>rfl,fun _ _ _ _ _ _=>rfl,fun j hj h1=>by rw[Rho.add_other (by omega)];exact h1⟩
theorem o_df (hC:OKC P C)(hr:HR P w0 ρ s.h s.nx w)(hf:Fe ρ s.env n a){t:TypeId}{m k:Operand}{v:V}(hl:eEnt C s t m k=some (v,s')):Do P w0 ρ s a w (.mapEntry t m k) v s':=by
 unfold eEnt at hl
 split at hl
 ·rename_i i hi
  split at hl
  ·rename_i kv hkv
   split at hl
   ·rename_i kt J hJ
    split at hl
    ·rename_i es c hm
     obtain⟨x1,hx1,hm1⟩:=o_bs hf hi
     obtain⟨uk,h1,h2⟩:=o_a hf hkv
     obtain⟨vt,hu,hT⟩:=o_af hC hJ
     obtain⟨hfl,p,hg⟩:=o_cf hm
     obtain⟨_,x',hx',_,hlt,ks,arr,hks,harr,hperm,hnod,hborn,_⟩:=hr.live i _ hg
     rw[hx1]at hx'
     injection hx' with e1
     subst e1
     have hget:=run_getObj' (P:=P) harr (fun _ _ _ h=>by cases h)
     have hset: ∀o',(setObj x1.b o').run P w=.ok () (w.putObj x1.b o'):=fun o'=>run_setObj' harr (fun _ _ _ h=>by cases h)
     unfold entM at hl
     split at hl
     ·rename_i p0 x0 v0 hlk
      obtain⟨hb,h3⟩:=Qaa hl
      rw[Qe]at hb
      unfold entP at h3
      simp only[Qc,Qr]at h3
      obtain⟨rfl,rfl⟩:=h3
      obtain⟨hlk2,hck,d,hd⟩:=o_aH hC h1 hlk
      obtain⟨A,e0,B,a1,b1,ka,kb,hat,rfl,rfl,rfl,hxk,hval,hka,hkb,hp2⟩:=find_some hC h1 hlk2 hks hperm
      have:=Qdt _ _ hb.1
      subst this
      rw[h1]at hxk
      injection hxk with hxk
      subst hxk
      have hr1:=hr.stamp ⟨e0.born,0,0,0⟩
      have hle:Le ρ (ρ.add s.nx ⟨e0.born,0,0,0⟩):=Rho.le_add (hr.top s.nx (Qo _))
      have hmod:=Qcy hat.eq (fun e=>{e with key:=e0.key})
      obtain⟨g1,g2⟩:=hr1.putMap (fl:=s.fl) (es':=a1++(kv,v0)::b1) (p':=some (s.nx,a1.length)) (c':=c) (arr':=arr.modify A.length fun e=>{e with key:=e0.key}) (ks':=ka++(e0.key,e0.val)::kb) hg (hle _ _ hx1) harr hlt
       (Qcp hle hks) (by rw[hmod];exact Qga hp2 rfl) (by rw[hmod];rw[hat.eq]at hnod;simpa using hnod)
       (fun e he=>hborn e (by rw[hmod]at he;rw[hat.eq];exact he))
       (fun j q hq=>by
        simp only[Qc,Qr]at hq
        obtain⟨rfl,rfl⟩:=hq
        exact⟨_,A,e0,B,ka,kb,Rho.add_same _ _ _,hmod,rfl,rfl,(Qer hka),hp2⟩) (Qo _)
       (fun _ e' he'=>⟨e',by rw[hmod]at he';rw[hat.eq];exact he',rfl,rfl⟩) hfl
      refine⟨_,_,.tuple #[e0.val,.int .i64 (e0.born:Int)],.value _,rfl,g1,(Tr.stamp hr _ s.fl).trans g2,?_,.inl rfl,fun _ _ _ _ _=>?_⟩
      ·refine cv_t_mk (Qad (Qam hle _ _ hval) (Qad ?_ (by unfold cvl;rfl)))
       unfold cv
       rw[Rho.add_same]
      ·have hfind:=find_at hd hat.yes hat.noA (B:=B) w
       rw[<-hat.eq]at hfind
       have hkey:=keyStays (P:=P) (Qco hb.2 h1) w
       simp only[execOp,hm1,h2,Instr.mapEntry,Sem.run_bind,run_underlying hu,Result.andThen_ok,hget,hck,hfind,arr_get hat.eq,Q7,Y2,hkey,hset,Sem.run_pure,goInt]
     ·rename_i hlk
      unfold entP at hl
      simp only[Qc,Qr]at hl
      obtain⟨rfl,rfl⟩:=hl
      obtain⟨hlk2,hck,d,hd⟩:=o_aH hC h1 hlk
      have hno:=Qeg hC h1 hlk2 hks hperm
      obtain⟨z,hz,_,hzv,_⟩:=o_aF (ρ:=ρ) hC hT
      have hr1:=hr.stamp ⟨c,0,0,0⟩
      have hle:Le ρ (ρ.add s.nx ⟨c,0,0,0⟩):=Rho.le_add (hr.top s.nx (Qo _))
      have hpush:(arr.push {key:=uk,val:=z,born:=c:MapEntry}).toList=arr.toList++{key:=uk,val:=z,born:=c}::[]:=by simp
      obtain⟨g1,g2⟩:=hr1.putMap (fl:=s.fl) (es':=es++[(kv,zeroV J)]) (p':=some (s.nx,es.length)) (c':=c+1) (arr':=arr.push {key:=uk,val:=z,born:=c}) (ks':=ks++[(uk,z)]) hg (hle _ _ hx1) harr hlt
       (Qej (Qcp hle hks) (Qdf (Qam hle _ _ h1) (Qam hle _ _ hzv) (by unfold cvp;rfl))) (by rw[Yh,W5];exact hperm.append_right _)
       (by
        rw[Yh,W5,Wz]
        refine⟨hnod,by simp,fun b hb q hq=>?_⟩
        obtain⟨e,he,rfl⟩:=Wx.1 hb
        have:=hborn e he
        simp at hq
        omega)
       (fun e he=>by
        rw[Yh]at he
        rcases Q0.1 he with he|he
        ·have:=hborn e he;omega
        ·simp at he;subst he;simp)
       (fun j q hq=>by
        simp only[Qc,Qr]at hq
        obtain⟨rfl,rfl⟩:=hq
        exact⟨_,arr.toList,_,[],ks,[],Rho.add_same _ _ _,hpush,rfl,rfl,Qer hks,by simpa using hperm⟩) (by omega) (fun hc=>by omega) hfl
      refine⟨_,_,.tuple #[z,.int .i64 (c:Int)],.value _,rfl,g1,(Tr.stamp hr _ s.fl).trans g2,?_,.inl rfl,fun _ _ _ _ _=>?_⟩
      ·refine cv_t_mk (Qad (Qam hle _ _ hzv) (Qad ?_ (by unfold cvl;rfl)))
       unfold cv
       rw[Rho.add_same]
      ·have hfind:=Qhx hd hno w
       simp only[execOp,hm1,h2,Instr.mapEntry,Sem.run_bind,run_underlying hu,Result.andThen_ok,hget,hck,hfind,hz w,hset,Sem.run_pure,goInt]
     ·cases hl
    ·cases hl
   ·cases hl
  ·cases hl
 ·cases hl
theorem o_dg (hr:HR P w0 ρ s.h s.nx w)(hf:Fe ρ s.env n a){t:TypeId}{m k x:Operand}{v:V}(hl:eEst s m k x=some (v,s')):Do P w0 ρ s a w (.entryStore t m k x) v s':=by
 unfold eEst at hl
 split at hl
 ·rename_i i hi
  split at hl
  ·rename_i wv hwv
   split at hl
   ·rename_i j hj
    split at hl
    ·rename_i xv hxv
     split at hl
     ·rename_i es c j' p hp
      obtain⟨hjj,h3⟩:=Qaa hl
      have hjj:=Ql hjj
      subst hjj
      simp only[Qc,Qr]at h3
      obtain⟨rfl,rfl⟩:=h3
      obtain⟨x1,hx1,hm1⟩:=o_bs hf hi
      obtain⟨uw,h1,h2⟩:=o_a hf hwv
      obtain⟨ux,h4,h5⟩:=o_a hf hxv
      have hwj:wv=.w j:=by
       unfold V.w? at hj
       cases wv<;>first|(injection hj with hj;subst hj;rfl)|cases hj
      rw[hwj]at h1
      obtain⟨y,hy,rfl⟩:=cv_w h1
      unfold Qgz at hp
      obtain⟨hfl,hp2⟩:=Qao hp
      have hfl:=Qas hfl
      split at hp2
      ·rename_i es' c' j2 p2 hg
       simp only[Qc,Qr]at hp2
       obtain⟨rfl,rfl,rfl,rfl⟩:=hp2
       obtain⟨_,x',hx',_,hlt,ks,arr,hks,harr,hperm,hnod,hborn,hpend⟩:=hr.live i _ hg
       rw[hx1]at hx'
       injection hx' with e1
       subst e1
       obtain⟨y',A,ent,B,ka,kb,hy',harrL,hbe,rfl,hlen,hpp⟩:=hpend _ _ rfl
       rw[hy]at hy'
       injection hy' with e1
       subst e1
       have hget:=run_getObj' (P:=P) harr (fun _ _ _ h=>by cases h)
       have hset: ∀o',(setObj x1.b o').run P w=.ok () (w.putObj x1.b o'):=fun o'=>run_setObj' harr (fun _ _ _ h=>by cases h)
       have hmod:=Qcy harrL (fun e=>{e with val:=ux})
       have hes: ∃a1 kk vv b1,es'=a1++(kk,vv)::b1/\a1.length=p2/\cvp ρ a1=some ka/\cv ρ kk=some ent.key/\cvp ρ b1=some kb:=by
        clear hg hp hl hperm hpend hpp
        induction ka generalizing es' p2 with
        |nil=>
         cases es' with
         |nil=>have:=Qce hks;cases this
         |cons q r=>
          obtain⟨kk,vv⟩:=q
          obtain⟨b1,b2,m1,e1,g1,g2,g3⟩:=Qaw hks
          simp only[Yp,X8,Qr]at e1
          obtain⟨⟨rfl,rfl⟩,rfl⟩:=e1
          exact⟨[],kk,vv,r,rfl,hlen,by unfold cvp;rfl,g1,g3⟩
        |cons q ka ih=>
         cases es' with
         |nil=>have:=Qce hks;cases this
         |cons q2 r=>
          obtain⟨kk,vv⟩:=q2
          obtain⟨b1,b2,m1,e1,g1,g2,g3⟩:=Qaw hks
          simp only[Xq,X8]at e1
          obtain⟨rfl,rfl⟩:=e1
          have hih: ∃a1 kk vv b1,r=a1++(kk,vv)::b1/\a1.length=ka.length/\cvp ρ a1=some ka/\cv ρ kk=some ent.key/\cvp ρ b1=some kb:=by first|exact ih r g3 _ rfl|exact ih r _ g3 rfl|exact ih _ r g3 rfl|exact ih r _ rfl g3|exact ih r ka.length g3 rfl
          obtain⟨a2,k2,v2,c2,rfl,hl2,f1,f2,f3⟩:=hih
          exact⟨(kk,vv)::a2,k2,v2,c2,rfl,by simp only[Qu]at hlen ⊢;omega,Qdf g1 g2 f1,f2,f3⟩
       obtain⟨a1,kk,vv,b1,rfl,hal,f1,f2,f3⟩:=hes
       subst hal
       obtain⟨g1,g2⟩:=hr.putMap (fl:=s.fl) (es':=Qhy xv (a1++(kk,vv)::b1) a1.length) (p':=none) (c':=c') (arr':=arr.modify A.length fun e=>{e with val:=ux}) (ks':=ka++(ent.key,ux)::kb) hg hx1 harr hlt
        (by rw[Qgh];exact Qej f1 (Qdf f2 h4 f3)) (by rw[hmod];exact Qga hpp rfl) (by rw[hmod];rw[harrL]at hnod;simpa using hnod)
        (fun e he=>by
         rw[hmod]at he
         rcases Q0.1 he with he|he
         ·exact hborn e (by rw[harrL];exact Wn _ he)
         ·rcases Qk.1 he with rfl|he
          ·exact hborn ent (by rw[harrL];exact Qy _ (Qg ..))
          ·exact hborn e (by rw[harrL];exact Qy _ (Qf _ he)))
        (fun j q hq=>by cases hq) (Qo _)
        (fun _ e' he'=>by
         rw[hmod]at he'
         rw[harrL]
         rcases Q0.1 he' with he|he
         ·exact⟨e',Wn _ he,rfl,rfl⟩
         ·rcases Qk.1 he with rfl|he
          ·exact⟨ent,Qy _ (Qg ..),rfl,rfl⟩
          ·exact⟨e',Qy _ (Qf _ he),rfl,rfl⟩) hfl
       refine⟨ρ,_,undef,.skip,rfl,g1,g2,Qfc,.inr ⟨rfl,rfl⟩,fun _ _ _ _ _=>?_⟩
       have hidx:arr.findIdx? (fun e=>(e.born:Int)==(y.b:Int))=some A.length:=by
        have harr2:arr=(A++ent::B).toArray:=by rw[<-harrL]
        rw[harr2,List.findIdx?_toArray]
        rw[harrL]at hnod
        rw[List.findIdx?_append]
        have hA:A.findIdx? (fun e=>(e.born:Int)==(y.b:Int))=none:=by
         rw[List.findIdx?_eq_none_iff]
         intro q hq;rw[W5,Qz,Wz]at hnod
         have:=hnod.2.2 q.born (Wx.2 ⟨q,hq,rfl⟩) ent.born (Qg ..)
         rw[hbe]at this
         simp only[beq_eq_false_iff_ne,ne_eq]
         omega
        rw[hA]
        simp[List.findIdx?_cons,hbe]
       simp only[execOp,hm1,h2,h5,Instr.entryStore,Sem.run_bind,hget,Result.andThen_ok,asInt,asIntOf,Sem.run_pure,hidx,hset]
      ·cases hp2
     ·cases hl
    ·cases hl
   ·cases hl
  ·cases hl
 ·cases hl
theorem o_cK (hr:HR P w0 ρ s.h s.nx w)(hf:Fe ρ s.env n a){x:Operand}{b:Bool}{v:V}(hl:eNext s x b=some (v,s')):Do P w0 ρ s a w (.next x b) v s':=by
 unfold eNext at hl
 split at hl
 ·rename_i p hp
  split at hl
  ·rename_i i hi
   split at hl
   ·rename_i o ho
    obtain⟨u,h1,h2⟩:=o_a hf hp
    rw[V.it?_eq hi]at h1
    obtain⟨x1,hx1,rfl⟩:=cv_q h1
    obtain⟨_,x',hx',_,hlt,hor⟩:=hr.live i _ ho
    rw[hx1]at hx'
    injection hx' with e1
    subst e1
    cases b with
    |true=>
     rw[cond_true]at hl
     unfold nxStr at hl
     split at hl
     ·rename_i bs pos
      have hob:w.heap[x1.b]?=some (.stringIter bs pos):=hor
      have hget:=run_getObj' (P:=P) hob (fun _ _ _ h=>by cases h)
      cases hb:Nat.blt pos bs.size with
      |true=>
       rw[hb,cond_true]at hl
       obtain⟨hfl,h3⟩:=Qao hl
       have hfl:=Qas hfl
       simp only[Qc,Qr]at h3
       obtain⟨rfl,rfl⟩:=h3
       have hpos:pos<bs.size:=Qi hb
       have hsame:(w.putObj x1.b (.stringIter bs (pos+(Utf8.decode bs pos).2))).heap[x1.b]?=some (.stringIter bs (pos+(Utf8.decode bs pos).2)):=World.putObj_heap_same hlt
       have hoth: ∀k,k≠x1.b->(w.putObj x1.b (.stringIter bs (pos+(Utf8.decode bs pos).2))).heap[k]?=w.heap[k]?:=fun k hk=>World.putObj_heap_other hk
       have hss:(w.putObj x1.b (.stringIter bs (pos+(Utf8.decode bs pos).2))).heap.size=w.heap.size:=by simp
       refine⟨ρ,_,_,.value _,rfl,hr.upd (o':=.st bs (pos+(Utf8.decode bs pos).2)) ho hx1 hss hoth rfl rfl rfl (fun a2 c2 ha=>by rw[hsame]at ha;cases ha) hsame,Tr.upd hr ho hx1 hss hoth hfl,
        cv_t_mk (Qad (Qba true) (Qad (cv_nt pos) (Qad (Qif .i32 (Utf8.decode bs pos).1) (by unfold cvl;rfl)))),.inl rfl,fun _ _ _ _ _=>?_⟩
       have hset:=run_setObj' (P:=P) (o':=.stringIter bs (pos+(Utf8.decode bs pos).2)) hob (fun _ _ _ h=>by cases h)
       simp only[execOp,h2,Instr.next,Sem.run_bind,hget,Result.andThen_ok,hpos,X6,hset,Sem.run_pure,goInt]
      |false=>
       rw[hb,cond_false]at hl
       simp only[Qc,Qr]at hl
       obtain⟨rfl,rfl⟩:=hl
       have hpos: ¬pos<bs.size:=fun h3=>by rw[show Nat.blt pos bs.size=true from Yr h3]at hb;cases hb
       refine⟨ρ,w,_,.value _,rfl,hr,Tr.refl _ _ _ _ _,cv_t_mk (Qad (Qba false) (by unfold cvl;rfl)),.inl rfl,fun _ _ _ _ _=>?_⟩
       simp only[execOp,h2,Instr.next,Sem.run_bind,hget,Result.andThen_ok,hpos,Wu,Sem.run_pure]
     ·cases hl
    |false=>
     rw[cond_false]at hl
     unfold nxQ at hl
     split at hl
     ·simp only[Qc,Qr]at hl
      obtain⟨rfl,rfl⟩:=hl
      obtain⟨q1,q2,q3,hob⟩:=hor
      have hget:=run_getObj' (P:=P) hob (fun _ _ _ h=>by cases h)
      refine⟨ρ,w,_,.value _,rfl,hr,Tr.refl _ _ _ _ _,cv_t_mk (Qad (Qba false) (by unfold cvl;rfl)),.inl rfl,fun _ _ _ _ _=>?_⟩
      simp only[execOp,h2,Instr.next,Sem.run_bind,hget,Result.andThen_ok,Sem.run_pure]
     ·cases hl
   ·cases hl
  ·cases hl
 ·cases hl
theorem o_dh (hC:OKC P C)(hr:HR P w0 ρ s.h s.nx w)(hf:Fe ρ s.env n a)(hnx:s.fl<=s.nx){xs:Array Operand}{ts:Array TypeId}{v:V}(hl:eBi C s xs.toList ts.toList .append=some (v,s')):Do P w0 ρ s a w (.call {callee:=.builtin .append,args:=xs,argTypes:=ts}) v s':=by
 have hl:(ty2 ts.toList fun t=>arg2 (opds s.env xs.toList) fun x y=>eApp C s t x y)=some (v,s'):=hl
 unfold ty2 at hl
 split at hl
 ·rename_i t u hts
  obtain⟨htu,h1⟩:=Qaa hl
  have htu:=Ql htu
  subst htu
  obtain⟨x,y,hxy,h2⟩:=o_br h1
  obtain⟨us,h3,h4⟩:=o_aq hf hxy
  obtain⟨ux,uy,rfl,h5,h6⟩:=cvl2 h3
  have hta:ts=#[t,t]:=by rw[<-Q4 (xs:=ts),hts]
  subst hta
  unfold eApp at h2
  split at h2
  ·rename_i el hel
   split at h2
   ·rename_i J hJ
    unfold back at h2
    split at h2
    ·rename_i r1 r2 r3 hap
     simp only[Qc,Qr]at h2
     obtain⟨rfl,rfl⟩:=h2
     obtain⟨ρ',w',u,g1,g2,g3,g4⟩:=o_cj (ty:=0) hC hr hnx (o_aa hC hel) hJ h5 h6 hap
     refine⟨ρ',w',u,.value u,rfl,g1,g2,g3,.inl rfl,fun _ T _ _ _=>?_⟩
     have g5:(Builtin.append_ #[t,t] T #[ux,uy]).run P w=.ok u w':=g4
     simp only[execOp,resolve,h4,Sem.run_bind,Sem.run_pure,Result.andThen_ok,invoke,builtin,g5]
    ·cases h2
   ·cases h2
  ·cases h2
 ·cases hl
theorem rep_zero {z:List V}{zv:Array Value}(hz:cvc ρ z=some zv.toList)(m:Nat):cvc ρ (rep z m)=some (Builtin.zeroCells zv m).toList:=by
 rw[rep_ok m hz]
 unfold Builtin.zeroCells
 rw[Array.toList_map,Array.toList_range,Xh]
 congr 1
 apply Y8
 intro i _
 simp[getElem!_def]
theorem o_di (hC:OKC P C)(hr:HR P w0 ρ s.h s.nx w)(hf:Fe ρ s.env n a){xs:Array Operand}{ts:Array TypeId}{v:V}(hl:eBi C s xs.toList ts.toList .clear=some (v,s')):Do P w0 ρ s a w (.call {callee:=.builtin .clear,args:=xs,argTypes:=ts}) v s':=by
 have hl:(ty1 ts.toList fun t=>arg1 (opds s.env xs.toList) fun x=>eClr C s t x)=some (v,s'):=hl
 unfold ty1 at hl
 split at hl
 ·rename_i t r hts
  obtain⟨x,hx,h2⟩:=o_bq hl
  obtain⟨us,h3,h4⟩:=o_aq hf hx
  obtain⟨u,rfl,h5⟩:=cvl1 h3
  have ht0:ts[0]?=some t:=by rw[<-Wh,hts];rfl
  have run: ∀w',(Builtin.clear_ ts 0 #[u]).run P w=.ok undef w'->∀(dst:Option Tmp) (T:TypeId) (pos:String) (af:Array Edge) (gd:Option (Nat×Bool)),(execOp a.eval ⟨dst,.call {callee:=.builtin .clear,args:=xs,argTypes:=ts},T,pos,af,gd⟩).run P w=.ok (.value undef) w':=fun w' hw _ T _ _ _=>by
   have hw':(Builtin.clear_ ts T #[u]).run P w=.ok undef w':=hw
   simp only[execOp,resolve,h4,Sem.run_bind,Sem.run_pure,Result.andThen_ok,invoke,builtin,hw']
  unfold eClr at h2
  split at h2
  ·rename_i J hJ
   obtain⟨el,hul,_,hJel⟩:=o_ao hC hJ
   split at h2
   ·rename_i i o n c hsl
    rw[V.sl?_eq hsl]at h5
    obtain⟨pl,hpl,hok,rfl⟩:=cv_s h5
    cases hb:Nat.beq n 0 with
    |true=>
     rw[hb,cond_true]at h2
     simp only[Qc,Qr]at h2
     obtain⟨rfl,rfl⟩:=h2
     have h0:=Ql hb
     subst h0
     exact⟨ρ,w,undef,.value undef,rfl,hr,Tr.refl _ _ _ _ _,Qfc,.inl rfl,run w (by simp[Builtin.clear_,ht0,run_underlying hul];rfl)⟩
    |false=>
     rw[hb,cond_false]at h2
     unfold storeAt at h2
     obtain⟨hfl,h2⟩:=Qao h2
     split at h2
     ·rename_i T rs hrow
      split at h2
      ·rename_i ys hys
       simp only[Qc,Qr]at h2
       obtain⟨rfl,rfl⟩:=h2
       obtain⟨z,hz,hzc,_,hzn⟩:=o_aF (ρ:=ρ) hC hJel
       have hrep:=rep_zero hzc n
       obtain⟨x2,arr,w',k1,k2,k3,k4,k5,k6⟩:=hr.write (rowAt_eq hrow) (Qas hfl) hys hrep
       rw[hpl]at k1
       injection k1 with k1
       subst k1
       refine⟨ρ,w',undef,.value undef,rfl,k5,k6,Qfc,.inl rfl,run w' ?_⟩
       have hst:=run_storeCells_at P pl.b (pl.o+o) T (Builtin.zeroCells z.cells n).toList 0 arr w k2 (by omega) (cvc_one hrep)
       rw[Yo]at hst
       rw[k4]
       obtain⟨m,rfl⟩: ∃m,n=m+1:=⟨n-1,by have:=Nat.ne_of_beq_eq_false hb;omega⟩
       simp[Builtin.clear_,ht0,run_underlying hul,hz,hst]
       rfl
      ·cases h2
     ·cases h2
   ·obtain⟨hb,h1⟩:=Qaa h2
    simp only[Qc,Qr]at h1
    obtain⟨rfl,rfl⟩:=h1
    rw[V.nilS_eq hb]at h5
    have h6:=cv_k h5
    subst h6
    exact⟨ρ,w,undef,.value undef,rfl,hr,Tr.refl _ _ _ _ _,Qfc,.inl rfl,run w (by simp[Builtin.clear_,ht0,run_underlying hul];rfl)⟩
  ·cases h2
 ·cases hl
end
def exOf:X->Exit
 | .n=>.normal
 | .r=>.ret
 | .e i=>.exit i
def dcv (ρ:Rho)(x:Option (V×List V)×Nat)(d:Deferred):Prop:=match x with
 |(none,i)=>∃y,ρ i=some y/\d=mkD y.b
 |(some (f,args),_)=>∃fid first cap a us c,f=.f fid first cap/\cvl ρ first=some a/\cvl ρ args=some us/\cvl ρ cap=some c/\d={target:=.fn (.func fid) c.toArray,args:=(a++us).toArray}
def dcl (ρ:Rho):List (Option (V×List V)×Nat)->List Deferred->Prop
 | [],[]=>True
 |x::r,d::ds=>dcv ρ x d/\dcl ρ r ds
 |_,_=>False
theorem dcv_mono {ρ ρ':Rho}(hl:Le ρ ρ'){x:Option (V×List V)×Nat}{d:Deferred}(h:dcv ρ x d):dcv ρ' x d:=by
 obtain⟨_|⟨f,args⟩,i⟩:=x
 ·obtain⟨y,h1,h2⟩:=h;exact⟨y,hl _ _ h1,h2⟩
 ·obtain⟨fid,first,cap,a,us,c,h1,h2,h3,h4,h5⟩:=h
  exact⟨fid,first,cap,a,us,c,h1,Qbl hl _ _ h2,Qbl hl _ _ h3,Qbl hl _ _ h4,h5⟩
theorem Qbm {ρ ρ':Rho}(hl:Le ρ ρ'): ∀{x:List (Option (V×List V)×Nat)} {ds:List Deferred},dcl ρ x ds->dcl ρ' x ds
 | [],[],_=>trivial
 | [],_::_,h=>h.elim
 |_::_,[],h=>h.elim
 |_::_,_::_,h=>⟨dcv_mono hl h.1,Qbm hl h.2⟩
structure St (P:Program) (w0:World) (ρ:Rho) (n:Nat) (s:S) (a:Act) (w:World):Prop where
 fe:Fe ρ s.env n a
 ds:dcl ρ s.ds a.defers
 hr:HR P w0 ρ s.h s.nx w
 fl:s.fl<=s.nx
def To (P:Program)(w0:World)(ρ:Rho)(n:Nat)(s:S)(w:World)(s':S)(a':Act)(w':World):Prop:=
 ∃ρ',St P w0 ρ' n s' a' w'/\Tr ρ s.h s.nx w ρ' s'.h s'.nx w' s.fl/\s'.rd=s.rd/\s'.fl=s.fl
def En (P:Program)(w0:World)(ρ:Rho)(h:T O)(nx fl:Nat)(w:World)(v:V)(h':T O)(nx':Nat):Ending->World->Prop:=
 fun e w'=>∃u ρ',e=.returned u/\cv ρ' v=some u/\HR P w0 ρ' h' nx' w'/\Tr ρ h nx w ρ' h' nx' w' fl
def CF (P:Program)(fid:FuncId):Prop:=∀args w,(callFunc fid args).run P w=.ok (.enter fid args) w
def Cl (P:Program)(w0:World)(ρ:Rho)(h:T O)(nx fl:Nat)(w:World)(us:List Value)(v:V)(h':T O)(nx':Nat):V->Prop
 | .f fid first cap=>∃a c,cvl ρ first=some a/\cvl ρ cap=some c/\CF P fid/\Calls P fid (a++us++c).toArray w (En P w0 ρ h nx fl w v h' nx')
 | .y i=>∃x,ρ i=some x/\YieldAt (FW none) 0 P x.b us.toArray w (En P w0 ρ h nx fl w v h' nx')
 |_=>False
def Dl (P:Program)(w0:World)(ρ:Rho)(h:T O)(nx fl:Nat)(w:World)(us:List Value)(v:V)(h':T O)(nx':Nat):V->Prop
 | .f fid first cap=>∃a c,cvl ρ first=some a/\cvl ρ cap=some c/\CF P fid/\CallsDIn (FW none) 0 P fid (a++us++c).toArray .returning w (fun e u2 w'=>u2=.returning/\En P w0 ρ h nx fl w v h' nx' e w')
 |_=>False
def LP (r:Option Nat)(P:Program)(c:Code)(Q:Exit->Act->World->Prop)(a:Act)(w:World):Prop:=∀(b:Frame) (k:List Item) (cs:List Frame),b.roundOf=(FW r).round->(FW r).fn b.fn->(FW r).room (cs.length+1+0)->
 ∃e a' w',Q e a' w'/\ArrivesIn (Machine.fenced P (FW r)) P (lone (b.atR a (.code c:: .inLoop c::k)) cs w) b k cs e a' w'
section
variable {r:Option Nat}{P:Program}{Q Q':Exit->Act->World->Prop}{a:Act}{w:World}{c:Code}
theorem LP.loop (h:LP r P c Q a w):WP r P (.loop c) Q a w:=fun b k cs hro hb hr=>by
 obtain⟨e,a',w',q,harr⟩:=h b k cs hro hb hr
 exact⟨e,a',w',q,.of_steps (.one (fenced_calm hb hr rfl) stepR_loop) harr⟩
theorem LP.step (h:WP r P c (fun e a' w'=>(e=.normal/\LP r P c Q a' w')\/(e≠ .normal/\Q e a' w')) a w):LP r P c Q a w:=fun b k cs hro hb hr=>by
 obtain⟨e,a₁,w₁,hq,harr⟩:=h b (.inLoop c::k) cs hro hb hr
 cases e with
 |normal=>
  have hq:=hq.resolve_right (fun h=>h.1 rfl)
  obtain⟨e₂,a₂,w₂,hq₂,harr₂⟩:=hq.2 b k cs hro hb hr
  exact⟨e₂,a₂,w₂,hq₂,.of_steps (StepsIn.trans harr (.one (fenced_calm hb hr rfl) stepR_inLoop)) harr₂⟩
 |exit id=>exact⟨_,a₁,w₁,(hq.resolve_left (by simp)).2,.pass (x:=.inLoop c) rfl (fun _ _=>.inl (by simp)) harr⟩
 |goto l=>exact⟨_,a₁,w₁,(hq.resolve_left (by simp)).2,.pass (x:=.inLoop c) rfl (fun _ _=>.inl (by simp)) harr⟩
 |ret=>exact⟨_,a₁,w₁,(hq.resolve_left (by simp)).2,.pass (x:=.inLoop c) rfl (fun _ _=>.inl (by simp)) harr⟩
 |panic ch=>exact⟨_,a₁,w₁,(hq.resolve_left (by simp)).2,.pass (x:=.inLoop c) rfl (fun _ _=>.inl (by simp)) harr⟩
 |outgrown=>exact⟨_,a₁,w₁,(hq.resolve_left (by simp)).2,.pass (x:=.inLoop c) rfl (fun _ _=>.inl (by simp)) harr⟩
theorem LP.mono (h:LP r P c Q a w)(hq: ∀e a w,Q e a w->Q' e a w):LP r P c Q' a w:=fun b k cs hro hb hr=>
 let ⟨e,a',w',q,x⟩:=h b k cs hro hb hr;⟨e,a',w',hq _ _ _ q,x⟩
theorem Qar {b:Frame}{k:List Item}{cs:List Frame}:step P (lone (b.atR a (.code (.scope c)::k)) cs w)=.next (lone (b.atR a (.code c:: .inScope c::k)) cs w):=
 step_lone_go (by simp[stepG,stepG.exec,Frame.atR])
theorem Qgd {b:Frame}{k:List Item}{cs:List Frame}:step P (lone (b.atR a (.inScope c::k)) cs w)=.next (lone (b.atR a k) cs w):=
 step_lone_go (by simp[stepG,stepG.exec,Frame.atR])
theorem scopeR (h:WP r P c Q a w)(hQ: ∀l a w,¬Q (.goto l) a w):WP r P (.scope c) Q a w:=by
 intro b k cs hro hb hr
 have h0:(lone (b.atR a (.code (.scope c)::k)) cs w).fenced P (FW r):=fenced_calm hb hr rfl
 obtain⟨e,a₁,w₁,hq,harr⟩:=h b (.inScope c::k) cs hro hb hr
 cases e with
 |normal=>exact⟨.normal,a₁,w₁,hq,.head h0 Qar (StepsIn.trans harr (.one (fenced_calm hb hr rfl) Qgd))⟩
 |exit id=>
  have hx:exitTo id (.inScope c::k)=exitTo id k:=by simp[exitTo]
  exact⟨.exit id,a₁,w₁,hq,fun k' hk=>.head h0 Qar (harr.1 k' (by rw[hx];exact hk)),
   fun hr' hk=>let ⟨k₁,h1,h2⟩:=harr.2 hr' (by rw[hx];exact hk);⟨k₁,h1,.head h0 Qar h2⟩⟩
 |goto l=>exact(hQ _ _ _ hq).elim
 |ret=>exact⟨_,a₁,w₁,hq,.of_steps (.one h0 Qar) harr⟩
 |panic ch=>exact⟨_,a₁,w₁,hq,.of_steps (.one h0 Qar) harr⟩
 |outgrown=>exact⟨_,a₁,w₁,hq,.of_steps (.one h0 Qar) harr⟩
end
structure Sd (P:Program) (C:Cx) (ih:Job->Option Rs):Prop where
 code: ∀{c:Code} {s s':S} {x:X},ih (.code c s)=some (.code x s')->∀{w0:World} {ρ:Rho} {n:Nat} {a:Act} {w:World} {r:Option Nat},okD n c=true->r.isSome=s.rd->St P w0 ρ n s a w->
  WP r P c (fun e a' w'=>e=exOf x/\To P w0 ρ n s w s' a' w') a w
 loop: ∀{c:Code} {s s':S} {x:X},ih (.code (.loop c) s)=some (.code x s')->∀{w0:World} {ρ:Rho} {n:Nat} {a:Act} {w:World} {r:Option Nat},okD n c=true->r.isSome=s.rd->St P w0 ρ n s a w->
  LP r P c (fun e a' w'=>e=exOf x/\To P w0 ρ n s w s' a' w') a w
 call: ∀{f:V} {args:List V} {h h':T O} {nx nx' fl:Nat} {v:V},ih (.call f args h nx fl)=some (.call v h' nx')->∀{w0:World} {ρ:Rho} {w:World} {u:Value} {us:List Value},HR P w0 ρ h nx w->fl<=nx->cv ρ f=some u->cvl ρ args=some us->
  Cl P w0 ρ h nx fl w us v h' nx' f
 dcall: ∀{f:V} {args:List V} {h h':T O} {nx nx' fl:Nat} {v:V},ih (.dcall f args h nx fl)=some (.call v h' nx')->∀{w0:World} {ρ:Rho} {w:World} {u:Value} {us:List Value},HR P w0 ρ h nx w->fl<=nx->cv ρ f=some u->cvl ρ args=some us->
  Dl P w0 ρ h nx fl w us v h' nx' f
theorem roundFW {r:Option Nat}{P:Program}{l:Nat}{f:FuncId}{t:Array Value}{x y:Code}{w:World}{R:Ending->World->Prop}(h:RoundIn (FW none) 0 P l f t x y w R):RoundIn (FW r) 0 P l f t x y w R:=by
 cases r with
 |none=>exact h
 |some l=>exact h
section
variable {P:Program}{C:Cx}{ih:Job->Option Rs}{w0:World}{ρ:Rho}{n:Nat}{s s':S}{a:Act}{w:World}{r:Option Nat}{v:V}{K:Act->World->Prop}{Q:Exit->Act->World->Prop}
def Go (P:Program)(w0:World)(ρ:Rho)(n:Nat)(s:S)(a:Act)(w:World)(dst:Option Tmp)(v:V)(s':S)(K:Act->World->Prop):Prop:=
 ∀ρ' w' u ds',cv ρ' v=some u->St P w0 ρ' n s' {a with defers:=ds'} w'->Tr ρ s.h s.nx w ρ' s'.h s'.nx w' s.fl->s'.rd=s.rd->s'.fl=s.fl->K (({a with defers:=ds'}:Act).put dst u) w'
theorem Qbi {o:Oper}{x:Next}{w':World}(hr:(execOp a.eval o).run P w=.ok x w')(hx: ∀d,x≠ .defer d)(h:o.uponIn (FW r) 0 P a K Q (.ok x w')):o.wpIn (FW r) 0 P a w K Q:=
 ⟨fun _ _=>trivial,by rw[Qdw hr hx];exact h⟩
theorem Qhq {o:Op}{dst:Option Tmp}{T:TypeId}{pos:String}{af:Array Edge}{gd:Option (Nat×Bool)}(hst:St P w0 ρ n s a w)(hd:Do P w0 ρ s a w o v s')(hK:Go P w0 ρ n s a w dst v s' K):(⟨dst,o,T,pos,af,gd⟩:Oper).wpIn (FW r) 0 P a w K Q:=by
 obtain⟨ρ',w',u,nxt,h1,h2,h3,h4,h5,h6⟩:=hd
 have hk:K (a.put dst u) w':=hK ρ' w' u a.defers h4 (by rw[h1];exact⟨hst.fe.mono h3.le,Qbm h3.le hst.ds,h2,Wd hst.fl h3.nx⟩) h3 (by rw[h1];rfl) (by rw[h1];rfl)
 rcases h5 with rfl|⟨rfl,rfl⟩
 ·exact Qbi (h6 dst T pos af gd) (fun _ h=>by cases h) hk
 ·exact Qbi (h6 dst T pos af gd) (fun _ h=>by cases h) hk
theorem go_pk {o:Op}{dst:Option Tmp}{T:TypeId}{pos:String}{af:Array Edge}{gd:Option (Nat×Bool)}(hst:St P w0 ρ n s a w)(hp:Pk P ρ a w o v)(hK:Go P w0 ρ n s a w dst v s K):(⟨dst,o,T,pos,af,gd⟩:Oper).wpIn (FW r) 0 P a w K Q:=by
 obtain⟨u,h1,h2⟩:=hp
 exact Qbi (h2 dst T pos af gd) (fun _ h=>by cases h) (hK ρ w u a.defers h1 hst (Tr.refl _ _ _ _ _) rfl rfl)
theorem go_mk {o:Op}{ob:O}{dst:Option Tmp}{T:TypeId}{pos:String}{af:Array Edge}{gd:Option (Nat×Bool)}(hst:St P w0 ρ n s a w)(hm:Mk P ρ s.nx a w o v ob)(hK:Go P w0 ρ n s a w dst v (s.new ob) K):(⟨dst,o,T,pos,af,gd⟩:Oper).wpIn (FW r) 0 P a w K Q:=by
 obtain⟨obj,x,u,h1,h2,h3,h4⟩:=hm
 have hl:=Rho.le_add (x:=x) (hst.hr.top s.nx (Qo _))
 exact Qbi (h4 dst T pos af gd) (fun _ h=>by cases h) (hK _ _ u a.defers h3 ⟨hst.fe.mono hl,Qbm hl hst.ds,hst.hr.alloc obj ob x h1 h2,Xn hst.fl⟩ (Tr.alloc hst.hr obj ob x h1 hst.fl) rfl rfl)
theorem o_cL {x:Option Rs}(h:callR s x=some (v,s')): ∃h' nx',x=some (.call v h' nx')/\s'=s.sethn h' nx':=by
 unfold callR at h
 split at h
 ·simp only[Qc,Qr]at h
  obtain⟨rfl,rfl⟩:=h
  exact⟨_,_,rfl,rfl⟩
 ·cases h
theorem En.go {h':T O}{nx':Nat}{dst:Option Tmp}(hst:St P w0 ρ n s a w)(hK:Go P w0 ρ n s a w dst v (s.sethn h' nx') K){e:Ending}{w':World}(he:En P w0 ρ s.h s.nx s.fl w v h' nx' e w'): ∃u,e=.returned u/\K (a.put dst u) w':=by
 obtain⟨u,ρ',rfl,h1,h2,h3⟩:=he
 exact⟨u,rfl,hK ρ' w' u a.defers h1 ⟨hst.fe.mono h3.le,Qbm h3.le hst.ds,h2,Wd hst.fl h3.nx⟩ h3 rfl rfl⟩
theorem go_cv (hi:Sd P C ih){f:Operand}{xs ts:Array _}{dst:Option Tmp}{T:TypeId}{pos:String}{af:Array Edge}{gd:Option (Nat×Bool)}(hst:St P w0 ρ n s a w)(hl:eCv ih s f xs.toList=some (v,s'))(hK:Go P w0 ρ n s a w dst v s' K):
  (⟨dst,.call {callee:=.value f,args:=xs,argTypes:=ts},T,pos,af,gd⟩:Oper).wpIn (FW r) 0 P a w K Q:=by
 unfold eCv at hl
 split at hl
 ·rename_i args hargs
  split at hl
  ·rename_i fv hfv
   obtain⟨us,h1,h2⟩:=o_ap hst.fe hargs
   rw[Q4]at h2
   obtain⟨u,h3,h4⟩:=o_a hst.fe hfv
   obtain⟨h',nx',h5,rfl⟩:=o_cL hl
   have h6:=hi.call h5 hst.hr hst.fl h3 h1
   cases fv with
   |f fid first cap=>
    obtain⟨A,c,g1,g2,g3,g4⟩:=h6
    have h7:u=.func (.func fid) A.toArray c.toArray:=by
     obtain⟨A',c',k1,k2,rfl⟩:=cv_f h3
     rw[g1]at k1;injection k1 with k1;subst k1
     rw[g2]at k2;injection k2 with k2;subst k2;rfl
    rw[h7]at h4
    refine Qbi (x:=.enter fid (A++us++c).toArray) (w':=w) ?_ (fun _ h=>by cases h) ⟨(fun h=>by cases h),(callsFW g4).mono fun e w' he=>?_⟩
    ·simp only[execOp,resolve,h2,h4]
     simp[Deferred.ofValue,invoke,g3 _ _]
    ·obtain⟨u',rfl,hk⟩:=En.go hst hK he
     exact hk
   |y i=>
    obtain⟨x,g1,fn,tmps,assign,body,hy,hR⟩:=h6
    have h7:u=.func (.yield x.b) #[] #[]:=by
     obtain⟨x',k1,rfl⟩:=cv_y h3
     rw[g1]at k1;injection k1 with k1;subst k1;rfl
    rw[h7]at h4
    refine Qbi (x:=.round x.b fn tmps assign body) (w':=w) ?_ (fun _ h=>by cases h) ⟨(fun h=>by cases h),(roundFW hR).mono fun e w' he=>?_⟩
    ·simp only[execOp,resolve,h2,h4]
     simp[Deferred.ofValue,invoke,hy]
    ·obtain⟨u',rfl,hk⟩:=En.go hst hK he
     exact hk
   |k _=>exact h6.elim
   |p _ _=>exact h6.elim
   |s _ _ _ _=>exact h6.elim
   |m _=>exact h6.elim
   |q _=>exact h6.elim
   |w _=>exact h6.elim
   |gl _ _=>exact h6.elim
   |g _=>exact h6.elim
   |t _=>exact h6.elim
   |i _ _=>exact h6.elim
  ·cases hl
 ·cases hl
theorem go_def {c:Call}{dst:Option Tmp}{T:TypeId}{pos:String}{af:Array Edge}{gd:Option (Nat×Bool)}(hst:St P w0 ρ n s a w)(hrd:r.isSome=s.rd)(hl:eDef s c=some (v,s'))(hK:Go P w0 ρ n s a w dst v s' K):
  (⟨dst,.defer c,T,pos,af,gd⟩:Oper).wpIn (FW r) 0 P a w K Q:=by
 obtain⟨ce,xs,ts⟩:=c
 unfold eDef at hl
 split at hl
 ·rename_i f hce
  have hce:ce=.value f:=hce
  subst hce
  split at hl
  ·rename_i args hargs
   split at hl
   ·rename_i fv hfv
    cases hb:s.rd with
    |true=>rw[hb]at hl;cases hl
    |false=>
     rw[hb]at hl hrd
     have hr:r=none:=by cases r<;>first|rfl|cases hrd
     subst hr
     cases fv with
     |f fid first cap=>
      have hl:some (un,(⟨s.env,(some (V.f fid first cap,args),0)::s.ds,s.h,s.nx,false,s.fl⟩:S))=some (v,s'):=hl
      simp only[Qc,Qr]at hl
      obtain⟨rfl,rfl⟩:=hl
      obtain⟨us,h1,h2⟩:=o_ap hst.fe hargs
      have h2:xs.map a.eval=us.toArray:=by rw[Q4]at h2;exact h2
      obtain⟨u,h3,h4⟩:=o_a hst.fe hfv
      obtain⟨A,cc,k1,k2,rfl⟩:=cv_f h3
      refine⟨fun _ _=>trivial,?_⟩
      rw[Oper.semAt_none]
      have hx:(execOp a.eval ⟨dst,.defer {callee:=.value f,args:=xs,argTypes:=ts},T,pos,af,gd⟩).run P w=.ok (.defer {target:=.fn (.func fid) cc.toArray,args:=(A++us).toArray}) w:=by
       simp only[execOp,resolve,h2,h4]
       simp[Deferred.ofValue]
      rw[hx]
      exact hK ρ w undef _ Qfc ⟨⟨hst.fe.size,hst.fe.get⟩,⟨⟨fid,first,cap,A,us,cc,rfl,k1,h1,k2,rfl⟩,hst.ds⟩,hst.hr,hst.fl⟩ (Tr.refl _ _ _ _ _) hb.symm rfl
     |k _=>cases hl
     |p _ _=>cases hl
     |s _ _ _ _=>cases hl
     |m _=>cases hl
     |q _=>cases hl
     |w _=>cases hl
     |gl _ _=>cases hl
     |g _=>cases hl
     |t _=>cases hl
     |i _ _=>cases hl
     |y _=>cases hl
   ·cases hl
  ·cases hl
 ·cases hl
theorem o_cx (hC:OKC P C)(hi:Sd P C ih){o:Op}{dst:Option Tmp}{T:TypeId}{pos:String}{af:Array Edge}{gd:Option (Nat×Bool)}(hst:St P w0 ρ n s a w)(hrd:r.isSome=s.rd)(hl:eff C ih s o=some (v,s'))(hK:Go P w0 ρ n s a w dst v s' K):
  (⟨dst,o,T,pos,af,gd⟩:Oper).wpIn (FW r) 0 P a w K Q:=by
 unfold eff at hl
 split at hl
 ·exact Qhq hst (o_cw hC hst.hr hst.fe hl) hK
 ·exact Qhq hst (o_cg hC hst.hr hst.fe (.inl rfl) hl) hK
 ·exact Qhq hst (o_cg hC hst.hr hst.fe (.inr rfl) hl) hK
 ·exact Qhq hst (o_df hC hst.hr hst.fe hl) hK
 ·exact Qhq hst (o_dg hst.hr hst.fe hl) hK
 ·exact Qhq hst (o_cK hst.hr hst.fe hl) hK
 ·rename_i c
  obtain⟨ce,xs,ts⟩:=c
  unfold eCall at hl
  split at hl
  ·rename_i f hce
   have hce:ce=.value f:=hce
   subst hce
   exact go_cv hi hst hl hK
  ·rename_i b hce
   have hce:ce=.builtin b:=hce
   subst hce
   cases b<;>first|exact Qhq hst (o_dh hC hst.hr hst.fe hst.fl hl) hK|exact Qhq hst (o_di hC hst.hr hst.fe hl) hK|cases hl
  ·cases hl
 ·exact go_def hst hrd hl hK
 ·cases hl
theorem o_dA (hC:OKC P C)(hi:Sd P C ih){o:Oper}{k:Nat}(hst:St P w0 ρ n s a w)(hrd:r.isSome=s.rd)(hl:op1 C ih s o.op k=some (v,s'))(hK:Go P w0 ρ n s a w o.dst v s' K):o.wpIn (FW r) 0 P a w K Q:=by
 obtain⟨dst,o,T,pos,af,gd⟩:=o
 have mk: ∀{s1:S},made s (Qbw C s.env s.h s.nx o)=some (v,s1)->Go P w0 ρ n s a w dst v s1 K->(⟨dst,o,T,pos,af,gd⟩:Oper).wpIn (FW r) 0 P a w K Q:=fun {s1} h1 h2=>by
  unfold made at h1
  split at h1
  ·rename_i v' ob hm
   simp only[Qc,Qr]at h1
   obtain⟨rfl,rfl⟩:=h1
   exact go_mk hst (o_bE hC hst.hr (hst.hr.top _ (Qo _)) hst.fe hm) h2
  ·cases h1
 unfold op1 at hl
 split at hl
 ·exact o_cx hC hi hst hrd hl hK
 ·exact mk hl hK
 ·unfold kept at hl
  split at hl
  ·rename_i u hu
   simp only[Qc,Qr]at hl
   obtain⟨rfl,rfl⟩:=hl
   exact go_pk hst (o_bU hC hst.hr hst.fe hu) hK
  ·exact mk hl hK
theorem bool?_no {x:V}{u:Value}(h:x.bool?=none)(hu:cv ρ x=some u): ∀b,u≠ .bool b:=by
 rintro b rfl
 cases x with
 |k v=>have h1:=cv_k hu;subst h1;cases h
 |p i o=>obtain⟨x,_,h1⟩:=cv_p hu;cases h1
 |s i o n c=>obtain⟨x,_,_,h1⟩:=cv_s hu;cases h1
 |m i=>obtain⟨x,_,h1⟩:=cv_m hu;cases h1
 |f a b c=>obtain⟨x,y,_,_,h1⟩:=cv_f hu;cases h1
 |y i=>obtain⟨x,_,h1⟩:=cv_y hu;cases h1
 |q i=>obtain⟨x,_,h1⟩:=cv_q hu;cases h1
 |w i=>obtain⟨x,_,h1⟩:=cv_w hu;cases h1
 |gl i o=>have h1:=cv_gl hu;cases h1
 |g l=>obtain⟨x,_,h1⟩:=cv_g hu;cases h1
 |t l=>obtain⟨x,_,h1⟩:=cv_t hu;cases h1
 |i t x=>obtain⟨x,_,h1⟩:=cv_i hu;cases h1
theorem o_aS {ops:Array Oper}{e:Env}(hf:Fe ρ e n a){o:Oper}{b:Bool}(h:wantedV ops.toList e o.guard=some b):Region.wanted o (yielded ops a.tmps)=b:=by
 unfold wantedV at h
 unfold Region.wanted
 split at h
 ·rename_i hg;injection h with h;subst h;simp[hg]
 ·rename_i j want hg
  rw[hg]
  show(yielded ops a.tmps j==some want)=b
  unfold yielded
  split at h
  ·rename_i o' ho
   rw[Wh]at ho
   rw[ho]
   unfold wantB at h
   split at h
   ·rename_i d hd
    split at h
    ·rename_i x hx
     obtain⟨u,h1,h2⟩:=hf.get d x hx
     simp only[Qa,hd,h2]
     split at h
     ·rename_i t ht
      injection h with h;subst h
      rw[V.bool?_eq ht]at h1
      rw[cv_k h1]
      cases t<;>cases want<;>rfl
     ·rename_i ht
      injection h with h;subst h
      have hn:=bool?_no ht h1
      cases u<;>first|exact absurd rfl (hn _)|rfl
    ·cases h
   ·rename_i hd
    injection h with h;subst h
    simp[hd]
  ·rename_i ho
   injection h with h;subst h
   rw[Wh]at ho
   simp[ho]
theorem St.put (hst:St P w0 ρ n s a w){dst:Option Nat}(hd: ∀d,dst=some d->d<n){u:Value}(hu:cv ρ v=some u):St P w0 ρ n (s.upo dst v) (a.put dst u) w:=by
 cases dst with
 |none=>exact hst
 |some d=>exact⟨hst.fe.put (hd d rfl) hu,hst.ds,hst.hr,hst.fl⟩
theorem upo_eq (s:S)(dst:Option Nat)(v:V):(s.upo dst v).h=s.h/\(s.upo dst v).nx=s.nx/\(s.upo dst v).fl=s.fl/\(s.upo dst v).rd=s.rd/\(s.upo dst v).ds=s.ds:=by cases dst<;>exact⟨rfl,rfl,rfl,rfl,rfl⟩
theorem o_a0 (hC:OKC P C)(hi:Sd P C ih){ops:Array Oper}: ∀(l:List Oper) {s s':S} {ρ:Rho} {a:Act} {w:World},seq1 C ih ops.toList l s=some s'->(∀o∈l,∀d,o.dst=some d->d<n)->r.isSome=s.rd->St P w0 ρ n s a w->
  (∀a' w',To P w0 ρ n s w s' a' w'->Q .normal a' w')->WL r P ops Q l a w
 | [],s,s',ρ,a,w,hl,hd,hrd,hst,hQ=>by
  injection hl with hl;subst hl
  exact hQ a w ⟨ρ,hst,Tr.refl _ _ _ _ _,rfl,rfl⟩
 |o::l,s,s',ρ,a,w,hl,hd,hrd,hst,hQ=>by
  unfold seq1 at hl
  unfold WL wpListIn
  split at hl
  ·rename_i hw
   rw[o_aS hst.fe hw,Qj rfl]
   split at hl
   ·rename_i v1 s1 h1
    refine o_dA hC hi hst hrd h1 fun ρ1 w1 u ds1 g1 g2 g3 g4 g5=>?_
    obtain⟨e1,e2,e3,e4,e5⟩:=upo_eq s1 o.dst v1
    have hst1:=g2.put (dst:=o.dst) (fun d h=>hd o (Qg ..) d h) g1
    refine o_a0 hC hi l hl (fun p hp=>hd p (Qf _ hp)) (by rw[e4,g4];exact hrd) hst1 fun a' w' ⟨ρ2,q1,q2,q3,q4⟩=>hQ a' w' ⟨ρ2,q1,g3.trans ?_,q3.trans (e4.trans g4),q4.trans (e3.trans g5)⟩
    rw[e1,e2,e3,g5]at q2;exact q2
   ·cases hl
  ·rename_i hw
   rw[o_aS hst.fe hw,Qd (by decide)]
   obtain⟨e1,e2,e3,e4,e5⟩:=upo_eq s o.dst un
   refine⟨fun _ _=>trivial,o_a0 hC hi l hl (fun p hp=>hd p (Qf _ hp)) (by rw[e4];exact hrd) (hst.put (fun d h=>hd o (Qg ..) d h) Qfc) fun a' w' ⟨ρ2,q1,q2,q3,q4⟩=>hQ a' w' ⟨ρ2,q1,?_,q3.trans e4,q4.trans e3⟩⟩
   rw[e1,e2,e3]at q2;exact q2
  ·cases hl
end
section
variable {P:Program}{C:Cx}{ih:Job->Option Rs}{w0:World}{ρ:Rho}{n:Nat}{s s':S}{a:Act}{w:World}{r:Option Nat}{v:V}{h h2:T O}{nx nx2 fl:Nat}
theorem To.trans {s1 s2:S}{a2:Act}{w1 w2:World}{ρ1:Rho}(h1:Tr ρ s.h s.nx w ρ1 s1.h s1.nx w1 s.fl)(h3:s1.rd=s.rd)(h4:s1.fl=s.fl)(h2:To P w0 ρ1 n s1 w1 s2 a2 w2):To P w0 ρ n s w s2 a2 w2:=by
 obtain⟨ρ2,q1,q2,q3,q4⟩:=h2
 rw[h4]at q2
 exact⟨ρ2,q1,h1.trans q2,q3.trans h3,q4.trans h4⟩
theorem HR.drop (hr:HR P w0 ρ h nx w){i:Nat}{o:O}{x:Pl}(hi:h.get i=some o)(hx:ρ i=some x){ob:Obj}(hm: ∀arr c,ob≠ .map arr c):HR P w0 ρ (h.del i) nx (w.putObj x.b ob):=by
 obtain⟨hin,x',hx',hlo,hhi,_⟩:=hr.live i o hi
 rw[hx]at hx';injection hx' with hx';subst hx'
 have hs:(w.putObj x.b ob).heap.size=w.heap.size:=by simp
 have hw: ∀k,k≠x.b->(w.putObj x.b ob).heap[k]?=w.heap[k]?:=fun k hk=>World.putObj_heap_other hk
 have real: ∀{l r},(h.del i).get l=some r->h.get l=some r/\l≠i:=fun {l r} hl=>by
  rw[T.get_del]at hl
  split at hl
  ·cases hl
  ·rename_i e;exact⟨hl,e⟩
 refine⟨fun j p hj=>?_,fun j k p q y z hj hk=>hr.inj j k p q y z (real hj).1 (real hk).1,hr.top,fun k hk=>(hw k (by omega)).trans (hr.base k hk),by rw[hs];exact hr.size,hr.os,hr.tape,hr.output⟩
 obtain⟨h1,h2⟩:=real hj
 obtain⟨g1,y,g2,g3,g4,g5⟩:=hr.live j p h1
 refine⟨g1,y,g2,g3,by omega,OR.keep (Le.refl _) (by omega) (hw y.b fun e2=>h2 (hr.inj j i p o y x h1 hi g2 hx e2)) (fun b _=>?_) g5⟩
 by_cases hb:b=x.b
 ·subst hb
  intro arr' c' ha
  rw[World.putObj_heap_same hhi]at ha
  injection ha with ha
  exact absurd ha (hm _ _)
 ·exact Ben.of_eq (hw b hb)
theorem Tr.drop (hr:HR P w0 ρ h nx w){i:Nat}{o:O}{x:Pl}(hi:h.get i=some o)(hx:ρ i=some x)(ob:Obj)(hfl:fl<=i):Tr ρ h nx w ρ (h.del i) nx (w.putObj x.b ob) fl:=
 ⟨Le.refl _,Qo _,by simp,fun b hb hn=>World.putObj_heap_other fun e=>hn i o x hi hx e.symm,fun j p y hj hy _=>by
  rw[T.get_del]at hj
  split at hj
  ·cases hj
  ·exact⟨j,p,y,hj,hy,rfl⟩,fun j hj=>by rw[T.get_del,Qd (by omega)],fun j p y hj h1 h2=>World.putObj_heap_other fun e=>by have:=hr.inj j i p o y x h1 hi h2 hx e;omega,fun _ _ h=>h⟩
theorem o_bV {x:Option Rs}{p:T O×Nat}(hl:callH x=some p): ∃v,x=some (.call v p.1 p.2):=by
 unfold callH at hl
 split at hl
 ·injection hl with hl;subst hl;exact⟨_,rfl⟩
 ·cases hl
theorem isDf_eq {o:Option O}(h:isDf o=true):o=some .df:=by
 unfold isDf at h
 split at h
 ·rfl
 ·cases h
theorem o_a7 (hi:Sd P C ih){fn:Func}{tmps:Array Value}{R:Ending->World->Prop}: ∀(ds:List (Option (V×List V)×Nat)) {dl:List Deferred} {h:T O} {nx:Nat} {ρ:Rho} {w:World},Qih ih fl ds h nx=some (h2,nx2)->dcl ρ ds dl->HR P w0 ρ h nx w->fl<=nx->
  (∀ρ' w',HR P w0 ρ' h2 nx2 w'->Tr ρ h nx w ρ' h2 nx2 w' fl->∃v,(results fn tmps).run P w'=.ok v w'/\R (.returned v) w')->LeavesInM (FW none) 0 P fn tmps R dl .returning w
 | [],[],h,nx,ρ,w,hl,_,hr,_,hQ=>by
  simp only[Qih,Qc,Qr]at hl
  obtain⟨rfl,rfl⟩:=hl
  exact hQ ρ w hr (Tr.refl _ _ _ _ _)
 | [],_::_,_,_,_,_,_,hd,_,_,_=>hd.elim
 |_::_,[],_,_,_,_,_,hd,_,_,_=>hd.elim
 |(none,i)::r,d::dl,h,nx,ρ,w,hl,hd,hr,hfl,hQ=>by
  unfold Qih at hl
  obtain⟨hb,h1⟩:=Qaa hl
  rw[Qe]at hb
  have hdf:=isDf_eq hb.2
  have hfi:=Qi hb.1
  obtain⟨⟨y,hy,rfl⟩,hd2⟩:=hd
  obtain⟨_,y',hy',_,_,hor⟩:=hr.live i _ hdf
  rw[hy]at hy';injection hy' with hy';subst hy'
  refine⟨by simp,.inl ⟨y.b,_,rfl,run_takeDeferred hor,o_a7 hi r h1 hd2 (hr.drop hdf hy (fun _ _ h=>by cases h)) hfl fun ρ' w' g1 g2=>hQ ρ' w' g1 ((Tr.drop hr hdf hy _ hfi).trans g2)⟩⟩
 |(some (f,args),j)::r,d::dl,h,nx,ρ,w,hl,hd,hr,hfl,hQ=>by
  unfold Qih at hl
  split at hl
  ·rename_i h1 nx1 hc
   obtain⟨v,hc⟩:=o_bV hc
   obtain⟨⟨fid,first,cap,A,us,c,rfl,k1,k2,k3,rfl⟩,hd2⟩:=hd
   obtain⟨A',c',g1,g2,g3,g4⟩:=hi.dcall hc hr hfl (Qgm k1 k3) k2
   rw[k1]at g1;injection g1 with g1;subst g1
   rw[k3]at g2;injection g2 with g2;subst g2
   refine⟨by simp,.inr ⟨(fun h=>by cases h),.func fid,c.toArray,fid,(A++us++c).toArray,rfl,?_,fun _ _=>trivial,CallsDIn.mono g4 fun e u2 w' ⟨hu,u,ρ1,he,_,q2,q3⟩=>?_⟩⟩
   ·simp[invoke,g3 _ _]
   ·subst hu;subst he
    exact o_a7 hi r hl (Qbm q3.le hd2) q2 (Wd hfl q3.nx) fun ρ' w' p1 p2=>hQ ρ' w' p1 (q3.trans p2)
  ·cases hl
theorem loadV_p {t:TypeId}{p:V}{u:Value}(hl:loadV C h t p=some v)(hp:cv ρ p=some u): ∃ad,u=.pointer (some ad):=by
 unfold loadV at hl
 split at hl
 ·split at hl
  ·rename_i hc
   unfold Qij at hc
   split at hc
   ·rename_i i o hpp
    rw[V.ptr?_eq hpp]at hp
    obtain⟨x,_,h1⟩:=cv_p hp;exact⟨_,h1⟩
   ·split at hc
    ·rename_i g o hgg
     rw[V.gl?_eq hgg]at hp
     exact⟨_,cv_gl hp⟩
    ·cases hc
  ·cases hl
 ·cases hl
def resOp (tmps:Array Value):ResultVar->Sem Value
 | .tmp t=>pure (tmps.getD t undef)
 | .cell a t=>do loadVar t (<-asAddr (tmps.getD a undef))
theorem o_dj (hC:OKC P C)(hf:Fe ρ s.env n a)(hr:HR P w0 ρ h nx w){x:ResultVar}(hl:res1 C s.env h x=some v): ∃u,cv ρ v=some u/\(resOp a.tmps x).run P w=.ok u w:=by
 cases x with
 |tmp t=>
  obtain⟨u,h1,h2⟩:=hf.get t v hl
  exact⟨u,h1,by simp[resOp,Q1,h2]⟩
 |cell t T=>
  unfold res1 at hl
  simp only at hl
  split at hl
  ·rename_i p hp
   obtain⟨u,h1,h2⟩:=hf.get t p hp
   obtain⟨z,h3,h4⟩:=o_bR hC hr h1 hl
   obtain⟨ad,rfl⟩:=loadV_p hl h1
   refine⟨z,h3,?_⟩
   have h5:a.tmps.getD t undef=.pointer (some ad):=by simp[Q1,h2]
   simp only[resOp,h5]
   simp only[Instr.loadAt,Instr.sureAddr]at h4
   simpa[asAddr] using h4
  ·cases hl
theorem o_ch (hC:OKC P C)(hf:Fe ρ s.env n a)(hr:HR P w0 ρ h nx w): ∀{xs:List ResultVar} {vs:List V},resV C s.env h xs=some vs->∃us,cvl ρ vs=some us/\(xs.mapM (resOp a.tmps)).run P w=.ok us w
 | [],vs,hl=>by injection hl with hl;subst hl;exact⟨[],by unfold cvl;rfl,by simp⟩
 |x::xs,vs,hl=>by
  unfold resV at hl
  split at hl
  ·rename_i v1 h1
   split at hl
   ·rename_i ws h2
    injection hl with hl;subst hl
    obtain⟨u,g1,g2⟩:=o_dj hC hf hr h1
    obtain⟨us,g3,g4⟩:=o_ch hC hf hr h2
    refine⟨u::us,Qad g1 g3,?_⟩
    rw[List.mapM_cons]
    simp[Sem.run_bind,g2,g4]
   ·cases hl
  ·cases hl
theorem o_ck (hC:OKC P C)(hf:Fe ρ s.env n a)(hr:HR P w0 ρ h nx w){fn:Func}{vs:List V}(hl:resV C s.env h fn.results.toList=some vs): ∃u,cv ρ (one vs)=some u/\(results fn a.tmps).run P w=.ok u w:=by
 obtain⟨us,h1,h2⟩:=o_ch hC hf hr hl
 have h3:(fn.results.mapM (resOp a.tmps)).run P w=.ok us.toArray w:=by
  rw[<-Q4 (xs:=fn.results),List.mapM_toArray,Sem.run_map,h2];rfl
 have h4:(results fn a.tmps).run P w=.ok (if h:us.toArray.size=1 then us.toArray[0]else .tuple us.toArray) w:=by
  have h5:results fn a.tmps=(do let vs<-fn.results.mapM (resOp a.tmps);pure (if h:vs.size=1 then vs[0]else .tuple vs)):=by
   unfold results;congr 1
  rw[h5,Sem.run_bind,h3]
  simp
 refine⟨_,?_,h4⟩
 match vs,us,h1 with
 | [],us,h1=>
  have h2:=Qbp h1
  subst h2
  exact cv_t_mk h1
 | [x],us,h1=>
  obtain⟨u,us',rfl,g1,g2⟩:=Qaq h1
  rw[Qbp g2]
  simpa[one] using g1
 |x::y::l,us,h1=>
  obtain⟨u,us',rfl,g1,g2⟩:=Qaq h1
  obtain⟨u2,us2,rfl,g3,g4⟩:=Qaq g2
  simp[one]
  exact cv_t_mk h1
theorem argV_get: ∀(vs:List V) (i:Nat) (e:Env) (d:Nat) (x:V),(argV vs i e).get d=some x->(i<=d/\vs[d-i]?=some x)\/e.get d=some x
 | [],i,e,d,x,h=>.inr h
 |y::vs,i,e,d,x,h=>by
  rcases argV_get vs (i+1) (e.set i y) d x h with⟨h1,h2⟩|h0
  ·refine .inl ⟨by omega,?_⟩
   rw[show d-i=(d-(i+1))+1 by omega,Xa];exact h2
  ·have h1:(Env.c i y e).get d=some x:=h0
   clear h0
   rw[Env.get_c]at h1
   split at h1
   ·rename_i e1;subst e1;exact .inl ⟨Qo _,by simpa using h1⟩
   ·exact .inr h1
theorem Fe.entry {vs:List V}{us:List Value}(hv:cvl ρ vs=some us){n:Nat}(hn:vs.length<=n):Fe ρ (argV vs 0 .o) n {tmps:=us.toArray++Array.replicate (n-us.toArray.size) undef,defers:=[]}:=by
 have hlen:=cvl_len hv
 refine⟨by simp;omega,fun d x hd=>?_⟩
 rcases argV_get vs 0 .o d x hd with⟨_,h1⟩|h1
 ·obtain⟨u,h2,h3⟩:=cvl_get hv h1
  refine⟨u,h3,?_⟩
  have hd:d<us.length:=by
   rcases Yn d us.length with h'|h'
   ·exact h'
   ·rw[Q9 (by omega)]at h2;cases h2
  rw[Wt (by simpa using hd)]
  simpa using h2
 ·cases h1
theorem o_cW (hC:OKC P C){fid:Nat}{fn:Func}{c:Code}(hf:C.fn.get fid=some fn)(hb:fn.body=some c):P.funcs[fid]?=some fn/\CF P fid:=by
 obtain⟨h1,h2⟩:=hC.fn fid fn hf
 refine⟨h1,fun args w=>?_⟩
 simp[callFunc,Sem.run_bind,h1,h2,hb]
theorem Qhj {x:X}(h:Qhm x=false):exOf x=.normal\/exOf x=.ret:=by cases x<;>first|exact .inl rfl|exact .inr rfl|cases h
theorem o_cy (hC:OKC P C)(hi:Sd P C ih){fid:Nat}{args:List V}{v:V}{us:List Value}(hl:fnCall C ih fid args h nx fl=some (.call v h2 nx2))(hr:HR P w0 ρ h nx w)(hfl:fl<=nx)(hv:cvl ρ args=some us):
  CF P fid/\Calls P fid us.toArray w (En P w0 ρ h nx fl w v h2 nx2):=by
 unfold fnCall at hl
 split at hl
 ·rename_i fn hfn
  split at hl
  ·rename_i c hc
   obtain⟨hb,h1⟩:=Qaa hl
   clear hl
   rw[Qe]at hb
   obtain⟨hpf,hcf⟩:=o_cW hC hfn hc
   refine⟨hcf,callsIn_wide.1 (callsIn_of_wp_marks (F:=FW none) (n:=0) hpf hc trivial ?_)⟩
   unfold bodyR at h1
   split at h1
   ·rename_i x s1 hcode
    cases hx:Qhm x with
    |true=>rw[hx]at h1;cases h1
    |false=>
     rw[hx,cond_false]at h1
     have hw:=hi.code hcode hb.1 (r:=none) rfl (St.mk (P:=P) (w0:=w0) (ρ:=ρ) (w:=w) (Fe.entry hv (Qi hb.2)) trivial hr hfl)
     refine wpIn_mono hw fun e a' w' ⟨he,ρ1,g1,g2,_,g4⟩=>?_
     have hL:LeavesInM (FW none) 0 P fn a'.tmps (En P w0 ρ h nx fl w v h2 nx2) a'.defers .returning w':=by
      unfold retR at h1
      split at h1
      ·rename_i h3 nx3 hds
       split at h1
       ·rename_i vs hres
        simp only[Qc,Rs.call.injEq]at h1
        obtain⟨rfl,rfl,rfl⟩:=h1
        have g4:s1.fl=fl:=g4
        refine o_a7 hi s1.ds hds g1.ds g1.hr (by rw[<-g4];exact g1.fl) fun ρ' w2 p1 p2=>?_
        obtain⟨u,q1,q2⟩:=o_ck hC (g1.fe.mono p2.le) p1 hres
        exact⟨u,q2,u,ρ',rfl,q1,p1,g2.trans p2⟩
       ·cases h1
      ·cases h1
     rcases Qhj hx with hx|hx<;>rw[he,hx]<;>exact hL
   ·cases h1
  ·cases hl
 ·cases hl
theorem isRec_eq {c:Call}(h:isRec c=true):c={callee:=.builtin .recover,args:=#[],argTypes:=#[]}:=by
 obtain⟨ce,xs,ts⟩:=c
 unfold isRec at h
 split at h
 ·rename_i hce
  have hce:ce=.builtin .recover:=hce
  subst hce
  rw[Qe]at h
  have h1:=Ql h.1
  have h2:=Ql h.2
  simp only[Array.size_eq_zero_iff]at h1 h2
  subst h1;subst h2;rfl
 ·cases h
theorem dBody_eq {c b:Code}{d:Nat}(h:dBody c=some (d,b)): ∃id T pos af,c=.seq (.region id #[⟨some d,.call {callee:=.builtin .recover,args:=#[],argTypes:=#[]},T,pos,af,none⟩] false) b:=by
 unfold dBody at h
 split at h
 ·rename_i id ops b'
  split at h
  ·rename_i d' hrec
   simp only[Qc,Qr]at h
   obtain⟨rfl,rfl⟩:=h
   unfold recOp at hrec
   split at hrec
   ·rename_i d2 c2 T pos af hops
    obtain⟨hb,h1⟩:=Qaa hrec
    injection h1 with h1;subst h1
    have:=isRec_eq hb;subst this
    refine⟨id,T,pos,af,?_⟩
    rw[<-Q4 (xs:=ops),hops]
   ·cases hrec
  ·cases h
 ·cases h
theorem enterRecIn {f:FuncId}{fn:Func}{c:Code}{args:Array Value}{id d:Nat}{T:TypeId}{pos:String}{af:Array Edge}{R:Ending->World->Prop}(hf:P.funcs[f]?=some fn)
  (hb:fn.body=some (Code.seq (.region id #[⟨some d,.call {callee:=.builtin .recover,args:=#[],argTypes:=#[]},T,pos,af,none⟩] false) c))
  (h:WP none P c (bodyPost P fn R) (({tmps:=args++Array.replicate (fn.ntmps-args.size) undef,defers:=[]}:Act).put (some d) .nilIface) w):CallsDIn (FW none) 0 P f args .returning w fun e u2 w'=>u2=.returning/\R e w':=by
 refine callsDIn_of_wpSIn hf hb trivial fun c₀ cs hu=>wpSIn_seq (wpSIn_region ?_)
 have hx: ∀a':Act,(execOp a'.eval ⟨some d,.call {callee:=.builtin .recover,args:=#[],argTypes:=#[]},T,pos,af,none⟩).run P w=.ok .recover w:=fun a'=>by
  simp[execOp,resolve,invoke,builtin]
 have hl:List.range (Array.size #[(⟨some d,.call {callee:=.builtin .recover,args:=#[],argTypes:=#[]},T,pos,af,none⟩:Oper)])=[0]:=rfl
 rw[hl]
 have hrec:recoverD (c₀::cs)=none:=by simp[recoverD,hu]
 have hc:c₀={c₀ with mode:=.returning}:=by rw[<-hu]
 simp only[wpOpsSIn,W9,Wl,Region.wanted,X6,hx,hrec,Exit.thenS]
 refine⟨fun _ _=>trivial,wpSIn_of_wpIn rfl (wpIn_mono h fun e a w hq=>?_)⟩
 rw[hc];exact Qfd e a w hq
theorem o_cM (hC:OKC P C)(hi:Sd P C ih){f:V}{args:List V}{v:V}{u:Value}{us:List Value}(hl:dCall C ih args h nx fl f=some (.call v h2 nx2))(hr:HR P w0 ρ h nx w)(hfl:fl<=nx)(hf:cv ρ f=some u)(hv:cvl ρ args=some us):
  Dl P w0 ρ h nx fl w us v h2 nx2 f:=by
 unfold dCall at hl
 split at hl
 ·rename_i fid first cap
  obtain⟨A,c,k1,k2,_⟩:=cv_f hf
  split at hl
  ·rename_i fn hfn
   split at hl
   ·rename_i cd hcd
    obtain⟨hpf,hcf⟩:=o_cW hC hfn hcd
    refine⟨A,c,k1,k2,hcf,?_⟩
    have hvs:=Qeb (Qeb k1 hv) k2
    unfold dRun at hl
    split at hl
    ·rename_i d b hdb
     obtain⟨id,T,pos,af,rfl⟩:=dBody_eq hdb
     obtain⟨hb,h1⟩:=Qaa hl
     clear hl
     rw[Qe,Qe]at hb
     refine enterRecIn hpf hcd ?_
     unfold endD at h1
     split at h1
     ·rename_i x s1 hcode
      cases hx:Qhm x|| !s1.ds.isEmpty|| !fn.results.toList.isEmpty with
      |true=>rw[hx]at h1;cases h1
      |false=>
       rw[hx,cond_false]at h1
       simp only[Yg,Bool.not_eq_false',Jn]at hx
       obtain⟨⟨hx1,hx2⟩,hx3⟩:=hx
       simp only[Qc,Rs.call.injEq]at h1
       obtain⟨rfl,rfl,rfl⟩:=h1
       have hd:d<fn.ntmps:=Qi hb.2
       have hn:cv ρ (.k .nilIface)=some .nilIface:=by unfold cv;rfl
       have hw:=hi.code hcode hb.1.1 (r:=none) rfl (St.mk (P:=P) (w0:=w0) (ρ:=ρ) (w:=w) ((Fe.entry hvs (Qi hb.1.2)).put hd hn) trivial hr hfl)
       refine wpIn_mono hw fun e a' w' ⟨he,ρ1,g1,g2,_,g4⟩=>?_
       have hdf:a'.defers=[]:=by
        have:=g1.ds
        rw[hx2]at this
        cases hd2:a'.defers with
        |nil=>rfl
        |cons _ _=>rw[hd2]at this;exact this.elim
       have hrs:fn.results=#[]:=by rw[<-Q4 (xs:=fn.results),hx3]
       have hL:a'.defers=[]/\∃v,(results fn a'.tmps).run P w'=.ok v w'/\En P w0 ρ h nx fl w un s1.h s1.nx (.returned v) w':=
        ⟨hdf,undef,results_none hrs _ _ _,undef,ρ1,rfl,Qfc,g1.hr,g2⟩
       rcases Qhj hx1 with hx|hx<;>rw[he,hx]<;>exact hL
     ·cases h1
    ·cases hl
   ·cases hl
  ·cases hl
 ·cases hl
end
section
variable {P:Program}{C:Cx}{ih:Job->Option Rs}{w0:World}{ρ:Rho}{n:Nat}{s s':S}{a:Act}{w:World}{r:Option Nat}{v:V}{h h2:T O}{nx nx2 fl:Nat}
theorem Qfv {i:Nat}{e:Env}{ps:List Nat}{x y:Code}{st:Bool}{p:Option Code}(hl:lpAt h i=some (e,ps,x,y,st,p)):h.get i=some (.lp e ps x y st p):=by
 unfold lpAt at hl
 split at hl
 ·rename_i hg
  simp only[Qc,Qr]at hl
  obtain⟨rfl,rfl,rfl,rfl,rfl,rfl⟩:=hl
  exact hg
 ·cases hl
theorem pendX_eq {p:Option Code}{x:X}(hl:pendX p=some x):(p=none/\x=.n)\/(p=some .ret/\x=.r)\/∃j,p=some (.exit j)/\x=.e j:=by
 unfold pendX at hl
 split at hl
 ·injection hl with hl;exact .inl ⟨rfl,hl.symm⟩
 ·injection hl with hl;exact .inr (.inl ⟨rfl,hl.symm⟩)
 ·rename_i j;injection hl with hl;exact .inr (.inr ⟨j,rfl,hl.symm⟩)
 ·cases hl
theorem Fe.acts {e:Env}{t:Array Value}{ds ds':List Deferred}(hf:Fe ρ e n ⟨t,ds⟩):Fe ρ e n ⟨t,ds'⟩:=⟨hf.size,hf.get⟩
theorem loop_ne {b:Nat}{lp:Loop}{w':World}(h:w'.heap[b]?=some (.loop lp)):Ben w w' b:=fun arr c hc=>by rw[h]at hc;injection hc with hc;cases hc
theorem o_dB (hC:OKC P C)(hi:Sd P C ih){f:Operand}{ps:Array Nat}{asg body:Code}{x:X}(hl:cRf ih f ps.toList asg body s=some (.code x s'))(hok:okD n (.rangeFunc f ps asg body)=true)(hrd:r.isSome=s.rd)(hst:St P w0 ρ n s a w):
  WP r P (.rangeFunc f ps asg body) (fun e a' w'=>e=exOf x/\To P w0 ρ n s w s' a' w') a w:=by
 unfold cRf at hl
 split at hl
 ·rename_i fv hfv
  cases hb:s.rd|| !isF fv with
  |true=>rw[hb]at hl;cases hl
  |false=>
   rw[hb,cond_false]at hl
   simp only[Yg,Bool.not_eq_false']at hb
   obtain⟨hb1,hb2⟩:=hb
   rw[hb1]at hrd
   have hr0:r=none:=by cases r<;>first|rfl|cases hrd
   subst hr0
   unfold rfEnd at hl
   split at hl
   ·rename_i h3 nx3 hcl
    obtain⟨v,hcl⟩:=o_bV hcl
    split at hl
    ·rename_i e3 ps3 x3 y3 st3 p3 hlp
     cases hsp:st3&&p3.isNone with
     |true=>rw[hsp]at hl;cases hl
     |false=>
      rw[hsp,cond_false]at hl
      split at hl
      ·rename_i x' hpx
       simp only[Qc,Rs.code.injEq]at hl
       obtain⟨rfl,rfl⟩:=hl
       have hlp:=Qfv hlp
       have hok:(ps.toList.all (fun d=>Nat.blt d n)&&okD n asg&&okD n body)=true:=hok
       rw[Qe,Qe]at hok
       obtain⟨u,h1,h2⟩:=o_a hst.fe hfv
       refine wpIn_rangeFunc fun fn hfn=>?_
       obtain⟨rec,hrec⟩: ∃rec:Loop,rec={state:=.ready,pending:=none,fn,tmps:=a.tmps,params:=ps,assign:=asg,body,defers:=w.heap.size}:=⟨_,rfl⟩
       have hx1:OR P (ρ.add s.nx ⟨w.heap.size,0,0,0⟩) (w.alloc (.deferred (some []))) ⟨w.heap.size,0,0,0⟩ .df:=World.alloc_heap_new w _
       have hr1:=hst.hr.alloc (.deferred (some [])) .df ⟨w.heap.size,0,0,0⟩ rfl hx1
       have ht1:=Tr.alloc hst.hr (.deferred (some [])) .df ⟨w.heap.size,0,0,0⟩ rfl hst.fl
       have hsz:w.heap.size+1=(w.alloc (.deferred (some []))).heap.size:=by simp
       obtain⟨ρ1,hρ1⟩: ∃ρ1,ρ1=ρ.add s.nx ⟨w.heap.size,0,0,0⟩:=⟨_,rfl⟩
       have hd1:ρ1 s.nx=some ⟨w.heap.size,0,0,0⟩:=by rw[hρ1];exact Rho.add_same _ _ _
       rw[<-hρ1]at hr1 ht1
       have hl2:Le ρ1 (ρ1.add (s.nx+1) ⟨w.heap.size+1,0,0,0⟩):=Rho.le_add (hr1.top _ (Qo _))
       have hx2:OR P (ρ1.add (s.nx+1) ⟨w.heap.size+1,0,0,0⟩) ((w.alloc (.deferred (some []))).alloc (.loop rec)) ⟨w.heap.size+1,0,0,0⟩ (.lp s.env ps.toList asg body false none):=by
        refine⟨rec,n,?_,by rw[hrec];rfl,by rw[hrec],by rw[hrec],by rw[hrec],by rw[hrec],?_,hok.1.2,hok.2,fun d hd=>?_⟩
        ·have:=World.alloc_heap_new (w.alloc (.deferred (some []))) (.loop rec)
         rwa[<-hsz]at this
        ·rw[hrec];exact(hst.fe.mono (ht1.le.trans hl2)).acts
        ·have:=Qx.1 hok.1.1 d hd
         exact Qi this
       have hr2:=hr1.alloc (.loop rec) (.lp s.env ps.toList asg body false none) ⟨w.heap.size+1,0,0,0⟩ hsz hx2
       have ht2:=Tr.alloc hr1 (.loop rec) (.lp s.env ps.toList asg body false none) ⟨w.heap.size+1,0,0,0⟩ hsz (fl:=s.fl) (Xn hst.fl)
       obtain⟨ρ2,hρ2⟩: ∃ρ2,ρ2=ρ1.add (s.nx+1) ⟨w.heap.size+1,0,0,0⟩:=⟨_,rfl⟩
       have hd2:ρ2 (s.nx+1)=some ⟨w.heap.size+1,0,0,0⟩:=by rw[hρ2];exact Rho.add_same _ _ _
       rw[<-hρ2]at hr2 ht2
       obtain⟨W1,hW1⟩: ∃W1,W1=(w.alloc (.deferred (some []))).alloc (.loop rec):=⟨_,rfl⟩
       rw[<-hW1]at hr2 ht2
       have hy:cvl ρ2 [.y (s.nx+1)]=some [.func (.yield (w.heap.size+1)) #[] #[]]:=Qad (by unfold cv;rw[hd2]) (by unfold cvl;rfl)
       have hc:=hi.call hcl hr2 (Xn (Xn hst.fl)) (Qam (ht1.le.trans ht2.le) _ _ h1) hy
       cases fv with
       |f fid first cap=>
        obtain⟨A,c,k1,k2,hcf,hcalls⟩:=hc
        have h7:u=.func (.func fid) A.toArray c.toArray:=by
         obtain⟨A',c',q1,q2,rfl⟩:=cv_f (Qam (ht1.le.trans ht2.le) _ _ h1)
         rw[k1]at q1;injection q1 with q1;subst q1
         rw[k2]at q2;injection q2 with q2;subst q2;rfl
        rw[h7]at h2
        have hc0:=callsFW (r:=none) (n:=0) hcalls
        have henter:(Instr.enterLoop fn a.tmps ps asg body none).run P w=.ok (w.heap.size+1,[mkD w.heap.size]) W1:=by rw[hW1,hrec];exact run_enterLoop_outer _ _ _ _ _
        have hres:(resolve a.eval (rangeCall f (w.heap.size+1)) 0).run P W1=.ok {target:=.fn (.func fid) c.toArray,args:=A.toArray++#[.func (.yield (w.heap.size+1)) #[] #[]]} W1:=by
         simp only[resolve,h2]
         simp[Deferred.ofValue,Act.eval]
        have hinv:(invoke (.fn (.func fid) c.toArray) (A.toArray++#[Value.func (.yield (w.heap.size+1)) #[] #[]])).run P W1=.ok (.enter fid (A++[Value.func (.yield (w.heap.size+1)) #[] #[]]++c).toArray) W1:=by
         simp[invoke,hcf _ _]
        refine⟨w.heap.size+1,[mkD w.heap.size],W1,_,W1,fid,_,W1,henter,hres,fun _ _=>trivial,hinv,(fun h=>by cases h),CallsIn.mono hc0 ?_⟩
        ·rintro e w3 ⟨uv,ρ3,rfl,_,hr3,ht3⟩;obtain⟨_,x3',hx3,_,_,hor⟩:=hr3.live _ _ hlp
         have:=ht3.le _ _ hd2
         rw[hx3]at this;injection this with this;subst this
         obtain⟨lp3,n3,g1,g2,g3,g4,g5,g6,_⟩:=hor
         have hnb:lp3.state≠ .busy:=by
          rw[g2]
          cases st3 with
          |false=>simp
          |true=>
           have hpn:p3.isNone=false:=by simpa using hsp
           simp[hpn]
         have hend:=run_endLoop (P:=P) g1 hnb
         have hfl3:s.fl<=nx3:=Wd (Xn (Xn hst.fl)) ht3.nx
         have kA:=(hst.fe.mono (ht1.le.trans (ht2.le.trans ht3.le)))
         have kB:dcl ρ3 ((none,s.nx)::s.ds) ([mkD w.heap.size]++a.defers):=⟨⟨_,ht3.le _ _ (ht2.le _ _ hd1),rfl⟩,Qbm (ht1.le.trans (ht2.le.trans ht3.le)) hst.ds⟩
         obtain⟨w4,hw4⟩: ∃w4,w4=w3.putObj (w.heap.size+1) (.loop {lp3 with state:=.exhausted}):=⟨_,rfl⟩
         have kC:HR P w0 ρ3 (h3.del (s.nx+1)) nx3 w4:=by rw[hw4];exact hr3.drop hlp hx3 (fun _ _ h=>by cases h)
         have kD:Tr ρ s.h s.nx w ρ3 (h3.del (s.nx+1)) nx3 w4 s.fl:=by rw[hw4];exact((ht1.trans ht2).trans ht3).trans (Tr.drop hr3 hlp hx3 _ (Xn hst.fl))
         have hto:To P w0 ρ n s w ⟨s.env,(none,s.nx)::s.ds,h3.del (s.nx+1),nx3,s.rd,s.fl⟩ {a with defers:=[mkD w.heap.size]++a.defers} w4:=⟨ρ3,⟨kA.acts,kB,kC,hfl3⟩,kD,rfl,rfl⟩
         have hend:(Instr.endLoop (w.heap.size+1)).run P w3=.ok p3 w4:=by rw[hw4,<-g3];exact hend
         refine⟨p3,_,hend,?_⟩
         rcases pendX_eq hpx with⟨rfl,rfl⟩|⟨rfl,rfl⟩|⟨j,rfl,rfl⟩
         ·exact⟨rfl,hto⟩
         ·exact wpIn_ret ⟨rfl,hto⟩
         ·exact wpIn_exit ⟨rfl,hto⟩
       |k _=>exact hc.elim
       |p _ _=>exact hc.elim
       |s _ _ _ _=>exact hc.elim
       |m _=>exact hc.elim
       |q _=>exact hc.elim
       |w _=>exact hc.elim
       |gl _ _=>exact hc.elim
       |g _=>exact hc.elim
       |t _=>exact hc.elim
       |i _ _=>exact hc.elim
       |y _=>cases hb2
      ·cases hl
    ·cases hl
   ·cases hl
 ·cases hl
theorem o_bW: ∀{ps:List Nat} {vs:List V} {us:List Value} {e e':Env} {t:Array Value},bindV ps vs e=some e'->cvl ρ vs=some us->(∀d∈ps,d<n)->Fe ρ e n ⟨t,[]⟩->us.length=ps.length/\Fe ρ e' n ⟨(ps.zip us).foldl (fun t (p,v)=>t.setIfInBounds p v) t,[]⟩
 | [],[],us,e,e',t,h,hv,_,hf=>by
  injection h with h;subst h;rw[Qbp hv];exact⟨rfl,hf⟩
 | [],_::_,_,_,_,_,h,_,_,_=>by cases h
 |_::_,[],_,_,_,_,h,_,_,_=>by cases h
 |p::ps,x::vs,us,e,e',t,h,hv,hd,hf=>by
  obtain⟨u,us',rfl,h1,h2⟩:=Qaq hv
  obtain⟨h3,h4⟩:=o_bW (e:=e.set p x) h h2 (fun d hd'=>hd d (Qf _ hd')) (hf.put (hd p (Qg ..)) h1)
  exact⟨by simp[h3],h4⟩
theorem jump_eq {x:X}{b:Bool}{c:Option Code}(hl:jump x=some (b,c)):b=c.isSome/\((x=.n/\c=none)\/(x=.r/\c=some .ret)\/∃j,x=.e j/\c=some (.exit j)):=by
 cases x with
 |n=>simp only[jump,Qc,Qr]at hl;obtain⟨rfl,rfl⟩:=hl;exact⟨rfl,.inl ⟨rfl,rfl⟩⟩
 |r=>simp only[jump,Qc,Qr]at hl;obtain⟨rfl,rfl⟩:=hl;exact⟨rfl,.inr (.inl ⟨rfl,rfl⟩)⟩
 |e j=>simp only[jump,Qc,Qr]at hl;obtain⟨rfl,rfl⟩:=hl;exact⟨rfl,.inr (.inr ⟨j,rfl,rfl⟩)⟩
theorem o_cN (hC:OKC P C)(hi:Sd P C ih){i:Nat}{args:List V}{us:List Value}(hl:yCall ih i args h nx fl=some (.call v h2 nx2))(hr:HR P w0 ρ h nx w)(hfl:fl<=nx)(hv:cvl ρ args=some us):Cl P w0 ρ h nx fl w us v h2 nx2 (.y i):=by
 unfold yCall at hl
 cases hb:Nat.blt i fl with
 |true=>rw[hb]at hl;cases hl
 |false=>
  rw[hb,cond_false]at hl
  have hfi:=Qas hb
  split at hl
  ·rename_i e ps asg body hlp
   have hlp:=Qfv hlp
   split at hl
   ·rename_i e' hbd
    unfold yBody at hl
    split at hl
    ·rename_i s1 hasg
     unfold yGo at hl
     split at hl
     ·rename_i e1 ps1 a1 b1 hlp1
      have hlp1:=Qfv hlp1
      unfold yEnd at hl
      split at hl
      ·rename_i x s2 hbody
       split at hl
       ·rename_i b c hj
        unfold yOut at hl
        split at hl
        ·rename_i e2 ps2 a2 b2 st2 p2 hlp2
         have hlp2:=Qfv hlp2
         simp only[Qc,Rs.call.injEq]at hl
         obtain⟨rfl,rfl,rfl⟩:=hl
         obtain⟨_,y,hy,_,hyb,lp,m,g1,g2,g3,g4,g5,g6,g7,g8,g9,g10⟩:=hr.live i _ hlp
         obtain⟨k1,k2⟩:=o_bW hbd hv g10 g7
         have hyl:=run_yield (P:=P) (args:=us.toArray) g1 (by rw[g4];simpa using k1)
         refine⟨y,hy,lp.fn,_,lp.assign,lp.body,hyl,roundIn_of_wpIn trivial ?_⟩
         have hz:(lp.params.zip us.toArray).foldl (fun t (p,v)=>t.setIfInBounds p v) lp.tmps=(ps.zip us).foldl (fun t (p,v)=>t.setIfInBounds p v) lp.tmps:=by rw[g4];simp
         rw[hz,g5,g6]
         refine wpIn_mono (hi.code hasg g8 (r:=some y.b) rfl (St.mk (P:=P) (w0:=w0) (ρ:=ρ) (w:=w) k2 trivial hr hfl)) fun ex a' W ⟨he,ρ1,q1,q2,q3,q4⟩=>?_
         subst he
         have hy1:=q2.le _ _ hy
         obtain⟨_,y',hy',_,hyb1,lp1,m1,j1,j2,j3,j4,j5,j6,j7,j8,j9,j10⟩:=q1.hr.live i _ hlp1
         rw[hy1]at hy';injection hy' with hy';subst hy'
         refine⟨_,run_beginRound j1 (by rw[j2];rfl),?_⟩
         have q4:s1.fl=fl:=q4
         have hsame:(W.putObj y.b (.loop {lp1 with state:=.busy})).heap[y.b]?=some (.loop {lp1 with state:=.busy}):=World.putObj_heap_same hyb1
         have hru:HR P w0 ρ1 (s1.h.set i (.lp e1 ps1 a1 b1 true none)) s1.nx (W.putObj y.b (.loop {lp1 with state:=.busy})):=
          q1.hr.upd hlp1 hy1 (by simp) (fun k hk=>World.putObj_heap_other hk) rfl rfl rfl (loop_ne hsame) ⟨_,m1,hsame,rfl,j3,j4,j5,j6,j7,j8,j9,j10⟩
         have htu:Tr ρ1 s1.h s1.nx W ρ1 (s1.h.set i (.lp e1 ps1 a1 b1 true none)) s1.nx (W.putObj y.b (.loop {lp1 with state:=.busy})) fl:=
          Tr.upd q1.hr hlp1 hy1 (by simp) (fun k hk=>World.putObj_heap_other hk) hfi
         refine wpIn_mono (hi.code hbody g9 (r:=some y.b) (by show true=s1.rd;rw[q3]) (St.mk (P:=P) (w0:=w0) (ρ:=ρ1) q1.fe q1.ds hru q1.fl)) fun ex2 a3 W3 ⟨he,ρ2,z1,z2,z3,z4⟩=>?_
         subst he
         have hy2:=z2.le _ _ hy1
         obtain⟨_,y',hy',_,hyb2,lp2,m2,v1,v2,v3,v4,v5,v6,v7,v8,v9,v10⟩:=z1.hr.live i _ hlp2
         rw[hy2]at hy';injection hy' with hy';subst hy'
         have hend:=fun jump=>run_endRound (P:=P) jump v1
         obtain⟨hbc,hcs⟩:=jump_eq hj
         have hsame2: ∀lp',(W3.putObj y.b (.loop lp')).heap[y.b]?=some (.loop lp'):=fun lp'=>World.putObj_heap_same hyb2
         have z2:Tr ρ1 (s1.h.set i (.lp e1 ps1 a1 b1 true none)) s1.nx (W.putObj y.b (.loop {lp1 with state:=.busy})) ρ2 s2.h s2.nx W3 fl:=by rw[<-q4];exact z2
         have fin:En P w0 ρ h nx fl w (bo (!b)) (s2.h.set i (.lp e2 ps2 a2 b2 b c)) s2.nx (.returned (.bool c.isNone)) (W3.putObj y.b (.loop {lp2 with state:=if c.isNone then .ready else .done,pending:=c})):=by
          have hru2:HR P w0 ρ2 (s2.h.set i (.lp e2 ps2 a2 b2 b c)) s2.nx (W3.putObj y.b (.loop {lp2 with state:=if c.isNone then .ready else .done,pending:=c})):=
           z1.hr.upd hlp2 hy2 (by simp) (fun k hk=>World.putObj_heap_other hk) rfl rfl rfl (loop_ne (hsame2 _)) ⟨_,m2,hsame2 _,by rw[hbc];cases c<;>rfl,rfl,v4,v5,v6,v7,v8,v9,v10⟩
          have htu2:Tr ρ2 s2.h s2.nx W3 ρ2 (s2.h.set i (.lp e2 ps2 a2 b2 b c)) s2.nx (W3.putObj y.b (.loop {lp2 with state:=if c.isNone then .ready else .done,pending:=c})) fl:=
           Tr.upd z1.hr hlp2 hy2 (by simp) (fun k hk=>World.putObj_heap_other hk) hfi
          exact⟨_,ρ2,rfl,by rw[hbc];cases c<;>exact Qba _,hru2,((q2.trans htu).trans z2).trans htu2⟩
         rcases hcs with⟨rfl,rfl⟩|⟨rfl,rfl⟩|⟨j,rfl,rfl⟩
         ·exact⟨_,_,hend _,fin⟩
         ·exact⟨_,_,hend _,fin⟩
         ·exact⟨_,_,hend _,fin⟩
        ·cases hl
       ·cases hl
      ·cases hl
     ·cases hl
    ·cases hl
   ·cases hl
  ·cases hl
theorem o_cO (hC:OKC P C)(hi:Sd P C ih){f:V}{args:List V}{u:Value}{us:List Value}(hl:fCall C ih args h nx fl f=some (.call v h2 nx2))(hr:HR P w0 ρ h nx w)(hfl:fl<=nx)(hf:cv ρ f=some u)(hv:cvl ρ args=some us):
  Cl P w0 ρ h nx fl w us v h2 nx2 f:=by
 unfold fCall at hl
 split at hl
 ·exact o_cN hC hi hl hr hfl hv
 ·obtain⟨A,c,k1,k2,_⟩:=cv_f hf
  obtain⟨h3,h4⟩:=o_cy hC hi hl hr hfl (Qeb (Qeb k1 hv) k2)
  exact⟨A,c,k1,k2,h3,h4⟩
 ·cases hl
end
def DrOk (P:Program)(C:Cx)(ih:Job->Option Rs):Prop:=∀{ops:Array Oper} {s s':S},drawn C ih ops s=some s'->∀{w0:World} {ρ:Rho} {n id:Nat} {a:Act} {w:World} {r:Option Nat},okD n (.region id ops true)=true->r.isSome=s.rd->St P w0 ρ n s a w->
 WP r P (.region id ops true) (fun e a' w'=>e=.normal/\To P w0 ρ n s w s' a' w') a w
def MlOk (P:Program)(C:Cx)(ih:Job->Option Rs):Prop:=∀{b:Code} {s s':S} {x:X} {N:Nx} {i m c:Nat} {es:List (V×V)},isNext b s=some (N,i,m,c,es)->Nat.blt i s.fl=false->Qhv C ih b N s i m c es=some (.code x s')->∀{w0:World} {ρ:Rho} {n:Nat} {a:Act} {w:World} {r:Option Nat},
 okD n b=true->r.isSome=s.rd->St P w0 ρ n s a w->LP r P b (fun e a' w'=>e=exOf x/\To P w0 ρ n s w s' a' w') a w
section
variable {P:Program}{C:Cx}{ih:Job->Option Rs}{w0:World}{ρ:Rho}{n:Nat}{s s':S}{a:Act}{w:World}{r:Option Nat}
theorem o_bX (hC:OKC P C)(hi:Sd P C ih)(hm:MlOk P C ih){b:Code}{x:X}(hl:cLoop C ih b s=some (.code x s'))(hok:okD n b=true)(hrd:r.isSome=s.rd)(hst:St P w0 ρ n s a w):
  LP r P b (fun e a' w'=>e=exOf x/\To P w0 ρ n s w s' a' w') a w:=by
 unfold cLoop at hl
 split at hl
 ·rename_i N i m c es hN
  cases hb:Nat.blt i s.fl with
  |true=>rw[hb]at hl;cases hl
  |false=>rw[hb,cond_false]at hl;exact hm hN hb hl hok hrd hst
 ·unfold cAgain at hl
  split at hl
  ·rename_i s1 h1
   refine LP.step (wpIn_mono (hi.code h1 hok hrd hst) fun e a1 w1 ⟨he,ρ1,q1,q2,q3,q4⟩=>.inl ⟨he,?_⟩)
   exact LP.mono (hi.loop hl hok (by rw[q3];exact hrd) q1) fun e a2 w2 ⟨he,hto⟩=>⟨he,To.trans q2 q3 q4 hto⟩
  ·rename_i hne
   refine LP.step (wpIn_mono (hi.code hl hok hrd hst) fun e a1 w1 ⟨he,hto⟩=>.inr ⟨?_,he,hto⟩)
   rw[he]
   cases x with
   |n=>exact absurd hl (hne _)
   |r=>simp[exOf]
   |e j=>simp[exOf]
theorem o_cP (hC:OKC P C)(hi:Sd P C ih)(hd:DrOk P C ih)(hm:MlOk P C ih){c:Code}{x:X}(hl:fCode C ih s c=some (.code x s'))(hok:okD n c=true)(hrd:r.isSome=s.rd)(hst:St P w0 ρ n s a w):
  WP r P c (fun e a' w'=>e=exOf x/\To P w0 ρ n s w s' a' w') a w:=by
 have here:To P w0 ρ n s w s a w:=⟨ρ,hst,Tr.refl _ _ _ _ _,rfl,rfl⟩
 unfold fCode at hl
 split at hl
 ·simp only[Qc,Rs.code.injEq]at hl
  obtain⟨rfl,rfl⟩:=hl
  exact wpIn_skip ⟨rfl,here⟩
 ·simp only[Qc,Rs.code.injEq]at hl
  obtain⟨rfl,rfl⟩:=hl
  exact wpIn_label ⟨rfl,here⟩
 ·rename_i id ops d
  unfold nrm at hl
  split at hl
  ·rename_i s1 h1
   simp only[Qc,Rs.code.injEq]at hl
   obtain⟨rfl,rfl⟩:=hl
   cases d with
   |true=>exact hd h1 hok hrd hst
   |false=>
    have hok:(ops.toList.all fun o=>match o.dst with|some d=>Nat.blt d n|none=>true)=true:=hok
    have hdst: ∀o∈ops.toList,∀d,o.dst=some d->d<n:=fun o ho d hod=>by
     have:=Qx.1 hok o ho
     rw[hod]at this
     exact Qi this
    have:=Z.reg (r:=r) (P:=P) (id:=id) (lo:=ops.toList) (Q:=fun e a' w'=>e=exOf .n/\To P w0 ρ n s w s1 a' w') (a:=a) (w:=w)
    rw[Q4]at this
    exact this (o_a0 hC hi ops.toList h1 hdst hrd hst fun a' w' hto=>⟨rfl,hto⟩)
  ·cases hl
 ·rename_i c1 c2
  have hok:(okD n c1&&okD n c2)=true:=hok
  rw[Qe]at hok
  unfold cSeq at hl
  split at hl
  ·rename_i s1 h1
   refine seqn fun Q' hn _=>wpIn_mono (hi.code h1 hok.1 hrd hst) fun e a1 w1 ⟨he,ρ1,q1,q2,q3,q4⟩=>?_
   rw[he]
   exact hn _ _ (wpIn_mono (hi.code hl hok.2 (by rw[q3];exact hrd) q1) fun e a2 w2 ⟨he,hto⟩=>⟨he,To.trans q2 q3 q4 hto⟩)
  ·rename_i hne
   refine seqn fun Q' _ hx=>wpIn_mono (hi.code hl hok.1 hrd hst) fun e a1 w1 ⟨he,hto⟩=>hx _ _ _ ?_ ⟨he,hto⟩
   rw[he]
   cases x with
   |n=>exact absurd hl (hne _)
   |r=>simp[exOf]
   |e j=>simp[exOf]
 ·rename_i y c1 c2
  have hok:(okD n c1&&okD n c2)=true:=hok
  rw[Qe]at hok
  unfold cCond at hl
  split at hl
  ·rename_i v hv
   split at hl
   ·rename_i t ht
    obtain⟨u,h1,h2⟩:=o_a hst.fe hv
    rw[V.bool?_eq ht]at h1
    rw[cv_k h1]at h2
    cases t with
    |true=>exact wpIn_cond_true h2 (hi.code hl hok.1 hrd hst)
    |false=>exact wpIn_cond_false h2 (hi.code hl hok.2 hrd hst)
   ·cases hl
  ·cases hl
 ·rename_i id c1
  unfold cBlock at hl
  split at hl
  ·rename_i j s1 h1
   unfold blk at hl
   cases hb:Nat.beq j id with
   |true=>
    have:=Ql hb
    subst this
    rw[hb,cond_true]at hl
    simp only[Qc,Rs.code.injEq]at hl
    obtain⟨rfl,rfl⟩:=hl
    exact blockn fun Q' _ hx _=>wpIn_mono (hi.code h1 hok hrd hst) fun e a1 w1 ⟨he,hto⟩=>by rw[he];exact hx _ _ ⟨rfl,hto⟩
   |false=>
    rw[hb,cond_false]at hl
    simp only[Qc,Rs.code.injEq]at hl
    obtain⟨rfl,rfl⟩:=hl
    refine blockn fun Q' _ _ hx=>wpIn_mono (hi.code h1 hok hrd hst) fun e a1 w1 ⟨he,hto⟩=>hx _ _ _ ?_ ?_ ⟨he,hto⟩
    ·rw[he];simp[exOf]
    ·rw[he];simp only[exOf,ne_eq,Exit.exit.injEq];rintro rfl;simp at hb
  ·rename_i hne
   cases x with
   |n=>exact blockn fun Q' hn _ _=>wpIn_mono (hi.code hl hok hrd hst) fun e a1 w1 ⟨he,hto⟩=>by rw[he];exact hn _ _ ⟨rfl,hto⟩
   |r=>exact blockn fun Q' _ _ hx=>wpIn_mono (hi.code hl hok hrd hst) fun e a1 w1 ⟨he,hto⟩=>hx _ _ _ (by rw[he];simp[exOf]) (by rw[he];simp[exOf]) ⟨he,hto⟩
   |e j=>exact absurd hl (hne _ _)
 ·exact scopeR (hi.code hl hok hrd hst) fun l a' w' ⟨he,_⟩=>by cases x<;>cases he
 ·exact LP.loop (o_bX hC hi hm hl hok hrd hst)
 ·simp only[Qc,Rs.code.injEq]at hl
  obtain⟨rfl,rfl⟩:=hl
  exact wpIn_exit ⟨rfl,here⟩
 ·simp only[Qc,Rs.code.injEq]at hl
  obtain⟨rfl,rfl⟩:=hl
  exact wpIn_ret ⟨rfl,here⟩
 ·exact o_dB hC hi hl hok hrd hst
 ·cases hl
theorem Sd.succ (hC:OKC P C)(hi:Sd P C ih)(hd:DrOk P C ih)(hm:MlOk P C ih):Sd P C (F C ih) where
 code h1 _ _ _ _ _ _ hok hrd hst:=o_cP hC hi hd hm h1 hok hrd hst
 loop h1 _ _ _ _ _ _ hok hrd hst:=o_bX hC hi hm h1 hok hrd hst
 call h1 _ _ _ _ _ hr hfl hf hv:=o_cO hC hi h1 hr hfl hf hv
 dcall h1 _ _ _ _ _ hr hfl hf hv:=o_cM hC hi h1 hr hfl hf hv
theorem Sd.ai (hC:OKC P C)(hd: ∀ih,Sd P C ih->DrOk P C ih)(hm: ∀ih,Sd P C ih->MlOk P C ih): ∀n,Sd P C (ai C n)
 |0=>⟨(fun h=>by cases h),(fun h=>by cases h),(fun h=>by cases h),(fun h=>by cases h)⟩
 |n+1=>(Sd.ai hC hd hm n).succ hC (hd _ (Sd.ai hC hd hm n)) (hm _ (Sd.ai hC hd hm n))
end
section
variable {P:Program}{C:Cx}{ih:Job->Option Rs}{w0:World}{ρ:Rho}{n:Nat}{s s':S}{a:Act}{w w':World}{r:Option Nat}{v:V}{h:T O}{nx fl:Nat}{Q:Exit->Act->World->Prop}
theorem run_over {g b since last c:Nat}{seen:Array Nat}{arr:Array MapEntry}(hg:w.heap[g]?=some (.mapIter (some b) since seen last))(hb:w.heap[b]?=some (.map arr c))(h1: ∀e∈arr.toList,e.born<last)(h2: ∀e∈arr.toList,e.born∈seen.toList)(ty:TypeId):
  (Instr.next (.pointer (some ⟨g,0,none⟩)) false ty).run P w=.ok (.tuple #[.bool false]) w:=by
 have hgetg:=run_getObj' (P:=P) hg (fun _ _ _ h=>by cases h)
 have hgetb:=run_getObj' (P:=P) hb (fun _ _ _ h=>by cases h)
 have htest:=next_test_false seen arr last last h1 (Qo _)
 have hL:(arr.filter fun e=> !seen.contains e.born)=#[]:=by
  rw[Y5]
  intro x hx
  have:=h2 x (by simpa using hx)
  simpa using this
 simp only[Instr.next,Sem.run_bind,hgetg,Result.andThen_ok,hgetb,htest,Wo,Wu,hL]
 simp[Question.forced]
theorem run_step {g b c:Nat}{sb:Array Nat}{arr:Array MapEntry}(hg:w.heap[g]?=some (.mapIter (some b) c sb c))(hb:w.heap[b]?=some (.map arr c))(h1: ∀e∈arr.toList,e.born<c)(ty:TypeId):
  ((∀e∈arr.toList,e.born∈sb.toList)/\(Instr.next (.pointer (some ⟨g,0,none⟩)) false ty).run P w=.ok (.tuple #[.bool false]) w)\/
  ∃(e:MapEntry) (w1:World),e∈arr.toList/\e.born∉sb.toList/\w1.heap=w.heap/\w1.os=w.os/\w1.tape=w.tape/\w1.output=w.output/\(Instr.next (.pointer (some ⟨g,0,none⟩)) false ty).run P w=.ok (.tuple #[.bool true,e.key,e.val]) (w1.putObj g (.mapIter (some b) c (sb.push e.born) c)):=by
 have hgetg:=run_getObj' (P:=P) hg (fun _ _ _ h=>by cases h)
 have hgetb:=run_getObj' (P:=P) hb (fun _ _ _ h=>by cases h)
 have htest:=next_test_false sb arr c c h1 (Qo _)
 obtain⟨L,hL⟩: ∃L,L=arr.filter fun e=> !sb.contains e.born:=⟨_,rfl⟩
 have hLm: ∀e,e∈L.toList↔e∈arr.toList/\e.born∉sb.toList:=fun e=>by rw[hL];simp
 have e1:L.filter (fun x=>decide (x.born<c))=L:=Array.filter_eq_self.2 (fun x hx=>by have:=(hLm x).1 (by simpa using hx);simpa using h1 x this.1)
 have e2:L.filter (fun x=>decide (x.born≥c))=#[]:=by
  rw[Y5]
  intro x hx
  have:=h1 x ((hLm x).1 (by simpa using hx)).1
  simp;omega
 by_cases h0:L.size=0
 ·left
  have hLe:L=#[]:=Array.eq_empty_of_size_eq_zero h0
  have hall: ∀e∈arr.toList,e.born∈sb.toList:=fun e he=>Y6 fun hn=>by
   have:=(hLm e).2 ⟨he,hn⟩
   rw[hLe]at this;simp at this
  exact⟨hall,run_over hg hb h1 hall ty⟩
 ·right
  have hie:L.isEmpty=false:=by simp[Array.isEmpty,h0]
  have hj: ∃j,j<L.size/\∃w1:World,(choose (.mapNext L.size)).run P w=.ok j w1/\(w1=w\/w1=w.drew):=by
   rw[run_choose_drew]
   by_cases hfo:(Question.mapNext L.size).forced=true
   ·rw[Qj hfo];exact⟨0,by omega,w,rfl,.inl rfl⟩
   ·rw[Qd hfo];exact⟨_,Ja _ (by omega),_,rfl,.inr rfl⟩
  obtain⟨j,hjl,w1,hch,hw1⟩:=hj
  obtain⟨e,he⟩: ∃e,L[j]?=some e:=⟨_,Q3 hjl⟩
  have heL:e∈L.toList:=by have:=Qt (l:=L.toList) (i:=j) (by rw[Wh];exact he);exact this
  obtain⟨hea,hen⟩:=(hLm e).1 heL
  have hheap:w1.heap=w.heap:=by rcases hw1 with rfl|rfl<;>rfl
  have hc1:Ch [] w w1:=by rcases hw1 with rfl|rfl;exact Ch.refl _;exact Ch.drew _
  have hset:(setObj g (.mapIter (some b) c (sb.push e.born) c)).run P w1=.ok () (w1.putObj g (.mapIter (some b) c (sb.push e.born) c)):=by
   simp[setObj,Sem.run,World.putObj,hheap,hg]
  refine⟨e,w1,hea,hen,hheap,by rcases hw1 with rfl|rfl<;>rfl,by rcases hw1 with rfl|rfl<;>rfl,by rcases hw1 with rfl|rfl<;>rfl,?_⟩
  simp only[Instr.next,Sem.run_bind,hgetg,Result.andThen_ok,hgetb,htest,Wo,Wu,<-hL,e1,e2,hie,Array.append_empty,Array.empty_append,Array.size_map,hch,Array.getElem?_map,he,Q7,hset,Sem.run_pure]
theorem HR.grow (hr:HR P w0 ρ h nx w)(hs:w.heap.size<=w'.heap.size)(hn: ∀i o x,h.get i=some o->ρ i=some x->w'.heap[x.b]?=w.heap[x.b]?)(hben: ∀b,b<w.heap.size->Ben w w' b)(hbase: ∀k,k<w0.heap.size->w'.heap[k]?=w.heap[k]?)
  (h1:w'.os=w.os) (h2:w'.tape=w.tape) (h3:w'.output=w.output):HR P w0 ρ h nx w':=
 ⟨fun i o hi=>by
  obtain⟨g1,x,g2,g3,g4,g5⟩:=hr.live i o hi
  exact⟨g1,x,g2,g3,Qq g4 hs,OR.keep (Le.refl _) hs (hn i o x hi g2) hben g5⟩,hr.inj,hr.top,fun k hk=>(hbase k hk).trans (hr.base k hk),Wd hr.size hs,h1.trans hr.os,h2.trans hr.tape,h3.trans hr.output⟩
theorem nextIt_eq {b:Code}{N:Nx}(hl:Qfo b=some N): ∃id ops T pos af,b=.seq (.region id ops false) N.c/\ops.toList=⟨some N.d,.next N.x false,T,pos,af,none⟩::N.r/\N.all=ops.toList:=by
 unfold Qfo at hl
 split at hl
 ·rename_i id ops c
  unfold nextOp at hl
  split at hl
  ·rename_i d x T pos af r hops
   injection hl with hl;subst hl
   exact⟨id,ops,T,pos,af,rfl,hops,rfl⟩
  ·cases hl
 ·cases hl
theorem isNext_eq {b:Code}{N:Nx}{i m c:Nat}{es:List (V×V)}(hl:isNext b s=some (N,i,m,c,es)):Qfo b=some N/\opd s.env N.x=some (.q i)/\s.h.get i=some (.q m c .fresh)/\∃p,s.h.get m=some (.m es c p):=by
 unfold isNext at hl
 split at hl
 ·rename_i N' hN
  split at hl
  ·rename_i v hv
   split at hl
   ·rename_i i' hi
    split at hl
    ·rename_i m' c' hf
     split at hl
     ·rename_i es' c2 hm
      obtain⟨hb,h1⟩:=Qaa hl
      clear hl
      have hb:=Ql hb
      subst hb
      simp only[Qc,Qr]at h1
      obtain⟨rfl,rfl,rfl,rfl,rfl⟩:=h1
      refine⟨hN,by rw[hv,V.it?_eq hi],?_,Qeq hm⟩
      unfold freshAt at hf
      split at hf
      ·rename_i hg;simp only[Qc,Qr]at hf;obtain⟨rfl,rfl⟩:=hf;exact hg
      ·cases hf
     ·cases hl
    ·cases hl
   ·cases hl
  ·cases hl
 ·cases hl
theorem o_bt (hC:OKC P C)(hi:Sd P C ih){b:Code}{N:Nx}{g:Nat}{u:Value}{x:X}(hN:Qfo b=some N)(hx:a.eval N.x=.pointer (some ⟨g,0,none⟩))(hn: ∀ty,(Instr.next (.pointer (some ⟨g,0,none⟩)) false ty).run P w=.ok u w')
  (hl:round0 C ih N s v=some (.code x s')) (hu:cv ρ v=some u) (hst:St P w0 ρ n s a w') (hok:okD n b=true) (hrd:r.isSome=s.rd):WP r P b (fun e a' w2=>e=exOf x/\To P w0 ρ n s w' s' a' w2) a w:=by
 obtain⟨id,ops,T,pos,af,rfl,hops,hall⟩:=nextIt_eq hN
 have hok:((ops.toList.all fun o=>match o.dst with|some d=>Nat.blt d n|none=>true)&&okD n N.c)=true:=hok
 rw[Qe]at hok
 have hdst: ∀o∈ops.toList,∀d,o.dst=some d->d<n:=fun o ho d hod=>by
  have:=Qx.1 hok.1 o ho
  rw[hod]at this
  exact Qi this
 unfold round0 roundC at hl
 split at hl
 ·rename_i s1 h1
  rw[hall]at h1
  refine seqn fun Q' hnm _=>?_
  have:=Z.reg (r:=r) (P:=P) (id:=id) (lo:=ops.toList) (Q:=Q') (a:=a) (w:=w)
  rw[Q4]at this
  refine this ?_
  rw[hops]
  unfold WL wpListIn
  rw[show Region.wanted ⟨some N.d,.next N.x false,T,pos,af,none⟩ (yielded ops a.tmps)=true from rfl,Qj rfl]
  refine Qbi (x:=.value u) (w':=w') ?_ (fun _ h=>by cases h) ?_
  ·simp only[execOp,hx,Sem.run_bind,hn,Result.andThen_ok,Sem.run_pure]
  ·have hd:N.d<n:=hdst _ (by rw[hops];exact Qg ..) N.d rfl
   have hst1:St P w0 ρ n (s.up N.d v) (a.put (some N.d) u) w':=⟨hst.fe.put hd hu,hst.ds,hst.hr,hst.fl⟩
   refine o_a0 hC hi N.r h1 (fun o ho=>hdst o (by rw[hops];exact Qf _ ho)) hrd hst1 fun a1 w1 ⟨ρ1,q1,q2,q3,q4⟩=>hnm _ _ ?_
   exact wpIn_mono (hi.code hl hok.2 (by rw[q3];exact hrd) q1) fun e a2 w2 ⟨he,hto⟩=>⟨he,To.trans q2 q3 q4 hto⟩
 ·cases hl
theorem left_eq {o:Option Rs}{x:X}(hl:left o=some (.code x s')):o=some (.code x s')/\exOf x≠ .normal:=by
 unfold left at hl
 split at hl
 ·rename_i x' s1
  split at hl
  ·cases hl
  ·rename_i hx
   simp only[Qc,Rs.code.injEq]at hl
   obtain⟨rfl,rfl⟩:=hl
   refine⟨rfl,?_⟩
   cases x' with
   |n=>exact absurd rfl hx
   |r=>simp[exOf]
   |e j=>simp[exOf]
 ·cases hl
theorem o_bu (hC:OKC P C)(hi:Sd P C ih){b:Code}{N:Nx}{i g:Nat}{x:X}(hN:Qfo b=some N)(hx:a.eval N.x=.pointer (some ⟨g,0,none⟩))(hn: ∀ty,(Instr.next (.pointer (some ⟨g,0,none⟩)) false ty).run P w=.ok (.tuple #[.bool false]) w)
  (hl:finL C ih N s i=some (.code x s')) (hst:St P w0 ρ n (s.seth (s.h.del i)) a w) (hok:okD n b=true) (hrd:r.isSome=s.rd):LP r P b (fun e a' w2=>e=exOf x/\To P w0 ρ n (s.seth (s.h.del i)) w s' a' w2) a w:=by
 obtain⟨h1,h2⟩:=left_eq hl
 have hu:cv ρ (.t [bo false])=some (.tuple #[.bool false]):=cv_t_mk (Qad (Qba false) (by unfold cvl;rfl))
 exact LP.step (wpIn_mono (o_bt hC hi hN hx hn h1 hu hst hok hrd) fun e a' w2 ⟨he,hto⟩=>.inr ⟨by rw[he];exact h2,he,hto⟩)
end
section
variable {P:Program}{C:Cx}{ih:Job->Option Rs}{w0:World}{ρ:Rho}{n:Nat}{s s':S}{a:Act}{w w':World}{r:Option Nat}{v:V}{h:T O}{nx fl:Nat}
theorem vB_refl {u:Value}(h:Qid u=true):vB u u=true:=by cases u<;>first|(cases h;done)|simp[vB]
theorem o_cz {x y:V}{u v:Value}(h:ne0 x y=true)(hu:cv ρ x=some u)(hv:cv ρ y=some v):u≠v:=by
 unfold ne0 at h
 split at h
 ·rename_i p q
  rw[Qe,Qe]at h
  rw[cv_k hu,cv_k hv]
  rintro rfl;rw[vB_refl h.1.1]at h
  cases h.2
 ·cases h
theorem o_cA: ∀{x y:List V} {us vs:List Value},neL x y=true->cvc ρ x=some us->cvc ρ y=some vs->us≠vs
 | [],_,_,_,h,_,_=>by cases h
 |_::_,[],_,_,h,_,_=>by cases h
 |a::x,b::y,us,vs,h,hu,hv=>by
  obtain⟨p,us',rfl,_,h1,h2⟩:=Qap hu
  obtain⟨q,vs',rfl,_,h3,h4⟩:=Qap hv
  have h:(ne0 a b||neL x y)=true:=h
  rw[Xz]at h
  rcases h with h|h
  ·intro e;injection e with e1 e2;exact o_cz h h1 h3 e1
  ·intro e;injection e with e1 e2;exact o_cA h h2 h4 e2
theorem o_dC {x y:V}{u v:Value}(h:neK x y=true)(hu:cv ρ x=some u)(hv:cv ρ y=some v):u≠v:=by
 unfold neK at h
 split at h
 ·obtain⟨us,h1,rfl⟩:=cv_g hu
  obtain⟨vs,h2,rfl⟩:=cv_g hv
  intro e;injection e with e
  exact o_cA h h1 h2 (List.toArray_inj e)
 ·exact o_cz h hu hv
theorem o_cX: ∀{es:List (V×V)} {ks:List (Value×Value)},dk es=true->cvp ρ es=some ks->(ks.map (·.1)).Nodup
 | [],ks,_,h=>by rw[Qce h];exact Ji
 |(k,v)::es,ks,hd,h=>by
  obtain⟨a,b,m,rfl,h1,_,h3⟩:=Qaw h
  have hd:(es.all (fun y=>neK k y.1)&&dk es)=true:=hd
  rw[Qe]at hd
  rw[Qz,Wv]
  refine⟨fun hm=>?_,o_cX hd.2 h3⟩
  obtain⟨p,hp,hpe⟩:=Wx.1 hm
  obtain⟨y,hy,g1,_⟩:=cvp_mem h3 p hp
  exact o_dC (Qx.1 hd.1 y hy) h1 g1 hpe.symm
theorem key_born {arr:List MapEntry}(h:(arr.map (·.key)).Nodup){e e':MapEntry}(he:e∈arr)(he':e'∈arr)(hk:e'.key=e.key):e'=e:=by
 obtain⟨i,hi⟩:=Wr.1 he
 obtain⟨j,hj⟩:=Wr.1 he'
 have hil:=(Qb.1 hi).1
 have hjl:=(Qb.1 hj).1
 have:=(Jo h (i:=j) (j:=i) (h₀:=by simpa using hjl) (h₁:=by simpa using hil)).1 (by
  simp only[Jm]
  rw[(Qb.1 hj).2,(Qb.1 hi).2];exact hk)
 subst this
 rw[hi]at hj;injection hj with hj;exact hj.symm
theorem o_cQ {x y:Option V}{v:V}(h:sameO x y=true)(hx:x=some v):y=some v:=by
 subst hx
 unfold sameO at h
 split at h
 ·rename_i a ha
  injection ha with ha;subst ha
  split at h
  ·rw[Qdt _ _ h]
  ·cases h
 ·rename_i ha;cases ha
theorem o_bY {e0 e2:Env}: ∀{e:Env},envLe e0 e2 e=true->∀d v,e.get d=some v->sameO (e0.get d) (e2.get d)=true
 | .o,_,d,v,h=>by cases h
 | .c t u e,hl,d,v,h=>by
  have hl:(sameO (e0.get t) (e2.get t)&&envLe e0 e2 e)=true:=hl
  rw[Qe]at hl
  rw[Env.get_c]at h
  split at h
  ·rename_i e1;subst e1;exact hl.1
  ·exact o_bY hl.2 d v h
theorem HR.at (hr:HR P w0 ρ h nx w){i:Nat}{o o':O}{x:Pl}(hi:h.get i=some o)(hx:ρ i=some x)(hs:w.heap.size<=w'.heap.size)(hw: ∀k,k<w.heap.size->k≠x.b->w'.heap[k]?=w.heap[k]?)(h1:w'.os=w.os)(h2:w'.tape=w.tape)(h3:w'.output=w.output)
  (hben:Ben w w' x.b) (ho:OR P ρ w' x o'):HR P w0 ρ (h.set i o') nx w':=by
 obtain⟨hin,x',hx',hlo,hhi,_⟩:=hr.live i o hi
 rw[hx]at hx'
 injection hx' with hx'
 subst hx'
 have hbenAll: ∀b,b<w.heap.size->Ben w w' b:=fun b hb2=>by
  by_cases hb:b=x.b
  ·subst hb;exact hben
  ·exact Ben.of_eq (hw b hb2 hb)
 refine⟨fun j p hj=>?_,fun j k p q y z hj hk hy hz e1=>?_,hr.top,fun k hk=>(hw k (by have:=hr.size;omega) (by omega)).trans (hr.base k hk),by have:=hr.size;omega,h1.trans hr.os,h2.trans hr.tape,h3.trans hr.output⟩
 ·rw[T.get_set]at hj
  split at hj
  ·rename_i e1
   subst e1
   injection hj with hj
   subst hj
   exact⟨hin,x,hx,hlo,by omega,ho⟩
  ·rename_i e1
   obtain⟨g1,y,g2,g3,g4,g5⟩:=hr.live j p hj
   refine⟨g1,y,g2,g3,by omega,OR.keep (Le.refl _) (by omega) (hw y.b g4 fun e2=>e1 (hr.inj j i p o y x hj hi g2 hx e2)) hbenAll g5⟩
 ·have real: ∀{l r},(h.set i o').get l=some r->∃r',h.get l=some r':=fun {l r} hl=>by
   rw[T.get_set]at hl
   split at hl
   ·rename_i e2;subst e2;exact⟨o,hi⟩
   ·exact⟨r,hl⟩
  obtain⟨p',hj'⟩:=real hj
  obtain⟨q',hk'⟩:=real hk
  exact hr.inj j k p' q' y z hj' hk' hy hz e1
structure Wk (w:World) (g b c:Nat) (sb:Array Nat) (W:World):Prop where
 size:w.heap.size<=W.heap.size
 same: ∀k,k<w.heap.size->k≠g->W.heap[k]?=w.heap[k]?
 it:W.heap[g]?=some (.mapIter (some b) c sb c)
 os:W.os=w.os
 tape:W.tape=w.tape
 output:W.output=w.output
theorem Wk.ben {g b c:Nat}{sb:Array Nat}{W:World}(hk:Wk w g b c sb W): ∀k,k<w.heap.size->Ben w W k:=fun k hk2=>by
 by_cases hg:k=g
 ·subst hg
  intro arr' c' ha
  rw[hk.it]at ha;injection ha with ha;cases ha
 ·exact Ben.of_eq (hk.same k hk2 hg)
theorem Wk.del {g b c:Nat}{sb:Array Nat}{W:World}(hk:Wk w g b c sb W)(hr:HR P w0 ρ h nx w){i:Nat}{o:O}{x:Pl}(hi:h.get i=some o)(hx:ρ i=some x)(hg:x.b=g):HR P w0 ρ (h.del i) nx W:=by
 obtain⟨_,x',hx',hlo,hhi,_⟩:=hr.live i o hi
 rw[hx]at hx';injection hx' with hx';subst hx'
 refine(hr.del i).grow hk.size (fun j p y hj hy=>?_) hk.ben (fun k hk2=>hk.same k (by have:=hr.size;omega) (by omega)) hk.os hk.tape hk.output
 rw[T.get_del]at hj
 split at hj
 ·cases hj
 ·rename_i hne
  obtain⟨_,y',hy',_,g4,_⟩:=hr.live j p hj
  rw[hy]at hy';injection hy' with hy';subst hy'
  exact hk.same _ g4 fun e=>hne (hr.inj j i p o y x hj hi hy hx (e.trans hg.symm))
theorem Wk.trDel {g b c:Nat}{sb:Array Nat}{W:World}(hk:Wk w g b c sb W)(hr:HR P w0 ρ h nx w){i:Nat}{o:O}{x:Pl}(hi:h.get i=some o)(hx:ρ i=some x)(hg:x.b=g)(hfl:fl<=i):Tr ρ h nx w ρ (h.del i) nx W fl:=
 ⟨Le.refl _,Qo _,hk.size,fun k hk2 hn=>hk.same k hk2 fun e=>hn i o x hi hx (hg.trans e.symm),fun j p y hj hy _=>by
  rw[T.get_del]at hj
  split at hj
  ·cases hj
  ·exact⟨j,p,y,hj,hy,rfl⟩,fun j hj=>by rw[T.get_del,Qd (by omega)],fun j p y hj h1 h2=>by
   obtain⟨_,y',hy',_,g4,_⟩:=hr.live j p h1
   rw[h2]at hy';injection hy' with hy';subst hy'
   exact hk.same _ g4 fun e=>by have:=hr.inj j i p o y x h1 hi h2 hx (e.trans hg.symm);omega,fun _ _ h=>h⟩
theorem Wk.cur {c:Nat}{sb:Array Nat}{W:World}{i m:Nat}{o:O}{x y:Pl}{k:V}{al:Bool}{e:MapEntry}{arr:Array MapEntry}(hk:Wk w x.b y.b c (sb.push e.born) W)(hr:HR P w0 ρ h nx w)(hi:h.get i=some o)(hx:ρ i=some x)(hy:ρ m=some y)(hyb:y.b<w.heap.size)(hne:y.b≠x.b)
  (harr:w.heap[y.b]?=some (.map arr c)) (hcv:cv ρ k=some e.key) (hd: ∀e'∈arr.toList,e'.key=e.key->e'.born=e.born) (hal:al=true->∀e'∈arr.toList,e'.born∈(sb.push e.born).toList) (hxl:x.b<w.heap.size):
  HR P w0 ρ (h.set i (.q m c (.cur k al))) nx W:=by
 refine hr.at hi hx hk.size hk.same hk.os hk.tape hk.output (hk.ben x.b hxl) ⟨y,c,sb.push e.born,hy,Qq hyb hk.size,hk.it,(fun h=>by cases h),fun k' al' e1=>?_⟩
 injection e1 with e1 e2
 subst e1;subst e2
 refine⟨e.born,e.key,by simp,hcv,fun arr2 c2 ha=>?_⟩
 rw[hk.same _ hyb hne,harr]at ha
 injection ha with ha
 injection ha with ha1 ha2
 subst ha1;subst ha2
 exact⟨Qo _,fun _=>⟨hd,hal⟩⟩
theorem Wk.trCur {g b c:Nat}{sb:Array Nat}{W:World}(hk:Wk w g b c sb W)(hr:HR P w0 ρ h nx w){i:Nat}{o o':O}{x:Pl}(hi:h.get i=some o)(hx:ρ i=some x)(hg:x.b=g)(hfl:fl<=i):Tr ρ h nx w ρ (h.set i o') nx W fl:=
 ⟨Le.refl _,Qo _,hk.size,fun k hk2 hn=>hk.same k hk2 fun e=>hn i o x hi hx (hg.trans e.symm),fun j p y hj hy _=>by
  rw[T.get_set]at hj
  split at hj
  ·rename_i e2;subst e2;exact⟨j,o,y,hi,hy,rfl⟩
  ·exact⟨j,p,y,hj,hy,rfl⟩,fun j hj=>T.get_set_other h o' (by omega),fun j p y hj h1 h2=>by
   obtain⟨_,y',hy',_,g4,_⟩:=hr.live j p h1
   rw[h2]at hy';injection hy' with hy';subst hy'
   exact hk.same _ g4 fun e=>by have:=hr.inj j i p o y x h1 hi h2 hx (e.trans hg.symm);omega,fun _ _ h=>h⟩
theorem Tr.all {W W':World}{ρ':Rho}{h':T O}{nx':Nat}(ht:Tr ρ h nx W ρ' h' nx' W' nx)(hr:HR P w0 ρ h nx W): ∀k,k<W.heap.size->W'.heap[k]?=W.heap[k]?:=fun k hk=>by
 by_cases hex: ∃i o x,h.get i=some o/\ρ i=some x/\x.b=k
 ·obtain⟨i,o,x,h1,h2,rfl⟩:=hex
  exact ht.old i o x (hr.live i o h1).1 h1 h2
 ·exact ht.keep k hk fun i o x h1 h2 e=>hex ⟨i,o,x,h1,h2,e⟩
end
section
variable {P:Program}{C:Cx}{ih:Job->Option Rs}{w0:World}{ρ:Rho}{n:Nat}{s s':S}{a:Act}{w w':World}{r:Option Nat}{v:V}{h:T O}{nx fl:Nat}
theorem itOf_eq {N:Nx}{i:Nat}(hl:itOf N s=some i):opd s.env N.x=some (.q i):=by
 unfold itOf at hl
 split at hl
 ·rename_i v hv;rw[hv,V.it?_eq hl]
 ·cases hl
theorem Qhl {o:Option Rs}{s2:S}(hl:roundR o=some s2):o=some (.code .n s2):=by
 unfold roundR at hl
 split at hl
 ·injection hl with hl;subst hl;rfl
 ·cases hl
theorem lastQ_eq {i m c:Nat}(hl:lastQ h i=some (m,c)): ∃k,h.get i=some (.q m c (.cur k true)):=by
 unfold lastQ at hl
 split at hl
 ·rename_i m' c' k hg;simp only[Qc,Qr]at hl;obtain⟨rfl,rfl⟩:=hl;exact⟨k,hg⟩
 ·cases hl
theorem Qfm: ∀(l:List Nat) (e:Env) (d:Nat) (v:V),(delAll e l).get d=some v->e.get d=some v
 | [],_,_,_,h=>h
 |t::l,e,d,v,h=>(Env.get_del t e d v (Qfm l (e.del t) d v h)).1
theorem filter_lt {α:Type}{p q:α->Bool}: ∀{l:List α},(∀x∈l,p x=true->q x=true)->(∃x∈l,q x=true/\p x=false)->(l.filter p).length <(l.filter q).length
 | [],_,⟨x,hx,_⟩=>by cases hx
 |y::l,h1,⟨x,hx,hq,hp⟩=>by
  have hle: ∀{m:List α},(∀x∈m,p x=true->q x=true)->(m.filter p).length<=(m.filter q).length:=fun {m}=>by
   induction m with
   |nil=>intro _;simp
   |cons z m ih=>
    intro hz
    have h2:=ih fun x hx=>hz x (Qf _ hx)
    have h3:=hz z (Qg ..)
    cases hpz:p z with
    |true=>simp[hpz,h3 hpz,h2]
    |false=>cases hqz:q z<;>simp[hpz,hqz]<;>omega
  have ht:=hle (m:=l) fun x hx=>h1 x (Qf _ hx)
  rcases Qk.1 hx with rfl|hx
  ·simp[hq,hp];omega
  ·have h2:=filter_lt (l:=l) (fun x hx=>h1 x (Qf _ hx)) ⟨x,hx,hq,hp⟩
   have h3:=h1 y (Qg ..)
   cases hpy:p y with
   |true=>simp[hpy,h3 hpy];omega
   |false=>cases hqy:q y<;>simp[hpy,hqy]<;>omega
theorem o_bG {N:Nx}{i m c:Nat}: ∀{es:List (V×V)},rounds C ih N s i m c es=true->∀y∈es,∃s2,round1 C ih N ⟨s.env,s.ds,s.h,s.nx,s.rd,s.nx⟩ i m c false y.1 y.2=some (.code .n s2)/\s.ds=[]/\s2.ds=[]/\envLe s.env s2.env s.env=true
 | [],_,_,hy=>by cases hy
 |(k,v)::es,hl,y,hy=>by
  unfold rounds at hl
  split at hl
  ·rename_i s2 h1
   rw[Qe,Qe,Qe]at hl
   obtain⟨⟨⟨g1,g2⟩,g3⟩,g4⟩:=hl
   rcases Qk.1 hy with rfl|hy
   ·exact⟨s2,Qhl h1,Jn.1 g1,Jn.1 g2,g3⟩
   ·exact o_bG g4 y hy
  ·cases hl
theorem Wk.step {g b c:Nat}{sb:Array Nat}{W w1:World}(hk:Wk w g b c sb W)(h1:w1.heap=W.heap)(h2:w1.os=W.os)(h3:w1.tape=W.tape)(h4:w1.output=W.output)(e:MapEntry):Wk w g b c (sb.push e.born) (w1.putObj g (.mapIter (some b) c (sb.push e.born) c)):=by
 have hg:=(Qp.1 hk.it).1
 refine⟨by simp[h1];exact hk.size,fun k hk2 hn=>?_,World.putObj_heap_same (by rw[h1];exact hg),h2.trans hk.os,h3.trans hk.tape,h4.trans hk.output⟩
 rw[World.putObj_heap_other hn,h1]
 exact hk.same k hk2 hn
theorem cv3 {k v:V}{x y:Value}(h1:cv ρ k=some x)(h2:cv ρ v=some y):cv ρ (.t [bo true,k,v])=some (.tuple #[.bool true,x,y]):=cv_t_mk (Qad (Qba true) (Qad h1 (Qad h2 (by unfold cvl;rfl))))
theorem mlOk (hC:OKC P C)(hi:Sd P C ih):MlOk P C ih:=by
 intro b s s' x N i m c es hN hfl hl w0 ρ n a w r hok hrd hst
 obtain⟨hnx,hx,hq,p,hm⟩:=isNext_eq hN
 have hfi:=Qas hfl
 obtain⟨_,xi,hxi,_,hxb,y,since,seen,hy,hyb,hit,hfr,_⟩:=hst.hr.live i _ hq
 obtain⟨rfl,rfl⟩:=hfr rfl
 obtain⟨_,y',hy',_,_,ks,arr,hks,harr,hperm,hnod,hborn,_⟩:=hst.hr.live m _ hm
 rw[hy]at hy';injection hy' with hy';subst hy'
 have hne:y.b≠xi.b:=fun e=>by rw[e,hit]at harr;injection harr with harr;cases harr
 have evx: ∀{e:Env} {a:Act},Fe ρ e n a->opd e N.x=some (.q i)->a.eval N.x=.pointer (some ⟨xi.b,0,none⟩):=fun hf ho=>by
  obtain⟨u,h1,h2⟩:=o_a hf ho
  obtain⟨x',h3,rfl⟩:=cv_q h1
  rw[hxi]at h3;injection h3 with h3;subst h3
  exact h2
 have hk0:Wk w xi.b y.b since #[] w:=⟨Qo _,fun _ _ _=>rfl,hit,rfl,rfl,rfl⟩
 have memk: ∀e∈arr.toList,∃z∈es,cv ρ z.1=some e.key/\cv ρ z.2=some e.val:=fun e he=>
  cvp_mem hks (e.key,e.val) (hperm.mem_iff.2 (Xx (f:=fun e:MapEntry=>(e.key,e.val)) he))
 have hlen:arr.toList.length=es.length:=by rw[<-Qer hks,hperm.length_eq,Wb]
 have dist:dk es=true->∀e∈arr.toList,∀e'∈arr.toList,e'.key=e.key->e'.born=e.born:=fun hd e he e' he' hk=>by
  have h1:=o_cX hd hks
  have h2:(arr.toList.map (·.key)).Nodup:=by
   have h3:=(hperm.map (·.1)).nodup_iff.1 h1
   rwa[Y1]at h3
  rw[key_born h2 he he' hk]
 unfold Qhv at hl
 split at hl
 ·have hnil:arr.toList=[]:=Wj hlen
  have hov:=run_over (P:=P) hit harr hborn (fun e he=>by rw[hnil]at he;cases he)
  exact(o_bu hC hi hnx (evx hst.fe hx) hov hl ⟨hst.fe,hst.ds,hst.hr.del i,hst.fl⟩ hok hrd).mono fun e a2 w2 ⟨he,hto⟩=>⟨he,To.trans (s1:=s.seth (s.h.del i)) (Tr.del ρ s.h s.nx w hfi) rfl rfl hto⟩
 ·rename_i k v
  obtain⟨e0,he0⟩: ∃e0,arr.toList=[e0]:=List.length_eq_one_iff.1 hlen
  unfold one1 at hl
  split at hl
  ·rename_i s1 hr1
   have hr1:=Qhl hr1
   split at hl
   ·rename_i i1 hi1
    have hi1:=itOf_eq hi1
    cases hb1:Nat.blt i1 s1.fl with
    |true=>rw[hb1]at hl;cases hl
    |false=>
     rw[hb1,cond_false]at hl
     have hf1:=Qas hb1
     unfold one2 at hl
     split at hl
     ·rename_i m1 c1 hlq
      obtain⟨k1,hq1⟩:=lastQ_eq hlq
      split at hl
      ·rename_i es1 c1' hmc
       obtain⟨p1,hm1⟩:=Qeq hmc
       obtain⟨hbc,hl9⟩:=Qaa hl
       clear hl
       have hbc:=Ql hbc
       subst hbc
       rcases run_step (P:=P) hit harr hborn 0 with⟨hall,_⟩|⟨e,w1,he,hen,g1,g2,g3,g4,hnext⟩
       ·have:=hall e0 (by rw[he0];exact Qg ..)
        simp at this
       ·have hk1:=hk0.step g1 g2 g3 g4 e
        obtain⟨z,hz,hz1,hz2⟩:=memk e he
        obtain rfl:z=(k,v):=by simpa using hz
        have hee:e=e0:=by rw[he0]at he;simpa using he
        have hh:=hk1.cur (al:=true) hst.hr hq hxi hy hyb hne harr hz1 (dist rfl e he) (fun _ e' he'=>by
         rw[he0]at he'
         have:e'=e:=by rw[hee];simpa using he'
         rw[this];simp) hxb
        refine LP.step (wpIn_mono (o_bt (s:=s.seth (s.h.set i (.q m since (.cur k true)))) hC hi hnx (evx hst.fe hx) (fun _=>hnext) hr1 (cv3 hz1 hz2) ⟨hst.fe,hst.ds,hh,hst.fl⟩ hok hrd) ?_)
        rintro e2 a1 w2 ⟨he2,ρ1,q1,q2,q3,q4⟩
        refine .inl ⟨he2,?_⟩
        obtain⟨_,x1,hx1,_,_,y1,since1,seen1,hy1,hyb1,hit1,_,hcu1⟩:=q1.hr.live i1 _ hq1
        obtain⟨_,y1',hy1',_,_,ks1,arr1,_,harr1,_,_,hborn1,_⟩:=q1.hr.live m1 _ hm1
        rw[hy1]at hy1';injection hy1' with hy1';subst hy1'
        obtain⟨st,kv,_,_,hcc⟩:=hcu1 k1 true rfl
        have hov:=run_over (P:=P) hit1 harr1 hborn1 (((hcc arr1 _ harr1).2 rfl).2 rfl)
        have hev1:a1.eval N.x=.pointer (some ⟨x1.b,0,none⟩):=by
         obtain⟨u,h1,h2⟩:=o_a q1.fe hi1
         obtain⟨x',h3,rfl⟩:=cv_q h1
         rw[hx1]at h3;injection h3 with h3;subst h3
         exact h2
        have htr:=hk1.trCur (o':=.q m since (.cur k true)) hst.hr hq hxi rfl hfi
        refine(o_bu hC hi hnx hev1 hov hl9 ⟨q1.fe,q1.ds,q1.hr.del i1,q1.fl⟩ hok (by show r.isSome=s1.rd;rw[q3];exact hrd)).mono fun e3 a3 w3 ⟨he3,hto⟩=>⟨he3,?_⟩
        have h1:To P w0 ρ1 n s1 w2 s' a3 w3:=To.trans (s1:=s1.seth (s1.h.del i1)) (Tr.del ρ1 s1.h s1.nx w2 hf1) rfl rfl hto
        have h2:To P w0 ρ n (s.seth (s.h.set i (.q m since (.cur k true)))) _ s' a3 w3:=To.trans q2 q3 q4 h1
        exact To.trans (s1:=s.seth (s.h.set i (.q m since (.cur k true)))) htr rfl rfl h2
      ·cases hl
     ·cases hl
   ·cases hl
  ·cases hl
 ·unfold many at hl
  split at hl
  ·rename_i j hj
   obtain⟨hb,hl9⟩:=Qaa hl
   clear hl
   rw[Qe,Qe]at hb
   obtain⟨⟨hji,hdk⟩,hrs⟩:=hb
   have hji:=Ql hji
   subst hji
   have hj:=itOf_eq hj
   have hrs:=o_bG hrs
   have key: ∀(k:Nat) (sb:Array Nat) (a':Act) (W:World),(arr.toList.filter fun e=> !sb.toList.contains e.born).length=k->Wk w xi.b y.b since sb W->Fe ρ (bare s b).env n a'->dcl ρ s.ds a'.defers->
     LP r P b (fun e a2 w2=>e=exOf x/\To P w0 ρ n s w s' a2 w2) a' W:=by
    intro k
    induction k using Nat.strongRecOn with
    |_ k IH=>
     intro sb a' W hk hkw hf hds
     have harrW:W.heap[y.b]?=some (.map arr since):=(hkw.same _ hyb hne).trans harr
     rcases run_step (P:=P) hkw.it harrW hborn 0 with⟨_,hov⟩|⟨e,w1,he,hen,g1,g2,g3,g4,hnext⟩
     ·refine(o_bu (s:=bare s b) hC hi hnx (evx hf hj) (fun _=>hov) hl9 ⟨hf,hds,hkw.del hst.hr hq hxi rfl,hst.fl⟩ hok hrd).mono fun e3 a3 w3 ⟨he3,hto⟩=>⟨he3,?_⟩
      exact To.trans (s1:=(bare s b).seth ((bare s b).h.del j)) (hkw.trDel hst.hr hq hxi rfl hfi) rfl rfl hto
     ·have hk1:=hkw.step g1 g2 g3 g4 e
      obtain⟨z,hz,hz1,hz2⟩:=memk e he
      obtain⟨s2,hr2,hd0,hd2,hle⟩:=hrs z hz
      have hh:=hk1.cur (al:=false) hst.hr hq hxi hy hyb hne harr hz1 (dist hdk e he) (fun h=>by cases h) hxb
      refine LP.step (wpIn_mono (o_bt (s:=(⟨(bare s b).env,(bare s b).ds,(bare s b).h,(bare s b).nx,(bare s b).rd,(bare s b).nx⟩:S).seth ((bare s b).h.set j (.q m since (.cur z.1 false)))) hC hi hnx (evx hf hj) (fun _=>hnext) hr2 (cv3 hz1 hz2) ⟨hf,hds,hh,Qo _⟩ hok hrd) ?_)
      rintro e2 a1 w2 ⟨he2,ρ1,q1,q2,q3,q4⟩
      refine .inl ⟨he2,?_⟩
      have hall:=Tr.all q2 hh
      have hd0:s.ds=[]:=hd0
      refine IH _ ?_ (sb.push e.born) a1 w2 rfl ⟨Wd hk1.size q2.size,fun k' hk' hn=>(hall k' (Qq hk' hk1.size)).trans (hk1.same k' hk' hn),(hall _ (Qp.1 hk1.it).1).trans hk1.it,
       q1.hr.os.trans hst.hr.os.symm,q1.hr.tape.trans hst.hr.tape.symm,q1.hr.output.trans hst.hr.output.symm⟩ ⟨q1.fe.size,fun d v hd=>?_⟩ ?_
      ·rw[<-hk]
       refine filter_lt (fun x hx h=>?_) ⟨e,he,?_,?_⟩
       ·simp at h ⊢;exact h.1
       ·simpa using hen
       ·simp
      ·obtain⟨u,h1,h2⟩:=hf.get d v hd
       have h3:=o_cQ (o_bY hle d v hd) hd
       obtain⟨u2,h4,h5⟩:=q1.fe.get d v h3
       rw[Qam q2.le _ _ h1]at h4;injection h4 with h4;subst h4
       exact⟨u,h1,h5⟩
      ·have h1:=q1.ds
       rw[hd2]at h1
       rw[hd0]
       cases hdd:a1.defers with
       |nil=>trivial
       |cons _ _=>rw[hdd]at h1;exact h1.elim
   exact key _ #[] a w rfl hk0 ⟨hst.fe.size,fun d v hd=>hst.fe.get d v (Qfm _ _ d v hd)⟩ hst.ds
  ·cases hl
end
section
variable {C:Cx}{e e':Env}{h h':T O}
def Ag (e e':Env)(l:List Operand):Prop:=∀x∈l,opd e x=opd e' x
theorem opds_cg: ∀{l:List Operand},Ag e e' l->opds e l=opds e' l
 | [],_=>rfl
 |x::r,h=>by unfold opds;rw[h x (Qg ..),opds_cg fun y hy=>h y (Qf _ hy)]
theorem Qgr: ∀{l:List (Nat×Operand)},Ag e e' (l.map (·.2))->parts e l=parts e' l
 | [],_=>rfl
 |(i,x)::r,h=>by unfold parts;rw[h x (Qg ..),Qgr fun y hy=>h y (Qf _ hy)]
theorem Qdo {x:Operand}(h:opd e x=opd e' x):natAt e x=natAt e' x:=by unfold natAt;rw[h]
theorem optInt_cg {d:Nat}{x:Option Operand}(h: ∀y∈x.toList,opd e y=opd e' y):optInt e d x=optInt e' d x:=by
 cases x with
 |none=>rfl
 |some y=>exact Qdo (h y (by simp))
theorem optMx_cg {x:Option Operand}(h: ∀y∈x.toList,opd e y=opd e' y):optMx e x=optMx e' x:=by
 cases x with
 |none=>rfl
 |some y=>show(match natAt e y with|some m=>some (some m)|none=>none)=(match natAt e' y with|some m=>some (some m)|none=>none);rw[Qdo (h y (by simp))]
theorem slV_cg {t:TypeId}{v:V}{lo hi mx:Option Operand}(h1: ∀y∈lo.toList,opd e y=opd e' y)(h2: ∀y∈hi.toList,opd e y=opd e' y)(h3: ∀y∈mx.toList,opd e y=opd e' y):slV C e t v lo hi mx=slV C e' t v lo hi mx:=by
 unfold slV slSl slArr slStr slNil
 simp only[fun d=>optInt_cg (d:=d) h1,fun d=>optInt_cg (d:=d) h2,fun d=>optInt_cg (d:=d) h3,optMx_cg h3]
theorem Ag.of_call {c:Call}(h:Ag e e' c.operands.toList):opds e c.args.toList=opds e' c.args.toList:=
 opds_cg fun x hx=>h x (by unfold Call.operands;rw[Array.toList_append];exact Qy _ hx)
theorem pure1_cg {o:Op}(h:Ag e e' o.operands.toList):pure1 C e o=pure1 C e' o:=by
 have g: ∀x,x∈o.operands.toList->opd e x=opd e' x:=h
 cases o with
 |move x=>exact g x (by simp[Op.operands])
 |assign x=>exact g x (by simp[Op.operands])
 |pick c x y=>show pPick e c x y=pPick e' c x y;unfold pPick;rw[g c (by simp[Op.operands]),g x (by simp[Op.operands]),g y (by simp[Op.operands])]
 |binOp op t x y ty=>show pBin C e op t x y=pBin C e' op t x y;unfold pBin;rw[g x (by simp[Op.operands]),g y (by simp[Op.operands])]
 |unOp op t x=>show pUn e op x=pUn e' op x;unfold pUn;rw[g x (by simp[Op.operands])]
 |extract x i=>show pExt e x i=pExt e' x i;unfold pExt;rw[g x (by simp[Op.operands])]
 |nilCheck x=>show pNil e x=pNil e' x;unfold pNil;rw[g x (by simp[Op.operands])]
 |makeFunc fn xs ys=>show pFunc e fn xs.toList ys.toList=pFunc e' fn xs.toList ys.toList;unfold pFunc;rw[opds_cg (l:=xs.toList) fun x hx=>g x (by simp[Op.operands]at hx ⊢;exact .inl hx),opds_cg (l:=ys.toList) fun x hx=>g x (by simp[Op.operands]at hx ⊢;exact .inr hx)]
 |convert s d x=>show pConv C e s d x=pConv C e' s d x;unfold pConv;rw[g x (by simp[Op.operands])]
 |fieldAddr t x i=>show pFa C e t x i=pFa C e' t x i;unfold pFa;rw[g x (by simp[Op.operands])]
 |field t x i=>show pFld C e t x i=pFld C e' t x i;unfold pFld;rw[g x (by simp[Op.operands])]
 |indexAddr t x i=>show pIxA C e t x i=pIxA C e' t x i;unfold pIxA;rw[g x (by simp[Op.operands]),Qdo (g i (by simp[Op.operands]))]
 |index t x i=>show pIx C e t x i=pIx C e' t x i;unfold pIx;rw[g x (by simp[Op.operands]),Qdo (g i (by simp[Op.operands]))]
 |slice t x lo hi mx=>
  show pSl C e t x lo hi mx=pSl C e' t x lo hi mx
  unfold pSl
  rw[g x (by simp[Op.operands])]
  split
  ·exact slV_cg (fun y hy=>g y (by simp[Op.operands]at hy ⊢;simp[hy])) (fun y hy=>g y (by simp[Op.operands]at hy ⊢;simp[hy])) (fun y hy=>g y (by simp[Op.operands]at hy ⊢;simp[hy]))
  ·rfl
 |build t ps=>show pBuild C e t ps.toList=pBuild C e' t ps.toList;unfold pBuild;rw[Qgr (l:=ps.toList) fun x hx=>g x (by simpa[Op.operands] using hx)]
 |makeInterface t x=>show pMki C e t x=pMki C e' t x;unfold pMki;rw[g x (by simp[Op.operands])]
 |typeAssert x s ty2_ ok=>show pTas C e x ty2_ ok=pTas C e' x ty2_ ok;unfold pTas;rw[g x (by simp[Op.operands])]
 |call c=>show pCall C e c=pCall C e' c;unfold pCall pBi;rw[Ag.of_call h]
 |_=>rfl
theorem read1_cg {o:Op}(h:Ag e e' o.operands.toList){m:T O}:read1 C e m o=read1 C e' m o:=by
 have g: ∀x,x∈o.operands.toList->opd e x=opd e' x:=h
 cases o with
 |load t x=>show rLoad C e m t x=rLoad C e' m t x;unfold rLoad;rw[g x (by simp[Op.operands])]
 |lookup t x k ok=>show rLook C e m t x k ok=rLook C e' m t x k ok;unfold rLook;rw[g x (by simp[Op.operands]),g k (by simp[Op.operands])]
 |entry x=>show rEnt e m x=rEnt e' m x;unfold rEnt;rw[g x (by simp[Op.operands])]
 |convert s d x=>show rConv C e m s d x=rConv C e' m s d x;unfold rConv;rw[g x (by simp[Op.operands])]
 |call c=>show rCall C e m c=rCall C e' m c;unfold rCall;rw[Ag.of_call h]
 |_=>rfl
theorem look1_cg {o:Op}(h:Ag e e' o.operands.toList){m:T O}{k:Nat}:look1 C e m o k=look1 C e' m o k:=by
 unfold look1
 rw[pure1_cg h,read1_cg h]
theorem alloc1_cg {o:Op}(h:Ag e e' o.operands.toList){m m':T O}{i:Nat}{v:V}{x:O}(hl:Qbw C e m i o=some (v,x))(hq:noQ x=true):Qbw C e' m' i o=some (v,x):=by
 have g: ∀x,x∈o.operands.toList->opd e x=opd e' x:=h
 cases o with
 |alloc t=>exact hl
 |box t y=>rw[<-hl];show aBox C e' i t y=aBox C e i t y;unfold aBox;rw[g y (by simp[Op.operands])]
 |buildSlice t n ps=>rw[<-hl];show aBs C e' i t n ps.toList=aBs C e i t n ps.toList;unfold aBs;rw[Qgr (l:=ps.toList) fun x hx=>g x (by simpa[Op.operands] using hx)]
 |makeMap t r=>exact hl
 |range t y=>
  have hl:aRg C e m i t y=some (v,x):=hl
  show aRg C e' m' i t y=some (v,x)
  unfold aRg at hl ⊢
  rw[<-g y (by simp[Op.operands])]
  split at hl
  ·unfold rgV at hl ⊢
   split at hl
   ·obtain⟨_,h1⟩:=Qaa hl
    split at h1
    ·injection h1 with h1;injection h1 with h1 h2;rw[<-h2]at hq;cases hq
    ·cases h1
   ·exact hl
  ·cases hl
 |_=>cases hl
def Ef.to (e:Env)(rd:Bool)(fl:Nat):Ef->Ef:=Option.map fun p=>(p.1,⟨e,p.2.ds,p.2.h,p.2.nx,rd,fl⟩)
theorem to_some {rd:Bool}{fl:Nat}{v:V}{s:S}:Ef.to e rd fl (some (v,s))=some (v,⟨e,s.ds,s.h,s.nx,rd,fl⟩):=rfl
section
variable {ih:Job->Option Rs}{ds:List (Option (V×List V)×Nat)}{nx fl:Nat}{rd:Bool}
theorem putM_to {i c:Nat}{es:List (V×V)}{k v:V}{q:Option (Option (Nat×V×V))}:putM ⟨e,ds,h,nx,rd,fl⟩ i es c k v q=Ef.to e rd fl (putM ⟨e',ds,h,nx,rd,fl⟩ i es c k v q):=by
 cases q with
 |none=>rfl
 |some q=>(try dsimp only);cases q with
  |none=>rfl
  |some q=>
   obtain⟨p,x,y⟩:=q
   unfold putM
   dsimp only
   cases beq k x&&flKy k<;>rfl
theorem entM_to {J:Ti}{i c:Nat}{es:List (V×V)}{k:V}{q:Option (Option (Nat×V×V))}:entM ⟨e,ds,h,nx,rd,fl⟩ J i es c k q=Ef.to e rd fl (entM ⟨e',ds,h,nx,rd,fl⟩ J i es c k q):=by
 cases q with
 |none=>rfl
 |some q=>(try dsimp only);cases q with
  |none=>rfl
  |some q=>
   obtain⟨p,x,y⟩:=q
   unfold entM
   dsimp only
   cases beq k x&&flKy k<;>rfl
theorem eNext_to {o:O}{i:Nat}{str:Bool}:(bif str then nxStr ⟨e,ds,h,nx,rd,fl⟩ i o else nxQ ⟨e,ds,h,nx,rd,fl⟩ o)=Ef.to e rd fl (bif str then nxStr ⟨e',ds,h,nx,rd,fl⟩ i o else nxQ ⟨e',ds,h,nx,rd,fl⟩ o):=by
 cases str with
 |false=>cases o<;>rfl
 |true=>
  cases o with
  |st b pos=>
   dsimp only[cond_true]
   unfold nxStr
   dsimp only
   cases Nat.blt pos b.size with
   |false=>rfl
   |true=>cases Nat.blt i fl<;>rfl
  |_=>rfl
theorem eClr_to {t:TypeId}{x:V}:eClr C ⟨e,ds,h,nx,rd,fl⟩ t x=Ef.to e rd fl (eClr C ⟨e',ds,h,nx,rd,fl⟩ t x):=by
 unfold eClr
 cases Qcf C t with
 |none=>rfl
 |some J=>
  dsimp only
  cases x.sl? with
  |none=>dsimp only;cases x.nilS<;>rfl
  |some q=>
   dsimp only
   cases Nat.beq q.2.2.1 0 with
   |true=>rfl
   |false=>
    dsimp only[cond_false]
    unfold storeAt
    dsimp only
    cases Nat.blt q.1 fl with
    |true=>rfl
    |false=>
     dsimp only[cond_false]
     cases Qfa h q.1 with
     |none=>rfl
     |some r=>
      dsimp only
      cases Qdj r.2 q.2.1 (rep J.z q.2.2.1)<;>rfl
theorem eApp_to {t:TypeId}{x y:V}:eApp C ⟨e,ds,h,nx,rd,fl⟩ t x y=Ef.to e rd fl (eApp C ⟨e',ds,h,nx,rd,fl⟩ t x y):=by
 unfold eApp
 dsimp only
 cases Qbk C t with
 |none=>rfl
 |some el=>(try dsimp only);cases C.ty.get el with
  |none=>rfl
  |some J=>dsimp only;cases Qfx J el h nx fl x y<;>rfl
end
theorem eff_to {ih:Job->Option Rs}{o:Op}{ds:List (Option (V×List V)×Nat)}{nx fl:Nat}{rd:Bool}(hg:Ag e e' o.operands.toList):
  eff C ih ⟨e,ds,h,nx,rd,fl⟩ o=Ef.to e rd fl (eff C ih ⟨e',ds,h,nx,rd,fl⟩ o):=by
 have g: ∀x,x∈o.operands.toList->opd e x=opd e' x:=hg
 have hW: ∀i,mapW ⟨e,ds,h,nx,rd,fl⟩ i=mapW ⟨e',ds,h,nx,rd,fl⟩ i:=fun _=>rfl
 have mu: ∀{t:TypeId} {m:Option Nat} {k x:Option V},(match m with
   |some i=>match k with
    |some k=>match x with
     |some v=>match Qdl C t with
      |some (kt,_)=>match mapW ⟨e,ds,h,nx,rd,fl⟩ i with
       |some (es,c)=>putM ⟨e,ds,h,nx,rd,fl⟩ i es c k v (Qdm C kt k es)
       |none=>none
      |none=>none
     |none=>none
    |none=>none
   |none=>none)=Ef.to e rd fl (match m with
   |some i=>match k with
    |some k=>match x with
     |some v=>match Qdl C t with
      |some (kt,_)=>match mapW ⟨e',ds,h,nx,rd,fl⟩ i with
       |some (es,c)=>putM ⟨e',ds,h,nx,rd,fl⟩ i es c k v (Qdm C kt k es)
       |none=>none
      |none=>none
     |none=>none
    |none=>none
   |none=>none):=by
  intro t m k x
  cases m with
  |none=>rfl
  |some i=>(try dsimp only);cases k with
   |none=>rfl
   |some k=>(try dsimp only);cases x with
    |none=>rfl
    |some v=>(try dsimp only);cases Qdl C t with
     |none=>rfl
     |some q=>
      dsimp only
      rw[hW i]
      cases mapW ⟨e',ds,h,nx,rd,fl⟩ i with
      |none=>rfl
      |some r=>exact putM_to
 cases o with
 |store t a x=>
  show Qfk C _ t a x=Ef.to e rd fl (Qfk C _ t a x)
  unfold Qfk storeAt
  dsimp only
  rw[g a (by simp[Op.operands]),g x (by simp[Op.operands])]
  cases opd e' a with
  |none=>rfl
  |some p=>(try dsimp only);cases p.ptr? with
   |none=>rfl
   |some q=>(try dsimp only);cases opd e' x with
    |none=>rfl
    |some u=>(try dsimp only);cases C.ty.get t with
     |none=>rfl
     |some J=>
      dsimp only
      cases Nat.beq u.cells.length J.n&& !tupV u with
      |false=>rfl
      |true=>(try dsimp only);cases Nat.blt q.1 fl with
       |true=>rfl
       |false=>
        dsimp only[cond_true,cond_false]
        cases Qfa h q.1 with
        |none=>rfl
        |some r=>
         dsimp only
         cases Qdj r.2 q.2 u.cells<;>rfl
 |mapUpdate t m k x=>
  show eUpd C _ t m k x=Ef.to e rd fl (eUpd C _ t m k x)
  unfold eUpd
  dsimp only
  rw[show mapI e m=mapI e' m by unfold mapI;rw[g m (by simp[Op.operands])],g k (by simp[Op.operands]),g x (by simp[Op.operands])]
  exact mu
 |insert t m k x=>
  show eUpd C _ t m k x=Ef.to e rd fl (eUpd C _ t m k x)
  unfold eUpd
  dsimp only
  rw[show mapI e m=mapI e' m by unfold mapI;rw[g m (by simp[Op.operands])],g k (by simp[Op.operands]),g x (by simp[Op.operands])]
  exact mu
 |mapEntry t m k=>
  show eEnt C _ t m k=Ef.to e rd fl (eEnt C _ t m k)
  unfold eEnt
  dsimp only
  rw[show mapI e m=mapI e' m by unfold mapI;rw[g m (by simp[Op.operands])],g k (by simp[Op.operands])]
  cases mapI e' m with
  |none=>rfl
  |some i=>(try dsimp only);cases opd e' k with
   |none=>rfl
   |some u=>(try dsimp only);cases Qdl C t with
    |none=>rfl
    |some q=>
     dsimp only
     rw[hW i]
     cases mapW ⟨e',ds,h,nx,rd,fl⟩ i with
     |none=>rfl
     |some r=>exact entM_to
 |entryStore t m w x=>
  show eEst _ m w x=Ef.to e rd fl (eEst _ m w x)
  unfold eEst
  dsimp only
  rw[show mapI e m=mapI e' m by unfold mapI;rw[g m (by simp[Op.operands])],g w (by simp[Op.operands]),g x (by simp[Op.operands])]
  cases mapI e' m with
  |none=>rfl
  |some i=>(try dsimp only);cases opd e' w with
   |none=>rfl
   |some u=>
    dsimp only
    cases u.w? with
    |none=>rfl
    |some j=>(try dsimp only);cases opd e' x with
     |none=>rfl
     |some z=>
      dsimp only
      rw[show Qgz ⟨e,ds,h,nx,rd,fl⟩ i=Qgz ⟨e',ds,h,nx,rd,fl⟩ i from rfl]
      cases Qgz ⟨e',ds,h,nx,rd,fl⟩ i with
      |none=>rfl
      |some r=>
       dsimp only
       cases Nat.beq j r.2.2.1<;>rfl
 |next x b=>
  show eNext _ x b=Ef.to e rd fl (eNext _ x b)
  unfold eNext
  dsimp only
  rw[g x (by simp[Op.operands])]
  cases opd e' x with
  |none=>rfl
  |some u=>
   dsimp only
   cases u.it? with
   |none=>rfl
   |some i=>
    dsimp only
    cases h.get i with
    |none=>rfl
    |some o=>exact eNext_to
 |call c=>
  have ha:=Ag.of_call (c:=c) hg
  show eCall C ih _ c=Ef.to e rd fl (eCall C ih _ c)
  unfold eCall
  cases hc:c.callee with
  |value f=>
   show eCv ih _ f c.args.toList=Ef.to e rd fl (eCv ih _ f c.args.toList)
   unfold eCv
   dsimp only
   rw[ha,g f (by simp[Op.operands,Call.operands,hc])]
   cases opds e' c.args.toList with
   |none=>rfl
   |some vs=>(try dsimp only);cases opd e' f with
    |none=>rfl
    |some u=>
     dsimp only
     unfold callR
     cases ih (.call u vs h nx fl)with
     |none=>rfl
     |some r=>cases r<;>rfl
  |builtin b=>
   show eBi C _ c.args.toList c.argTypes.toList b=Ef.to e rd fl (eBi C _ c.args.toList c.argTypes.toList b)
   unfold eBi
   dsimp only
   rw[ha]
   cases b with
   |append=>
    dsimp only
    unfold ty2 arg2
    split
    ·rename_i t u hts
     cases Nat.beq t u with
     |false=>rfl
     |true=>
      dsimp only[cond_true]
      cases opds e' c.args.toList with
      |none=>rfl
      |some vs=>(try dsimp only);cases vs with
       |nil=>rfl
       |cons x r=>(try dsimp only);cases r with
        |nil=>rfl
        |cons y r=>(try dsimp only);cases r with
         |nil=>exact eApp_to
         |cons _ _=>rfl
    ·rfl
   |clear=>
    dsimp only
    unfold ty1 arg1
    split
    ·cases opds e' c.args.toList with
     |none=>rfl
     |some vs=>cases vs with
      |nil=>rfl
      |cons x r=>cases r with
       |nil=>exact eClr_to
       |cons _ _=>rfl
    ·rfl
   |_=>rfl
  |invoke _ _=>rfl
 |defer c=>
  show eDef _ c=Ef.to e rd fl (eDef _ c)
  have ha:=Ag.of_call (c:=c) hg
  unfold eDef
  cases hc:c.callee with
  |value f=>
   dsimp only
   rw[ha,g f (by simp[Op.operands,Call.operands,hc])]
   cases opds e' c.args.toList with
   |none=>rfl
   |some vs=>(try dsimp only);cases opd e' f with
    |none=>rfl
    |some u=>
     dsimp only
     cases rd|| !isF u<;>rfl
  |builtin b=>rfl
  |invoke _ _=>rfl
 |_=>rfl
theorem eff_cg {ih:Job->Option Rs}{o:Op}{ds:List (Option (V×List V)×Nat)}{nx fl:Nat}{rd:Bool}{v:V}{s1:S}(hl:eff C ih ⟨e,ds,h,nx,rd,fl⟩ o=some (v,s1)):
  s1=⟨e,s1.ds,s1.h,s1.nx,rd,fl⟩/\(Ag e e' o.operands.toList->eff C ih ⟨e',ds,h,nx,rd,fl⟩ o=some (v,⟨e',s1.ds,s1.h,s1.nx,rd,fl⟩)):=by
 constructor
 ·have:=eff_to (C:=C) (e:=e) (e':=e) (h:=h) (ih:=ih) (o:=o) (ds:=ds) (nx:=nx) (fl:=fl) (rd:=rd) fun _ _=>rfl
  rw[hl,to_some]at this
  injection this with this
  injection this
 ·intro hg
  rw[eff_to (e:=e') (e':=e) fun x hx=>(hg x hx).symm,hl,to_some]
end
theorem Qgv (b i:Nat):tst b i=b.testBit i:=by
 unfold tst
 rw[Nat.testBit_eq_decide_div_mod_eq]
 have h1:Nat.land (b / 2^i) 1=b / 2^i%2:=Nat.and_one_is_mod _
 rw[h1]
 cases h:Nat.beq (b / 2^i%2) 1 with
 |true=>exact(Wc (Ql h)).symm
 |false=>exact(Xc (Nat.ne_of_beq_eq_false h)).symm
theorem tst_or (a b i:Nat):tst (Nat.lor a b) i=(tst a i||tst b i):=by rw[Qgv,Qgv,Qgv];exact Nat.testBit_or a b i
theorem tst_pow (k i:Nat):tst (2^k) i=decide (k=i):=by rw[Qgv];exact Nat.testBit_two_pow
theorem tst_0 (i:Nat):tst 0 i=false:=by rw[Qgv];exact Nat.zero_testBit i
def bitF (bs:List Nat)(s:Nat)(e:Edge):Nat:=bif Region.binds .any e then Nat.lor s (Nat.lor (2^e.on) (bs.getD e.on 0))else s
theorem Qhu (bs:List Nat)(j:Nat): ∀(l:List Edge) (s:Nat),tst (l.foldl (bitF bs) s) j=true↔tst s j=true\/∃e∈l,Region.binds .any e=true/\(e.on=j\/tst (bs.getD e.on 0) j=true)
 | [],s=>by simp
 |e::l,s=>by
  rw[List.foldl_cons,Qhu bs j l]
  unfold bitF
  cases hb:Region.binds .any e with
  |false=>
   rw[cond_false]
   constructor
   ·rintro(h|⟨e',h1,h2⟩)
    ·exact .inl h
    ·exact .inr ⟨e',Qf _ h1,h2⟩
   ·rintro(h|⟨e',h1,h2,h3⟩)
    ·exact .inl h
    ·rcases Qk.1 h1 with rfl|h1
     ·rw[hb]at h2;cases h2
     ·exact .inr ⟨e',h1,h2,h3⟩
  |true=>
   rw[cond_true,tst_or,tst_or,tst_pow,Xz,Xz,Xw]
   constructor
   ·rintro((h|h)|⟨e',h1,h2⟩)
    ·exact .inl h
    ·exact .inr ⟨e,Qg ..,hb,h⟩
    ·exact .inr ⟨e',Qf _ h1,h2⟩
   ·rintro(h|⟨e',h1,h2,h3⟩)
    ·exact .inl (.inl h)
    ·rcases Qk.1 h1 with rfl|h1
     ·exact .inl (.inr h3)
     ·exact .inr ⟨e',h1,h2,h3⟩
theorem bits_iff (bs:List Nat)(j:Nat)(l:List Edge):tst (bits bs l) j=true↔∃e∈l,Region.binds .any e=true/\(e.on=j\/tst (bs.getD e.on 0) j=true):=by
 have:=Qhu bs j l 0
 rw[tst_0]at this
 show tst (List.foldl (bitF bs) 0 l) j=true↔_
 simpa using this
theorem Qcc: ∀(r:List Oper) (bs:List Nat),∃t,Qav r bs=bs++t/\t.length=r.length
 | [],bs=>⟨[],by simp[Qav],rfl⟩
 |o::r,bs=>by
  obtain⟨t,h1,h2⟩:=Qcc r (bs++[bits bs o.after.toList])
  exact⟨bits bs o.after.toList::t,by unfold Qav;rw[h1];simp,by simp[h2]⟩
theorem Qfn: ∀(r:List Oper) (bs:List Nat) (k:Nat) (o:Oper),r[k]?=some o->(Qav r bs)[bs.length+k]?=some (bits ((Qav r bs).take (bs.length+k)) o.after.toList)
 | [],bs,k,o,h=>by simp at h
 |p::r,bs,0,o,h=>by
  simp only[Wl,Qc]at h
  subst h
  obtain⟨t,h1,_⟩:=Qcc r (bs++[bits bs p.after.toList])
  unfold Qav
  rw[h1]
  simp
 |p::r,bs,k+1,o,h=>by
  have:=Qfn r (bs++[bits bs p.after.toList]) k o (by simpa using h)
  unfold Qav
  rw[Wg]at this
  have e:bs.length+(k+1)=bs.length+[bits bs p.after.toList].length+k:=by simp;omega
  rw[e]
  exact this
theorem Qdz: ∀(r:List Oper) (i k:Nat) (o:Oper),Qcr r i=true->r[k]?=some o->∀e∈o.after,Region.binds .any e=true->e.on<i+k
 | [],_,_,_,_,h=>by simp at h
 |p::r,i,0,o,h,ho=>by
  simp only[Wl,Qc]at ho
  subst ho
  unfold Qcr at h
  rw[Qe]at h
  intro e he hb
  have:=Qx.1 h.1 e (by simpa using he)
  rw[hb]at this
  exact Qi this
 |p::r,i,k+1,o,h,ho=>by
  unfold Qcr at h
  rw[Qe]at h
  intro e he hb
  have:=Qdz r (i+1) k o h.2 (by simpa using ho) e he hb
  omega
def Near (ops:List Oper)(p o:Oper):Prop:=near p.dst (sees ops p) o.dst (sees ops o)=true
theorem Qfg {d':Option Nat}{l':List Nat}{b:Nat}: ∀(acc:List (Option Nat×List Nat)) (i k:Nat) (x:Option Nat×List Nat),Qen d' l' b acc i=true->acc[k]?=some x->near x.1 x.2 d' l'=true->tst b (i+k)=true
 | [],_,_,_,_,h,_=>by simp at h
 |(d,l)::r,i,0,x,h,hx,hn=>by
  simp only[Wl,Qc]at hx
  subst hx
  unfold Qen at h
  rw[Qe]at h
  simpa[hn] using h.1
 |(d,l)::r,i,k+1,x,h,hx,hn=>by
  unfold Qen at h
  rw[Qe]at h
  have:=Qfg r (i+1) k x h.2 (by simpa using hx) hn
  have e:i+(k+1)=i+1+k:=by omega
  rw[e];exact this
theorem Qep {ops:List Oper}{bs:List Nat}: ∀(r:List Oper) (acc:List (Option Nat×List Nat)) (all:List Oper),Qdn ops bs r acc=true->acc=(all.take acc.length).map (fun o=>(o.dst,sees ops o))->all.drop acc.length=r->
  ∀(k i:Nat) (p o:Oper),acc.length<=i->k<i->all[k]?=some p->all[i]?=some o->Near ops p o->tst (bs.getD i 0) k=true
 | [],acc,all,_,ha,hd,k,i,p,o,h1,h2,hp,ho,_=>by
  have:all.length<=acc.length:=by have:=Qv List.length hd;simp at this;omega
  have:=(Qb.1 ho).1
  omega
 |q::r,acc,all,h,ha,hd,k,i,p,o,h1,h2,hp,ho,hn=>by
  unfold Qdn at h
  rw[Qe]at h
  have hq:all[acc.length]?=some q:=by
   have:=Qv (fun l=>l[0]?) hd
   simpa using this
  by_cases hi:i=acc.length
  ·subst hi
   rw[hq]at ho;injection ho with ho;subst ho
   have hk:acc[k]?=some (p.dst,sees ops p):=by
    rw[ha]
    simp[Wq,h2,hp]
   have:=Qfg acc 0 k _ h.1 hk hn
   simpa using this
  ·refine Qep r (acc++[(q.dst,sees ops q)]) all h.2 ?_ ?_ k i p o (by simp;omega) h2 hp ho hn
   ·rw[Wg,List.length_singleton,Xv,hq,W5,<-ha]
    rfl
   ·rw[Wg,List.length_singleton,<-Xo,hd]
    rfl
structure Stat (ops:List Oper) (bs:List Nat):Prop where
 len:bs.length=ops.length
 mem: ∀i o j,ops[i]?=some o->tst (bs.getD i 0) j=true->∃e∈o.after,Region.binds .any e=true/\e.on<i/\(e.on=j\/tst (bs.getD e.on 0) j=true)
 inc: ∀i o e j,ops[i]?=some o->e∈o.after->Region.binds .any e=true->(e.on=j\/tst (bs.getD e.on 0) j=true)->tst (bs.getD i 0) j=true
 edge: ∀i o e,ops[i]?=some o->e∈o.after->Region.binds .any e=true->e.on<i
 pair: ∀k i p o,k<i->ops[k]?=some p->ops[i]?=some o->Near ops p o->tst (bs.getD i 0) k=true
theorem o_dk {ops:List Oper}{bs:List Nat}(h:stat ops=some bs):Stat ops bs:=by
 unfold stat at h
 obtain⟨hb,h1⟩:=Qaa h
 injection h1 with h1
 subst h1
 rw[Qe]at hb
 obtain⟨t,ht,hl⟩:=Qcc ops []
 have hat: ∀i o,ops[i]?=some o->(Qav ops []).getD i 0=bits ((Qav ops []).take i) o.after.toList:=fun i o ho=>by
  have:=Qfn ops [] i o ho
  rw[Ww,Wm]at this
  rw[Yd,this]
  rfl
 have hed: ∀i o e,ops[i]?=some o->e∈o.after->Region.binds .any e=true->e.on<i:=fun i o e ho he hb2=>by
  have:=Qdz ops 0 i o hb.1 ho e he hb2
  omega
 have htk: ∀(l:List Nat) i k,k<i->(l.take i).getD k 0=l.getD k 0:=fun l i k hk=>by simp[Yd,Wq,hk]
 refine⟨by rw[ht];simpa using hl,fun i o j ho hj=>?_,fun i o e j ho he hb2 hj=>?_,hed,fun k i p o hk hp ho hn=>Qep ops [] ops hb.2 (by simp) (by simp) k i p o (Xl _) hk hp ho hn⟩
 ·rw[hat i o ho,bits_iff]at hj
  obtain⟨e,h1,h2,h3⟩:=hj
  have h1:e∈o.after:=by simpa using h1
  have h4:=hed i o e ho h1 h2
  rw[htk _ _ _ h4]at h3
  exact⟨e,h1,h2,h4,h3⟩
 ·rw[hat i o ho,bits_iff]
  exact⟨e,by simpa using he,hb2,by rw[htk _ _ _ (hed i o e ho he hb2)];exact hj⟩
section
variable {ops:List Oper}{bs:List Nat}
theorem Stat.lt (h:Stat ops bs): ∀(i j:Nat),i<ops.length->tst (bs.getD i 0) j=true->j<i:=fun i=>by
 induction i using Nat.strongRecOn with
 |_ i ih=>
  intro j hi hj
  have ho:ops[i]?=some ops[i]:=Qh hi
  obtain⟨e,_,_,h3,h4⟩:=h.mem i _ j ho hj
  rcases h4 with rfl|h4
  ·exact h3
  ·exact Nat.lt_trans (ih _ h3 j (by omega) h4) h3
theorem Stat.tr (h:Stat ops bs): ∀(i c j:Nat),i<ops.length->tst (bs.getD i 0) c=true->tst (bs.getD c 0) j=true->tst (bs.getD i 0) j=true:=fun i=>by
 induction i using Nat.strongRecOn with
 |_ i ih=>
  intro c j hi hc hj
  have ho:ops[i]?=some ops[i]:=Qh hi
  obtain⟨e,h1,h2,h3,h4⟩:=h.mem i _ c ho hc
  rcases h4 with rfl|h4
  ·exact h.inc i _ e j ho h1 h2 (.inr hj)
  ·exact h.inc i _ e j ho h1 h2 (.inr (ih _ h3 c j (by omega) h4 hj))
theorem Stat.cl (h:Stat ops bs){L:Nat->Bool}(hd: ∀i o,L i=true->ops[i]?=some o->∀e∈o.after,Region.binds .any e=true->L e.on=true):
  ∀(i:Nat) (o:Oper),ops[i]?=some o->(∀e∈o.after,Region.binds .any e=true->L e.on=true)->∀j,tst (bs.getD i 0) j=true->L j=true:=fun i=>by
 induction i using Nat.strongRecOn with
 |_ i ih=>
  intro o ho hr j hj
  obtain⟨e,h1,h2,h3,h4⟩:=h.mem i o j ho hj
  rcases h4 with rfl|h4
  ·exact hr e h1 h2
  ·have hi:=(Qb.1 ho).1
   have he:ops[e.on]?=some ops[e.on]:=Qh (by omega)
   exact ih _ h3 _ he (hd _ _ (hr e h1 h2) he) j h4
theorem has_mem {l:List Nat}{t:Nat}(h:t∈l):has l (some t)=true:=List.any_eq_true.2 ⟨t,h,Y3 t⟩
theorem Stat.cmp (h:Stat ops bs){k i t:Nat}{p o:Oper}(hp:ops[k]?=some p)(ho:ops[i]?=some o)(hd:p.dst=some t)(ht:t∈sees ops o\/o.dst=some t)(hne:k≠i):
  (k<i/\tst (bs.getD i 0) k=true)\/(i<k/\tst (bs.getD k 0) i=true):=by
 rcases Yn k i with hk|hk
 ·refine .inl ⟨hk,h.pair k i p o hk hp ho ?_⟩
  unfold Near near
  rw[hd]
  rcases ht with ht|ht
  ·rw[has_mem ht];rfl
  ·rw[ht];simp[optL,has]
 ·have hk:i<k:=by omega
  refine .inr ⟨hk,h.pair i k o p hk ho hp ?_⟩
  unfold Near near
  rw[hd]
  rcases ht with ht|ht
  ·rw[has_mem ht];simp
  ·rw[ht];simp[optL,has]
end
section
variable {C:Cx}{ih:Job->Option Rs}{ops:List Oper}{bs:List Nat}
inductive Ran (C:Cx) (ih:Job->Option Rs) (ops:List Oper) (i b:Nat) (o:Oper) (d:D):D->Prop
 |off:wantedV ops d.s.env o.guard=some false->Ran C ih ops i b o d ⟨d.s.upo o.dst un,d.cs,d.xs,d.rs,d.q⟩
 |made {v:V} {x:O}:wantedV ops d.s.env o.guard=some true->Qbw C d.s.env d.s.h d.q o.op=some (v,x)->noQ x=true->Ran C ih ops i b o d ⟨d.s.upo o.dst v,d.cs,(i,d.q,x)::d.xs,d.rs,d.q+1⟩
 |look {v:V}:wantedV ops d.s.env o.guard=some true->look1 C d.s.env (lay d.s.h (tst b) d.xs) o.op (cls o.op)=some v->Ran C ih ops i b o d ⟨d.s.upo o.dst v,d.cs,d.xs,(i,o.op,d.s.env,v)::d.rs,d.q⟩
 |eff {v:V} {s1:S}:wantedV ops d.s.env o.guard=some true->(∀c∈d.cs,tst b c.1=true)->Go.M.eff C ih (d.s.seth (lay d.s.h (tst b) d.xs)) o.op=some (v,s1)->(∀x∈d.xs,tst b x.1=true->(s1.h.get x.2.1).isSome=true)->Ran C ih ops i b o d ⟨s1.upo o.dst v,(i,s1)::d.cs,d.xs,d.rs,d.q⟩
theorem Qhn {i b:Nat}{o:Oper}{d d':D}(hw:wantedV ops d.s.env o.guard=some true)(h:dMade d i o.dst (Qbw C d.s.env d.s.h d.q o.op)=some d'):Ran C ih ops i b o d d':=by
 unfold dMade at h
 split at h
 ·rename_i v x hx
  obtain⟨h1,h2⟩:=Qaa h
  injection h2 with h2;subst h2
  exact .made hw hx h1
 ·cases h
theorem dOne_ran {i b:Nat}{o:Oper}{d d':D}(h:dOne C ih ops d i b o=some d'):Ran C ih ops i b o d d':=by
 unfold dOne at h
 split at h
 ·rename_i hw
  unfold dStep at h
  split at h
  ·obtain⟨h1,h2⟩:=Qaa h
   unfold dEff at h2
   split at h2
   ·rename_i v s1 he
    obtain⟨h3,h4⟩:=Qaa h2
    injection h4 with h4;subst h4
    refine .eff hw (fun c hc=>Qx.1 h1 c hc) he fun x hx hb=>?_
    have:=Qx.1 h3 x hx
    unfold there at this
    rw[hb]at this
    simpa using this
   ·cases h2
  ·exact Qhn hw h
  ·unfold dLook at h
   split at h
   ·rename_i v hv
    injection h with h;subst h
    exact .look hw hv
   ·exact Qhn hw h
 ·rename_i hw
  injection h with h;subst h
  exact .off hw
 ·cases h
theorem Qhc: ∀(r:List Oper) (i:Nat) (d d':D),dGo C ih ops bs r i d=some d'->∃st:Nat->D,st i=d/\st (i+r.length)=d'/\∀k o,r[k]?=some o->Ran C ih ops (i+k) (bs.getD (i+k) 0) o (st (i+k)) (st (i+k+1))
 | [],i,d,d',h=>by
  injection h with h;subst h
  exact⟨fun _=>d,rfl,rfl,fun k o h=>by simp at h⟩
 |p::r,i,d,d',h=>by
  unfold dGo at h
  split at h
  ·rename_i d1 h1
   obtain⟨st,g1,g2,g3⟩:=Qhc r (i+1) d1 d' h
   refine⟨fun j=>if j=i then d else st j,Qj rfl,?_,fun k o hk=>?_⟩
   ·show(if i+(p::r).length=i then d else st (i+(p::r).length))=d'
    rw[Qd (by simp),<-g2]
    congr 1
    simp;omega
   ·cases k with
    |zero=>
     simp only[Wl,Qc]at hk
     subst hk
     show Ran C ih ops i (bs.getD i 0) p (if i=i then d else st i) (if i+1=i then d else st (i+1))
     rw[Qj rfl,Qd (by omega),g1]
     exact dOne_ran h1
    |succ k=>
     have:=g3 k o (by simpa using hk)
     show Ran C ih ops (i+(k+1)) (bs.getD (i+(k+1)) 0) o (if i+(k+1)=i then d else st (i+(k+1))) (if i+(k+1)+1=i then d else st (i+(k+1)+1))
     rw[Qd (by omega),Qd (by omega)]
     have e:i+(k+1)=i+1+k:=by omega
     rw[e]
     exact this
  ·cases h
def Env.opt (e:Env)(d:Option Nat)(v:V):Env:=match d with
 |some d=>e.set d v
 |none=>e
theorem Qbu (s:S)(d:Option Nat)(v:V):(s.upo d v).env=s.env.opt d v:=by cases d<;>rfl
theorem Env.get_set (e:Env)(d:Nat)(v:V)(t:Nat):(e.set d v).get t=if d=t then some v else e.get t:=Env.get_c d v e t
structure Tc (C:Cx) (ih:Job->Option Rs) (ops:List Oper) (bs:List Nat) (s0:S) (q0:Nat) (st:Nat->D):Prop where
 ran: ∀i o,ops[i]?=some o->Ran C ih ops i (bs.getD i 0) o (st i) (st (i+1))
 beg:st 0=⟨s0,[],[],[],q0⟩
section
variable {s0:S}{q0:Nat}{st:Nat->D}
theorem Tc.env (h:Tc C ih ops bs s0 q0 st){i:Nat}{o:Oper}(ho:ops[i]?=some o): ∃v,(st (i+1)).s.env=(st i).s.env.opt o.dst v:=by
 have h1:=h.ran i o ho
 generalize st (i+1)=d' at h1
 cases h1 with
 |off _=>exact⟨_,Qbu _ _ _⟩
 |made _ _ _=>exact⟨_,Qbu _ _ _⟩
 |look _ _=>exact⟨_,Qbu _ _ _⟩
 | @eff v s1 _ _ he _=>
  refine⟨v,?_⟩
  rw[Qbu,(eff_cg (e':=.o) he).1]
theorem Tc.still (h:Tc C ih ops bs s0 q0 st){t:Nat}: ∀(k i:Nat),i+k<=ops.length->(∀j o,i<=j->j<i+k->ops[j]?=some o->o.dst≠some t)->(st (i+k)).s.env.get t=(st i).s.env.get t
 |0,i,_,_=>rfl
 |k+1,i,hk,hn=>by
  have hlt:i+k<ops.length:=by omega
  obtain⟨v,hv⟩:=h.env (Qh hlt)
  have hd:=hn (i+k) _ (by omega) (by omega) (Qh hlt)
  have e:i+(k+1)=i+k+1:=by omega
  rw[e,hv,<-h.still k i (by omega) fun j o h1 h2 h3=>hn j o h1 (by omega) h3]
  unfold Env.opt
  split
  ·rename_i d hdd
   rw[Env.get_set,Qd (by intro e2;subst e2;exact hd hdd)]
  ·rfl
theorem Tc.cs (h:Tc C ih ops bs s0 q0 st): ∀(k i:Nat),i+k<=ops.length->∃A,(st (i+k)).cs=A++(st i).cs/\∀c∈A,i<=c.1/\c.1<i+k
 |0,i,_=>⟨[],rfl,fun _ h=>by cases h⟩
 |k+1,i,hk=>by
  have hlt:i+k<ops.length:=by omega
  obtain⟨A,h1,h2⟩:=h.cs k i (by omega)
  have h3:=h.ran _ _ (Qh hlt)
  have e:i+(k+1)=i+k+1:=by omega
  rw[e]
  have keep: ∀{l},l=(st (i+k)).cs->∃A,l=A++(st i).cs/\∀c∈A,i<=c.1/\c.1<i+k+1:=fun hl=>⟨A,hl.trans h1,fun c hc=>⟨(h2 c hc).1,by have:=(h2 c hc).2;omega⟩⟩
  generalize st (i+k+1)=d' at h3
  cases h3 with
  |off _=>exact keep rfl
  |made _ _ _=>exact keep rfl
  |look _ _=>exact keep rfl
  | @eff v s1 _ _ _ _=>
   refine⟨(i+k,s1)::A,by show(i+k,s1)::(st (i+k)).cs=_;rw[h1];rfl,fun c hc=>?_⟩
   rcases Qk.1 hc with rfl|hc
   ·exact⟨by show i<=i+k;omega,by show i+k<i+k+1;omega⟩
   ·exact⟨(h2 c hc).1,by have:=(h2 c hc).2;omega⟩
theorem Tc.xs (h:Tc C ih ops bs s0 q0 st): ∀(k i:Nat),i+k<=ops.length->(∃A,(st (i+k)).xs=A++(st i).xs/\(∀x∈A,i<=x.1/\x.1<i+k/\(st i).q<=x.2.1/\x.2.1<(st (i+k)).q)/\A.Pairwise (fun x y=>x.2.1≠y.2.1))/\(st i).q<=(st (i+k)).q/\(st (i+k)).q<=(st i).q+k
 |0,i,_=>⟨⟨[],rfl,(fun _ h=>by cases h),List.Pairwise.nil⟩,Qo _,Qo _⟩
 |k+1,i,hk=>by
  have hlt:i+k<ops.length:=by omega
  obtain⟨⟨A,h1,h2,h5⟩,h6,h7⟩:=h.xs k i (by omega)
  have h3:=h.ran _ _ (Qh hlt)
  have e:i+(k+1)=i+k+1:=by omega
  rw[e]
  have keep: ∀{l q},l=(st (i+k)).xs->q=(st (i+k)).q->(∃A,l=A++(st i).xs/\(∀x∈A,i<=x.1/\x.1<i+k+1/\(st i).q<=x.2.1/\x.2.1<q)/\A.Pairwise (fun x y=>x.2.1≠y.2.1))/\(st i).q<=q/\q<=(st i).q+(k+1):=fun hl hq=>by
   subst hq
   exact⟨⟨A,hl.trans h1,fun x hx=>⟨(h2 x hx).1,by have:=(h2 x hx).2.1;omega,(h2 x hx).2.2.1,(h2 x hx).2.2.2⟩,h5⟩,h6,by omega⟩
  generalize st (i+k+1)=d' at h3
  cases h3 with
  |off _=>exact keep rfl rfl
  | @made v x _ _ _=>
   refine⟨⟨(i+k,(st (i+k)).q,x)::A,by show(i+k,(st (i+k)).q,x)::(st (i+k)).xs=_;rw[h1];rfl,fun y hy=>?_,List.Pairwise.cons (fun y hy=>?_) h5⟩,by show(st i).q<=(st (i+k)).q+1;omega,by show(st (i+k)).q+1<=(st i).q+(k+1);omega⟩
   ·rcases Qk.1 hy with rfl|hy
    ·exact⟨by show i<=i+k;omega,by show i+k<i+k+1;omega,h6,by show(st (i+k)).q <(st (i+k)).q+1;omega⟩
    ·obtain⟨g1,g2,g3,g4⟩:=h2 y hy
     exact⟨g1,by omega,g3,by show y.2.1<(st (i+k)).q+1;omega⟩
   ·have:=(h2 y hy).2.2.2
    show(st (i+k)).q≠y.2.1
    omega
  |look _ _=>exact keep rfl rfl
  |eff _ _ _ _=>exact keep rfl rfl
theorem Tc.rs (h:Tc C ih ops bs s0 q0 st): ∀(k i:Nat),i+k<=ops.length->∃A,(st (i+k)).rs=A++(st i).rs
 |0,i,_=>⟨[],rfl⟩
 |k+1,i,hk=>by
  have hlt:i+k<ops.length:=by omega
  obtain⟨A,h1⟩:=h.rs k i (by omega)
  have h3:=h.ran _ _ (Qh hlt)
  have e:i+(k+1)=i+k+1:=by omega
  rw[e]
  generalize st (i+k+1)=d' at h3
  cases h3 with
  |off _=>exact⟨A,h1⟩
  |made _ _ _=>exact⟨A,h1⟩
  |look _ _=>exact⟨_::A,by show _::(st (i+k)).rs=_;rw[h1];rfl⟩
  |eff _ _ _ _=>exact⟨A,h1⟩
theorem Tc.mem (h:Tc C ih ops bs s0 q0 st): ∀(i:Nat),i<=ops.length->(st i).s=⟨(st i).s.env,(behind s0 (st i).cs).ds,(behind s0 (st i).cs).h,(behind s0 (st i).cs).nx,s0.rd,s0.fl⟩
 |0,_=>by rw[h.beg];rfl
 |i+1,hi=>by
  have hlt:i<ops.length:=by omega
  have h1:=h.mem i (by omega)
  have h3:=h.ran _ _ (Qh hlt)
  have up: ∀(s:S) (dst:Option Nat) (v:V) (z:S),s=⟨s.env,z.ds,z.h,z.nx,s0.rd,s0.fl⟩->s.upo dst v=⟨(s.upo dst v).env,z.ds,z.h,z.nx,s0.rd,s0.fl⟩:=fun s dst v z hs=>by
   obtain⟨e1,e2,e3,e4,e5⟩:=upo_eq s dst v
   rw[show s.upo dst v=⟨(s.upo dst v).env,(s.upo dst v).ds,(s.upo dst v).h,(s.upo dst v).nx,(s.upo dst v).rd,(s.upo dst v).fl⟩from rfl,e1,e2,e3,e4,e5,hs]
  generalize st (i+1)=d' at h3
  cases h3 with
  |off _=>exact up _ _ _ _ h1
  |made _ _ _=>exact up _ _ _ _ h1
  |look _ _=>exact up _ _ _ _ h1
  | @eff v s1 _ _ he _=>
   have h4:=(eff_cg (e':=.o) he).1
   rw[h1]at h4
   exact up s1 _ _ s1 (by rw[h4])
end
theorem Qcn (h:T O)(i:Nat)(x:O)(k:Nat):(layIf h i x).get k=if k=i/\h.get i=none then some x else h.get k:=by
 unfold layIf
 split
 ·rename_i o ho
  rw[Qd (by rw[ho];simp)]
 ·rename_i ho
  rw[T.get_set]
  by_cases hk:k=i
  ·rw[Qj hk,Qj ⟨hk,ho⟩]
  ·rw[Qd hk,Qd (by simp[hk])]
theorem Qbq {h:T O}{p:Nat->Bool}: ∀(xs:List (Nat×Nat×O)) {k:Nat} {o:O},h.get k=some o->(lay h p xs).get k=some o
 | [],_,_,hk=>hk
 |(j,i,x)::r,k,o,hk=>by
  unfold lay
  cases p j with
  |false=>exact Qbq r hk
  |true=>
   rw[cond_true,Qcn,Qd,Qbq r hk]
   rintro⟨rfl,h2⟩
   rw[Qbq r hk]at h2
   cases h2
theorem Qaj {h:T O}{p:Nat->Bool}: ∀(xs:List (Nat×Nat×O)) {k:Nat} {o:O},(lay h p xs).get k=some o->h.get k=some o\/(h.get k=none/\∃j,(j,k,o)∈xs/\p j=true)
 | [],_,_,hk=>.inl hk
 |(j,i,x)::r,k,o,hk=>by
  have up:(h.get k=some o\/(h.get k=none/\∃j,(j,k,o)∈r/\p j=true))->h.get k=some o\/(h.get k=none/\∃j',(j',k,o)∈(j,i,x)::r/\p j'=true):=by
   rintro(h1|⟨h1,j',h2,h3⟩)
   ·exact .inl h1
   ·exact .inr ⟨h1,j',Qf _ h2,h3⟩
  unfold lay at hk
  cases hp:p j with
  |false=>rw[hp,cond_false]at hk;exact up (Qaj r hk)
  |true=>
   rw[hp,cond_true,Qcn]at hk
   split at hk
   ·rename_i hb
    obtain⟨rfl,h2⟩:=hb
    injection hk with hk;subst hk
    refine .inr ⟨?_,j,Qg ..,hp⟩
    cases hg:h.get k with
    |none=>rfl
    |some o'=>rw[Qbq r hg]at h2;cases h2
   ·exact up (Qaj r hk)
theorem Qcg {h:T O}{p:Nat->Bool}: ∀(xs:List (Nat×Nat×O)),xs.Pairwise (fun x y=>x.2.1≠y.2.1)->∀{j k:Nat} {o:O},h.get k=none->(j,k,o)∈xs->p j=true->(lay h p xs).get k=some o
 | [],_,_,_,_,_,hm,_=>by cases hm
 |(j',i,x)::r,hp,j,k,o,hk,hm,hj=>by
  have none_of: ∀{i'},h.get i'=none->(∀y∈r,i'≠y.2.1)->(lay h p r).get i'=none:=fun {i'} hi hn=>by
   cases hg:(lay h p r).get i' with
   |none=>rfl
   |some o'=>
    rcases Qaj r hg with h1|⟨_,j2,h2,_⟩
    ·rw[hi]at h1;cases h1
    ·exact absurd rfl (hn _ h2)
  obtain⟨hp1,hp2⟩:=Wi.1 hp
  unfold lay
  rcases Qk.1 hm with e1|hmr
  ·injection e1 with e1 e2
   injection e2 with e2 e3
   subst e1;subst e2;subst e3
   rw[hj,cond_true,Qcn,Qj ⟨rfl,none_of hk hp1⟩]
  ·have h1:=Qcg r hp2 hk hmr hj
   cases p j' with
   |false=>exact h1
   |true=>
    rw[cond_true,Qcn,Qd,h1]
    rintro⟨rfl,_⟩
    exact hp1 _ hmr rfl
theorem Qee {h:T O}{p q:Nat->Bool}: ∀(xs:List (Nat×Nat×O)),(∀x∈xs,p x.1=q x.1)->lay h p xs=lay h q xs
 | [],_=>rfl
 |(j,i,x)::r,hx=>by
  unfold lay
  rw[hx _ (Qg ..),Qee r fun y hy=>hx y (Qf _ hy)]
theorem lay_skip {h:T O}{p:Nat->Bool}: ∀(A xs:List (Nat×Nat×O)),(∀x∈A,p x.1=false)->lay h p (A++xs)=lay h p xs
 | [],_,_=>rfl
 |(j,i,x)::r,xs,hx=>by
  rw[Xq]
  conv=>lhs;unfold lay
  rw[hx _ (Qg ..),cond_false,lay_skip r xs fun y hy=>hx y (Qf _ hy)]
noncomputable def restr (e:Env):List Nat->Env
 | []=>.o
 |t::r=>match e.get t with
  |some v=>(restr e r).set t v
  |none=>restr e r
theorem Qbs (e:Env): ∀(l:List Nat) (t:Nat),(restr e l).get t=if t∈l then e.get t else none
 | [],t=>by simp[restr,Env.get_o]
 |u::r,t=>by
  unfold restr
  split
  ·rename_i v hv
   rw[Env.get_set]
   by_cases hu:u=t
   ·subst hu;rw[Qj rfl,Qj (Qg ..),hv]
   ·rw[Qd hu,Qbs e r t]
    by_cases ht:t∈r
    ·rw[Qj ht,Qj (Qf _ ht)]
    ·rw[Qd ht,Qd]
     intro h1
     rcases Qk.1 h1 with h1|h1
     ·exact hu h1.symm
     ·exact ht h1
  ·rename_i hv
   rw[Qbs e r t]
   by_cases ht:t∈r
   ·rw[Qj ht,Qj (Qf _ ht)]
   ·rw[Qd ht]
    split
    ·rename_i h1
     rcases Qk.1 h1 with h1|h1
     ·rw[h1,hv]
     ·exact absurd h1 ht
    ·rfl
theorem sees_ag (e:Env)(o:Oper):Ag e (restr e (sees ops o)) o.op.operands.toList:=fun x hx=>by
 cases x with
 |tmp t=>
  show e.get t=(restr e (sees ops o)).get t
  rw[Qbs,Qj]
  unfold sees
  exact Wn _ (List.mem_filterMap.2 ⟨.tmp t,hx,rfl⟩)
 |const _=>rfl
 |global _=>rfl
 |func _=>rfl
theorem sees_want (e:Env)(o:Oper):wantedV ops e o.guard=wantedV ops (restr e (sees ops o)) o.guard:=by
 unfold wantedV
 cases hg:o.guard with
 |none=>rfl
 |some q=>
  obtain⟨j,want⟩:=q
  dsimp only
  cases hj:ops[j]? with
  |none=>rfl
  |some p=>
   dsimp only
   unfold wantB
   cases hd:p.dst with
   |none=>rfl
   |some d=>
    dsimp only
    rw[Qbs,Qj]
    unfold sees gdOf
    rw[hg]
    dsimp only
    rw[hj]
    dsimp only
    rw[hd]
    exact Qy _ (Qm.2 rfl)
end
section
variable {P:Program}{w0:World}{ρ ρ':Rho}{h h1 h2 h':T O}{nx nx' m:Nat}{w w':World}{fl:Nat}
theorem HR.sub (hr:HR P w0 ρ h nx w)(hs: ∀k o,h1.get k=some o->h.get k=some o):HR P w0 ρ h1 nx w:=
 ⟨fun i o hi=>hr.live i o (hs _ _ hi),fun i j o p x y hi hj=>hr.inj i j o p x y (hs _ _ hi) (hs _ _ hj),hr.top,hr.base,hr.size,hr.os,hr.tape,hr.output⟩
theorem HR.up (hr:HR P w0 ρ h nx w)(hm:nx<=m):HR P w0 ρ h m w:=
 ⟨fun i o hi=>⟨Qq (hr.live i o hi).1 hm,(hr.live i o hi).2⟩,hr.inj,fun i hi=>hr.top i (Wd hm hi),hr.base,hr.size,hr.os,hr.tape,hr.output⟩
theorem OR.keepQ {x:Pl}{o:O}(hl:Le ρ ρ')(hb:w'.heap[x.b]?=w.heap[x.b]?)(hq:noQ o=true)(ho:OR P ρ w x o):OR P ρ' w' x o:=by
 cases o with
 |c T xs=>obtain⟨vs,arr,h1,h2,h3⟩:=ho;exact⟨vs,arr,Qbj hl _ _ h1,hb.trans h2,h3⟩
 |m es clk pend=>
  obtain⟨ks,arr,h1,h2,h3,h4,h5,h6⟩:=ho
  refine⟨ks,arr,Qcp hl h1,hb.trans h2,h3,h4,h5,fun j k e1=>?_⟩
  obtain⟨y,A,ent,B,ka,kb,g1,g2⟩:=h6 j k e1
  exact⟨y,A,ent,B,ka,kb,hl _ _ g1,g2⟩
 |q m clk p=>cases hq
 |qn=>obtain⟨s,t,c,h1⟩:=ho;exact⟨s,t,c,hb.trans h1⟩
 |st b pos=>exact hb.trans ho
 |lp env ps asg body st pend=>
  obtain⟨lp,n,h1,h2,h3,h4,h5,h6,h8,h9⟩:=ho
  exact⟨lp,n,hb.trans h1,h2,h3,h4,h5,h6,h8.mono hl,h9⟩
 |df=>exact hb.trans ho
theorem HR.spread (hr:HR P w0 ρ h nx w)(hs: ∀k o,h1.get k=some o->h.get k=some o)(hr':HR P w0 ρ' h' nx' w')(ht:Tr ρ h1 nx w ρ' h' nx' w' fl)
  (hc: ∀k o,h2.get k=some o->h'.get k=some o\/(h.get k=some o/\h1.get k=none/\noQ o=true)) (hf: ∀k,k<fl->h2.get k=h'.get k/\h1.get k=h.get k):
  HR P w0 ρ' h2 nx' w'/\Tr ρ h nx w ρ' h2 nx' w' fl:=by
 have apart: ∀{k o x},h.get k=some o->h1.get k=none->ρ k=some x->∀i p y,h1.get i=some p->ρ i=some y->y.b≠x.b:=fun {k o x} hk hk1 hx i p y hi hy e=>by
  have:=hr.inj i k p o y x (hs _ _ hi) hk hy hx e
  subst this
  rw[hk1]at hi;cases hi
 have mixed: ∀{i j o p y z},h'.get i=some o->h.get j=some p->h1.get j=none->ρ' i=some y->ρ j=some z->z.b<w.heap.size->y.b≠z.b:=fun {i j o p y z} hi hj hj1 hy hz hlt e=>by
  obtain⟨k,q,u,g1,g2,g3⟩:=ht.own i o y hi hy (by omega)
  exact apart hj hj1 hz k q u g1 g2 (g3.trans e)
 refine⟨⟨fun k o hk=>?_,fun i j o p y z hi hj hy hz e=>?_,hr'.top,hr'.base,hr'.size,hr'.os,hr'.tape,hr'.output⟩,⟨ht.le,ht.nx,ht.size,fun b hb hn=>ht.keep b hb fun i o x hi hx=>hn i o x (hs _ _ hi) hx,fun i o x hi hx hb=>?_,fun k hk=>?_,fun i o x hi h3 h4=>ht.old i o x hi ((hf i hi).2.trans h3) h4,ht.new⟩⟩
 ·rcases hc k o hk with h3|⟨h3,h4,h5⟩
  ·exact hr'.live k o h3
  ·obtain⟨g1,x,g2,g3,g4,g5⟩:=hr.live k o h3
   exact⟨Qq g1 ht.nx,x,ht.le _ _ g2,g3,Qq g4 ht.size,OR.keepQ ht.le (ht.keep x.b g4 (apart h3 h4 g2)) h5 g5⟩
 ·rcases hc i o hi with h3|⟨h3,h4,_⟩
  ·rcases hc j p hj with h5|⟨h5,h6,_⟩
   ·exact hr'.inj i j o p y z h3 h5 hy hz e
   ·obtain⟨_,x,g2,_,g4,_⟩:=hr.live j p h5
    have:=ht.le _ _ g2
    rw[hz]at this;injection this with this;subst this
    exact absurd e (mixed h3 h5 h6 hy g2 g4)
  ·obtain⟨_,x,g2,_,g4,_⟩:=hr.live i o h3
   have:=ht.le _ _ g2
   rw[hy]at this;injection this with this;subst this
   rcases hc j p hj with h5|⟨h5,h6,_⟩
   ·exact absurd e.symm (mixed h5 h3 h4 hz g2 g4)
   ·obtain⟨_,x,g6,_,g7,_⟩:=hr.live j p h5
    have:=ht.le _ _ g6
    rw[hz]at this;injection this with this;subst this
    exact hr.inj i j o p _ _ h3 h5 g2 g6 e
 ·rcases hc i o hi with h3|⟨h3,_,_⟩
  ·obtain⟨j,p,y,g1,g2,g3⟩:=ht.own i o x h3 hx hb
   exact⟨j,p,y,hs _ _ g1,g2,g3⟩
  ·obtain⟨_,y,g2,_⟩:=hr.live i o h3
   have:=ht.le _ _ g2
   rw[hx]at this;injection this with this;subst this
   exact⟨i,o,_,h3,g2,rfl⟩
 ·rw[(hf k hk).1,ht.flo k hk,(hf k hk).2]
theorem HR.allocAt (hr:HR P w0 ρ h nx w){q:Nat}(hq:ρ q=none)(hlt:q<nx)(ob:Obj)(o:O)(x:Pl)(hx:x.b=w.heap.size)(ho:OR P (ρ.add q x) (w.alloc ob) x o)
  (hc: ∀k p,h2.get k=some p->(k=q/\p=o)\/(k≠q/\h.get k=some p)):HR P w0 (ρ.add q x) h2 nx (w.alloc ob):=by
 have hl:Le ρ (ρ.add q x):=Rho.le_add hq
 have hs:(w.alloc ob).heap.size=w.heap.size+1:=by simp
 have old: ∀k,k<w.heap.size->(w.alloc ob).heap[k]?=w.heap[k]?:=fun k hk=>Below.heap_alloc w ob k hk
 have fresh: ∀{k p y},h.get k=some p->(ρ.add q x) k=some y->y.b<w.heap.size/\ρ k=some y:=fun {k p y} hk hy=>by
  obtain⟨g1,y',g2,_,g4,_⟩:=hr.live k p hk
  rw[hl _ _ g2]at hy
  injection hy with hy
  subst hy;exact⟨g4,g2⟩
 refine⟨fun i p hi=>?_,fun i j p p2 y z hi hj hy hz e1=>?_,fun i hi=>?_,fun k hk=>(old k (Qq hk hr.size)).trans (hr.base k hk),by rw[hs];have:=hr.size;omega,hr.os,hr.tape,hr.output⟩
 ·rcases hc i p hi with⟨rfl,rfl⟩|⟨_,h3⟩
  ·exact⟨hlt,x,Rho.add_same _ _ _,by rw[hx];exact hr.size,by rw[hs,hx];omega,ho⟩
  ·obtain⟨g1,y,g2,g3,g4,g5⟩:=hr.live i p h3
   exact⟨g1,y,hl _ _ g2,g3,by omega,OR.keep hl (by omega) (old _ g4) (fun b hb=>Ben.of_eq (old b hb)) g5⟩
 ·rcases hc i p hi with⟨rfl,rfl⟩|⟨_,h3⟩
  ·rw[Rho.add_same]at hy
   injection hy with hy;subst hy
   rcases hc j p2 hj with⟨rfl,rfl⟩|⟨_,h5⟩
   ·rfl
   ·have:=(fresh h5 hz).1;omega
  ·rcases hc j p2 hj with⟨rfl,rfl⟩|⟨_,h5⟩
   ·rw[Rho.add_same]at hz
    injection hz with hz;subst hz
    have:=(fresh h3 hy).1;omega
   ·exact hr.inj i j p p2 y z h3 h5 (fresh h3 hy).2 (fresh h5 hz).2 e1
 ·rw[Rho.add_other (by omega)];exact hr.top i hi
theorem Tr.allocAt (hr:HR P w0 ρ h nx w){q n0:Nat}(hq:ρ q=none)(hn:n0<=q)(hn2:n0<=nx)(hfl:fl<=q)(ob:Obj)(o:O)(x:Pl)(hx:x.b=w.heap.size)
  (hc: ∀k p,h2.get k=some p->(k=q/\p=o)\/(k≠q/\h.get k=some p)) (hk: ∀k,k≠q->h2.get k=h.get k):Tr ρ h n0 w (ρ.add q x) h2 nx (w.alloc ob) fl:=
 ⟨Rho.le_add hq,hn2,by simp,fun b hb _=>Below.heap_alloc w ob b hb,fun i p y hi hy hb=>by
  rcases hc i p hi with⟨rfl,rfl⟩|⟨hne,h3⟩
  ·rw[Rho.add_same]at hy
   injection hy with hy;subst hy
   omega
  ·rw[Rho.add_other hne]at hy
   exact⟨i,p,y,h3,hy,rfl⟩,fun i hi=>hk i (by omega),fun i o y _ h3 h4=>by
  obtain⟨_,y',g2,_,g4,_⟩:=hr.live i o h3
  rw[h4]at g2;injection g2 with g2;subst g2
  exact Below.heap_alloc w ob _ g4,fun i hi h3=>by rw[Rho.add_other (by omega)];exact h3⟩
theorem Tr.then {ρ'':Rho}{h'':T O}{n0 n1 n2:Nat}{w'':World}(a:Tr ρ h n0 w ρ' h' n1 w' fl)(b:Tr ρ' h' n0 w' ρ'' h'' n2 w'' fl):Tr ρ h n0 w ρ'' h'' n2 w'' fl where
 le:=a.le.trans b.le
 nx:=b.nx
 size:=Wd a.size b.size
 keep k hk hn:=by
  have h1:=a.keep k hk hn
  rw[<-h1]
  refine b.keep k (Qq hk a.size) fun i o x hi hx e1=>?_
  obtain⟨j,p,y,h2,h3,h4⟩:=a.own i o x hi hx (by omega)
  exact hn j p y h2 h3 (h4.trans e1)
 own i o x hi hx hb:=by
  obtain⟨j,p,y,h2,h3,h4⟩:=b.own i o x hi hx (Qq hb a.size)
  obtain⟨j',p',y',h5,h6,h7⟩:=a.own j p y h2 h3 (by omega)
  exact⟨j',p',y',h5,h6,h7.trans h4⟩
 flo i hi:=(b.flo i hi).trans (a.flo i hi)
 old i o x hi h1 h2:=(b.old i o x hi ((a.flo i hi).trans h1) (a.le _ _ h2)).trans (a.old i o x hi h1 h2)
 new i hi h1:=b.new i hi (a.new i hi h1)
theorem Tr.low {n0 n1:Nat}(a:Tr ρ h n1 w ρ' h' nx' w' fl)(hn:n0<=n1):Tr ρ h n0 w ρ' h' nx' w' fl:=
 ⟨a.le,Wd hn a.nx,a.size,a.keep,a.own,a.flo,a.old,fun i hi=>a.new i (Qq hi hn)⟩
end
theorem Qet {α:Type}: ∀l:List α,cnt l=l.length
 | []=>rfl
 |_::r=>by show Nat.add (cnt r) 1=_;rw[Qet r];rfl
theorem split_one {α:Type}{f:α->Nat}{x y:α}: ∀{A X B Z:List α},A++x::B=X++y::Z->f x=f y->(∀a∈A,f a≠f x)->(∀b∈B,f b≠f x)->A=X/\x=y/\B=Z
 | [],[],B,Z,h,_,_,_=>by injection h with h1 h2;exact⟨rfl,h1,h2⟩
 | [],x'::X,B,Z,h,hf,_,hB=>by
  injection h with h1 h2
  exact absurd hf.symm (hB y (by rw[h2];simp))
 |a::A,[],B,Z,h,hf,hA,_=>by
  injection h with h1 h2
  exact absurd (by rw[h1];exact hf.symm) (hA a (Qg ..))
 |a::A,x'::X,B,Z,h,hf,hA,hB=>by
  injection h with h1 h2
  obtain⟨h3,h4,h5⟩:=split_one h2 hf (fun b hb=>hA b (Qf _ hb)) hB
  exact⟨by rw[h1,h3],h4,h5⟩
theorem Qic {α:Type}{p:α->Bool}{A B:List α}(h: ∀a∈A,p a=false):((A++B).filter p).length<=B.length:=by
 rw[List.filter_append,List.filter_eq_nil_iff.2 (fun a ha=>by rw[h a ha];simp),Yp]
 exact List.length_filter_le ..
theorem filter_right {α:Type}{p:α->Bool}{A B:List α}(h: ∀a∈B,p a=false):((A++B).filter p).length<=A.length:=by
 rw[List.filter_append,List.filter_eq_nil_iff (l:=B) |>.2 (fun a ha=>by rw[h a ha];simp),W8]
 exact List.length_filter_le ..
def Ls (L:Array Bool)(i:Nat):Bool:=L.getD i false
theorem Ls_set {L:Array Bool}{i:Nat}(hi:i<L.size)(k:Nat):Ls (L.setIfInBounds i true) k=if k=i then true else Ls L k:=by
 unfold Ls
 by_cases hk:k=i
 ·subst hk;rw[Qj rfl];simp[hi]
 ·rw[Qd hk,Q1,Q1,W7 (Ne.symm hk)]
theorem drop_left {α:Type}(A B:List α):(A++B).drop A.length=B:=by simp
section
variable {P:Program}{C:Cx}{ih:Job->Option Rs}{w0:World}{ops:List Oper}{bs:List Nat}{s0:S}{q0:Nat}{st:Nat->D}{n:Nat}
structure Good (C:Cx) (ih:Job->Option Rs) (ops:List Oper) (bs:List Nat) (s0:S) (q0:Nat) (st:Nat->D) (n:Nat):Prop where
 stat:Stat ops bs
 tc:Tc C ih ops bs s0 q0 st
 re: ∀x∈(st ops.length).rs,reread C s0 bs (st ops.length) x=true
 dst: ∀o∈ops,∀d,o.dst=some d->d<n
 lo:s0.fl<=q0
 rm:q0+ops.length<=s0.nx
structure Inv (P:Program) (w0:World) (ops:List Oper) (bs:List Nat) (s0:S) (q0:Nat) (st:Nat->D) (n:Nat) (ρ0:Rho) (h0:T O) (w00:World) (L:Array Bool) (ρ:Rho) (cs1 cs2:List (Nat×S)) (a:Act) (w:World):Prop where
 size:L.size=ops.length
 down: ∀i o,Ls L i=true->ops[i]?=some o->∀e∈o.after,Region.binds .any e=true->Ls L e.on=true
 split:(st ops.length).cs=cs1++cs2
 no: ∀c∈cs1,Ls L c.1=false
 yes: ∀c∈cs2,Ls L c.1=true
 hr:HR P w0 ρ (lay (behind s0 cs2).h (Ls L) (st ops.length).xs) (behind s0 cs2).nx w
 nx:s0.nx<=(behind s0 cs2).nx
 ds:dcl ρ (behind s0 cs2).ds a.defers
 sz:a.tmps.size=n
 env: ∀t j,j<=ops.length->(∀i o,ops[i]?=some o->o.dst=some t->(Ls L i=true↔i<j))->∀x,(st j).s.env.get t=some x->∃v,cv ρ x=some v/\a.tmps[t]?=some v
 fut: ∀x∈(st ops.length).xs,Ls L x.1=false->ρ x.2.1=none
 hid: ∀x∈(st ops.length).xs,(∀c∈cs2,tst (bs.getD c.1 0) x.1=false)->(behind s0 cs2).h.get x.2.1=none
 shown: ∀x∈(st ops.length).xs,∀c∈cs2,tst (bs.getD c.1 0) x.1=true->((behind s0 cs2).h.get x.2.1).isSome=true
 tr:Tr ρ0 h0 q0 w00 ρ (lay (behind s0 cs2).h (Ls L) (st ops.length).xs) (behind s0 cs2).nx w s0.fl
section
variable {ρ0:Rho}{h0:T O}{w00:World}{L:Array Bool}{ρ ρ':Rho}{cs1 cs2:List (Nat×S)}{a:Act}{w w':World}{i:Nat}{o:Oper}
theorem Good.names (G:Good C ih ops bs s0 q0 st n):(∀x∈(st ops.length).xs,x.1<ops.length/\q0<=x.2.1/\x.2.1<s0.nx)/\(st ops.length).xs.Pairwise (fun x y=>x.2.1≠y.2.1):=by
 obtain⟨⟨A,h1,h2,h3⟩,h4,h5⟩:=G.tc.xs ops.length 0 (by omega)
 rw[Wm]at h1 h2 h4 h5
 rw[G.tc.beg]at h1 h2 h4 h5
 have h1:(st ops.length).xs=A:=by rw[h1];exact W8 A
 rw[h1]
 refine⟨fun x hx=>?_,h3⟩
 obtain⟨_,g2,g3,g4⟩:=h2 x hx
 have h5:(st ops.length).q<=q0+ops.length:=h5
 have:=G.rm
 exact⟨by omega,g3,by omega⟩
theorem Good.xsAt (G:Good C ih ops bs s0 q0 st n)(hi:i<=ops.length): ∃A,(st ops.length).xs=A++(st i).xs/\(∀x∈A,i<=x.1)/\∀x∈(st i).xs,x.1<i:=by
 obtain⟨k,hk⟩: ∃k,ops.length=i+k:=⟨ops.length-i,by omega⟩
 obtain⟨⟨A,h1,h2,_⟩,_⟩:=G.tc.xs k i (by omega)
 obtain⟨⟨B,h3,h4,_⟩,_⟩:=G.tc.xs i 0 (by omega)
 rw[Wm]at h3 h4
 rw[G.tc.beg]at h3
 refine⟨A,by rw[hk];exact h1,fun x hx=>(h2 x hx).1,fun x hx=>?_⟩
 rw[h3,W8]at hx
 exact(h4 x hx).2.1
theorem Good.csAt (G:Good C ih ops bs s0 q0 st n)(hi:i<=ops.length): ∃A,(st ops.length).cs=A++(st i).cs/\(∀x∈A,i<=x.1/\x.1<ops.length)/\∀x∈(st i).cs,x.1<i:=by
 obtain⟨k,hk⟩: ∃k,ops.length=i+k:=⟨ops.length-i,by omega⟩
 obtain⟨A,h1,h2⟩:=G.tc.cs k i (by omega)
 obtain⟨B,h3,h4⟩:=G.tc.cs i 0 (by omega)
 rw[Wm]at h3 h4
 rw[G.tc.beg]at h3
 refine⟨A,by rw[hk];exact h1,fun x hx=>⟨(h2 x hx).1,by have:=(h2 x hx).2;omega⟩,fun x hx=>?_⟩
 rw[h3,W8]at hx
 exact(h4 x hx).2
structure Next (ops:List Oper) (L:Array Bool) (i:Nat) (o:Oper):Prop where
 at':ops[i]?=some o
 un:Ls L i=false
 pre: ∀e∈o.after,Region.binds .any e=true->Ls L e.on=true
variable (G:Good C ih ops bs s0 q0 st n)(I:Inv P w0 ops bs s0 q0 st n ρ0 h0 w00 L ρ cs1 cs2 a w)(N:Next ops L i o)
include G I N
theorem Inv.lt:i<ops.length:=(Qb.1 N.at').1
theorem Inv.pre: ∀j,tst (bs.getD i 0) j=true->Ls L j=true:=G.stat.cl I.down i o N.at' N.pre
theorem Inv.ahead: ∀k,Ls L k=true->k<ops.length->tst (bs.getD k 0) i=false:=fun k hk hlt=>by
 cases hb:tst (bs.getD k 0) i with
 |false=>rfl
 |true=>
  have ho:ops[k]?=some ops[k]:=Qh hlt
  have:=G.stat.cl I.down k _ ho (I.down k _ hk ho) i hb
  rw[N.un]at this;cases this
theorem Inv.setL: ∀k,Ls (L.setIfInBounds i true) k=if k=i then true else Ls L k:=Ls_set (by rw[I.size];exact Inv.lt G I N)
theorem Inv.downS: ∀k p,Ls (L.setIfInBounds i true) k=true->ops[k]?=some p->∀e∈p.after,Region.binds .any e=true->Ls (L.setIfInBounds i true) e.on=true:=fun k p hk hp e he hb=>by
 rw[Inv.setL G I N]at hk ⊢
 split
 ·rfl
 ·split at hk
  ·rename_i h1;subst h1
   rw[N.at']at hp;injection hp with hp;subst hp
   exact N.pre e he hb
  ·exact I.down k p hk hp e he hb
theorem Inv.fe:Fe ρ (restr (st i).s.env (sees ops o)) n a:=⟨I.sz,fun t x hx=>by
 rw[Qbs]at hx
 split at hx
 ·rename_i ht
  refine I.env t i (Xp (Inv.lt G I N)) (fun k p hp hd=>?_) x hx
  by_cases hk:k=i
  ·subst hk
   rw[N.un]
   exact⟨fun h=>(by cases h),fun h=>absurd h (Nat.lt_irrefl _)⟩
  ·rcases G.stat.cmp hp N.at' hd (.inl ht) hk with⟨h1,h2⟩|⟨h1,h2⟩
   ·exact⟨fun _=>h1,fun _=>Inv.pre G I N k h2⟩
   ·refine⟨fun h3=>?_,fun h3=>by omega⟩
    rw[Inv.ahead G I N k h3 (Qb.1 hp).1]at h2;cases h2
 ·cases hx⟩
theorem Inv.want {b:Bool}(hw:wantedV ops (st i).s.env o.guard=some b):Region.wanted o (yielded ops.toArray a.tmps)=b:=by
 rw[sees_want]at hw
 have:=o_aS (ops:=ops.toArray) (Inv.fe G I N) (o:=o) (b:=b) (by simpa using hw)
 exact this
theorem Inv.envS {v:V}{u:Value}(hE:(st (i+1)).s.env=(st i).s.env.opt o.dst v)(hl:Le ρ ρ')(hu:cv ρ' v=some u)(ds:List Deferred):
  (({a with defers:=ds}:Act).put o.dst u).tmps.size=n/\∀t j,j<=ops.length->(∀k p,ops[k]?=some p->p.dst=some t->(Ls (L.setIfInBounds i true) k=true↔k<j))->∀x,(st j).s.env.get t=some x->∃v,cv ρ' x=some v/\(({a with defers:=ds}:Act).put o.dst u).tmps[t]?=some v:=by
 have hlt:=Inv.lt G I N
 have other: ∀t,o.dst≠some t->(({a with defers:=ds}:Act).put o.dst u).tmps[t]?=a.tmps[t]?:=fun t ht=>by
  cases hd:o.dst with
  |none=>rfl
  |some d=>
   show(a.tmps.setIfInBounds d u)[t]?=a.tmps[t]?
   exact W7 (by rintro rfl;exact ht hd)
 refine⟨by cases hd:o.dst with|none=>exact I.sz|some d=>show(a.tmps.setIfInBounds d u).size=n;rw[Yi];exact I.sz,fun t j hj hw x hx=>?_⟩
 by_cases ht:o.dst=some t
 ·have hij:i<j:=(hw i o N.at' ht).1 (by rw[Inv.setL G I N,Qj rfl])
  obtain⟨k,hk⟩: ∃k,j=i+1+k:=⟨j-(i+1),by omega⟩
  subst hk
  rw[G.tc.still k (i+1) hj fun m p h1 h2 hp hd=>?_,hE,ht]at hx
  ·have hx:((st i).s.env.set t v).get t=some x:=hx
   rw[Env.get_set,Qj rfl]at hx
   injection hx with hx;subst hx
   refine⟨u,hu,?_⟩
   rw[ht]
   show(a.tmps.setIfInBounds t u)[t]?=some u
   have:=G.dst o (Qt N.at') t ht
   simp[I.sz,this]
  ·have h3:=(hw m p hp hd).2 h2
   rw[Inv.setL G I N,Qd (by omega)]at h3
   rcases G.stat.cmp hp N.at' hd (.inr ht) (by omega)with⟨h4,_⟩|⟨_,h5⟩
   ·omega
   ·rw[Inv.ahead G I N m h3 (by omega)]at h5;cases h5
 ·obtain⟨v',h1,h2⟩:=I.env t j hj (fun k p hp hd=>by
   have hk:k≠i:=by rintro rfl;rw[N.at']at hp;injection hp with hp;subst hp;exact ht hd
   rw[<-hw k p hp hd,Inv.setL G I N,Qd hk]) x hx
  exact⟨v',Qam hl _ _ h1,by rw[other t ht];exact h2⟩
theorem Inv.quiet {v:V}{u:Value}(hE:(st (i+1)).s.env=(st i).s.env.opt o.dst v)(hcs:(st (i+1)).cs=(st i).cs)(hxs:(st (i+1)).xs=(st i).xs)(hu:cv ρ v=some u):
  Inv P w0 ops bs s0 q0 st n ρ0 h0 w00 (L.setIfInBounds i true) ρ cs1 cs2 (a.put o.dst u) w:=by
 have hlt:=Inv.lt G I N
 obtain⟨A,hA,hA1,_⟩:=G.csAt (i:=i+1) hlt
 obtain⟨_,_,_,hA2⟩:=G.csAt (i:=i) (Xp hlt)
 obtain⟨X,hX,hX1,_⟩:=G.xsAt (i:=i+1) hlt
 obtain⟨_,_,_,hX2⟩:=G.xsAt (i:=i) (Xp hlt)
 have hc: ∀c∈(st ops.length).cs,c.1≠i:=fun c hc=>by
  rw[hA,hcs]at hc
  rcases Q0.1 hc with hc|hc
  ·have:=(hA1 c hc).1;omega
  ·have:=hA2 c hc;omega
 have hx: ∀x∈(st ops.length).xs,x.1≠i:=fun x hx=>by
  rw[hX,hxs]at hx
  rcases Q0.1 hx with hx|hx
  ·have:=hX1 x hx;omega
  ·have:=hX2 x hx;omega
 have hS:=Inv.setL G I N
 have hlay:lay (behind s0 cs2).h (Ls (L.setIfInBounds i true)) (st ops.length).xs=lay (behind s0 cs2).h (Ls L) (st ops.length).xs:=Qee _ fun x h1=>by rw[hS,Qd (hx x h1)]
 obtain⟨e1,e2⟩:=Inv.envS G I N hE (Le.refl ρ) hu a.defers
 exact {
     size:=by rw[Yi];exact I.size,down:=Inv.downS G I N,split:=I.split
     no:=fun c h1=>by rw[hS,Qd (hc c (by rw[I.split];exact Wn _ h1))];exact I.no c h1
     yes:=fun c h1=>by rw[hS];split<;>first|rfl|exact I.yes c h1
     hr:=by rw[hlay];exact I.hr
     nx:=I.nx
     ds:=by cases hd:o.dst with|none=>exact I.ds|some d=>exact I.ds
     sz:=e1,env:=e2
     fut:=fun x h1 h2=>I.fut x h1 (by rw[hS,Qd (hx x h1)]at h2;exact h2)
     hid:=I.hid,shown:=I.shown
     tr:=by rw[hlay];exact I.tr}
theorem Inv.make {v:V}{u:Value}{ob:O}{obj:Obj}{x:Pl}(hE:(st (i+1)).s.env=(st i).s.env.opt o.dst v)(hcs:(st (i+1)).cs=(st i).cs)(hxs:(st (i+1)).xs=(i,(st i).q,ob)::(st i).xs)
  (hx:x.b=w.heap.size) (ho:OR P (ρ.add (st i).q x) (w.alloc obj) x ob) (hu:cv (ρ.add (st i).q x) v=some u):
  Inv P w0 ops bs s0 q0 st n ρ0 h0 w00 (L.setIfInBounds i true) (ρ.add (st i).q x) cs1 cs2 (a.put o.dst u) (w.alloc obj):=by
 have hlt:=Inv.lt G I N
 obtain⟨A,hA,hA1,_⟩:=G.csAt (i:=i+1) hlt
 obtain⟨_,_,_,hA2⟩:=G.csAt (i:=i) (Xp hlt)
 obtain⟨X,hX,hX1,_⟩:=G.xsAt (i:=i+1) hlt
 obtain⟨_,_,_,hX2⟩:=G.xsAt (i:=i) (Xp hlt)
 rw[hxs]at hX
 have hc: ∀c∈(st ops.length).cs,c.1≠i:=fun c hc=>by
  rw[hA,hcs]at hc
  rcases Q0.1 hc with hc|hc
  ·have:=(hA1 c hc).1;omega
  ·have:=hA2 c hc;omega
 have hin:(i,(st i).q,ob)∈(st ops.length).xs:=by rw[hX];simp
 have hone: ∀y∈(st ops.length).xs,y.1=i->y=(i,(st i).q,ob):=fun y hy h1=>by
  rw[hX]at hy
  rcases Q0.1 hy with hy|hy
  ·have:=hX1 y hy;omega
  ·rcases Qk.1 hy with hy|hy
   ·exact hy
   ·have:=hX2 y hy;omega
 obtain⟨hnm,hpw⟩:=G.names
 obtain⟨_,hq1,hq2⟩:=hnm _ hin
 have hname: ∀y∈(st ops.length).xs,y.2.1=(st i).q->y=(i,(st i).q,ob):=fun y hy h1=>by
  rw[hX]at hy hpw
  obtain⟨_,h2,h3⟩:=List.pairwise_append.1 hpw
  rcases Q0.1 hy with hy|hy
  ·exact absurd h1 (h3 y hy _ (Qg ..))
  ·rcases Qk.1 hy with hy|hy
   ·exact hy
   ·exact absurd h1.symm ((Wi.1 h2).1 y hy)
 have hS:=Inv.setL G I N
 have hq:ρ (st i).q=none:=I.fut _ hin N.un
 have hhid:(behind s0 cs2).h.get (st i).q=none:=I.hid _ hin fun c hc=>by
  have hcc:c∈(st ops.length).cs:=by rw[I.split];exact Qy _ hc
  rw[hA]at hcc
  refine Inv.ahead G I N c.1 (I.yes c hc) ?_
  rcases Q0.1 hcc with h1|h1
  ·exact(hA1 c h1).2
  ·rw[hcs]at h1;have:=hA2 c h1;omega
 have hgone:(lay (behind s0 cs2).h (Ls L) (st ops.length).xs).get (st i).q=none:=by
  cases hg:(lay (behind s0 cs2).h (Ls L) (st ops.length).xs).get (st i).q with
  |none=>rfl
  |some p=>
   rcases Qaj _ hg with h1|⟨_,j,h1,h2⟩
   ·rw[hhid]at h1;cases h1
   ·have:=hname _ h1 rfl
    injection this with h3 _
    rw[h3,N.un]at h2;cases h2
 have hsome:(lay (behind s0 cs2).h (Ls (L.setIfInBounds i true)) (st ops.length).xs).get (st i).q=some ob:=Qcg _ hpw hhid hin (by rw[hS,Qj rfl])
 have hsame: ∀k,k≠(st i).q->(lay (behind s0 cs2).h (Ls (L.setIfInBounds i true)) (st ops.length).xs).get k=(lay (behind s0 cs2).h (Ls L) (st ops.length).xs).get k:=fun k hk=>by
  cases hg:(lay (behind s0 cs2).h (Ls L) (st ops.length).xs).get k with
  |some p=>
   rcases Qaj _ hg with h1|⟨h0,j,h1,h2⟩
   ·exact Qbq _ h1
   ·exact Qcg _ hpw h0 h1 (by rw[hS];split<;>first|rfl|exact h2)
  |none=>
   cases hg':(lay (behind s0 cs2).h (Ls (L.setIfInBounds i true)) (st ops.length).xs).get k with
   |none=>rfl
   |some p=>
    rcases Qaj _ hg' with h1|⟨h0,j,h1,h2⟩
    ·rw[Qbq _ h1]at hg;cases hg
    ·rw[hS]at h2
     split at h2
     ·rename_i hj
      have:=hone _ h1 hj
      injection this with _ h3
      injection h3 with h3 _
      exact absurd h3 hk
     ·rw[Qcg _ hpw h0 h1 h2]at hg;cases hg
 have hcase: ∀k p,(lay (behind s0 cs2).h (Ls (L.setIfInBounds i true)) (st ops.length).xs).get k=some p->(k=(st i).q/\p=ob)\/(k≠(st i).q/\(lay (behind s0 cs2).h (Ls L) (st ops.length).xs).get k=some p):=fun k p hk=>by
  by_cases h1:k=(st i).q
  ·subst h1;rw[hsome]at hk;injection hk with hk;exact .inl ⟨rfl,hk.symm⟩
  ·rw[hsame k h1]at hk;exact .inr ⟨h1,hk⟩
 have hle:Le ρ (ρ.add (st i).q x):=Rho.le_add hq
 obtain⟨e1,e2⟩:=Inv.envS G I N hE hle hu a.defers
 exact {
     size:=by rw[Yi];exact I.size,down:=Inv.downS G I N,split:=I.split
     no:=fun c h1=>by rw[hS,Qd (hc c (by rw[I.split];exact Wn _ h1))];exact I.no c h1
     yes:=fun c h1=>by rw[hS];split<;>first|rfl|exact I.yes c h1
     hr:=I.hr.allocAt hq (Qq hq2 I.nx) obj ob x hx ho hcase
     nx:=I.nx
     ds:=Qbm hle (by cases hd:o.dst with|none=>exact I.ds|some d=>exact I.ds)
     sz:=e1,env:=e2
     fut:=fun y h1 h2=>by
      rw[hS]at h2
      split at h2
      ·cases h2
      ·rename_i hj
       rw[Rho.add_other (fun h3=>hj (by rw[hname y h1 h3]))]
       exact I.fut y h1 h2
     hid:=I.hid,shown:=I.shown
     tr:=I.tr.then (Tr.allocAt I.hr hq hq1 (Wd hq1 (Wd (Xp hq2) I.nx)) (Wd G.lo hq1) obj ob x hx hcase hsame)}
end
end
theorem lay_low {h:T O}{p:Nat->Bool}{xs:List (Nat×Nat×O)}{k:Nat}(hk: ∀x∈xs,x.2.1≠k):(lay h p xs).get k=h.get k:=by
 cases hg:(lay h p xs).get k with
 |some o=>
  rcases Qaj _ hg with h1|⟨_,j,h1,_⟩
  ·exact h1.symm
  ·exact absurd rfl (hk _ h1)
 |none=>
  cases hg':h.get k with
  |none=>rfl
  |some o=>rw[Qbq _ hg']at hg;cases hg
section
variable {P:Program}{C:Cx}{ih:Job->Option Rs}{w0:World}{ops:List Oper}{bs:List Nat}{s0:S}{q0:Nat}{st:Nat->D}{n:Nat}
theorem Tc.noQ (h:Tc C ih ops bs s0 q0 st): ∀(i:Nat),i<=ops.length->∀x∈(st i).xs,Go.M.noQ x.2.2=true
 |0,_,x,hx=>by rw[h.beg]at hx;cases hx
 |i+1,hi,x,hx=>by
  have hlt:i<ops.length:=by omega
  have h1:=h.noQ i (by omega)
  have h3:=h.ran _ _ (Qh hlt)
  generalize st (i+1)=d' at h3 hx
  cases h3 with
  |off _=>exact h1 x hx
  |look _ _=>exact h1 x hx
  |eff _ _ _ _=>exact h1 x hx
  |made _ _ hq=>
   rcases Qk.1 hx with rfl|hx
   ·exact hq
   ·exact h1 x hx
section
variable {ρ0:Rho}{h0:T O}{w00:World}{L:Array Bool}{ρ ρ':Rho}{cs1 cs2:List (Nat×S)}{a:Act}{w w':World}{i:Nat}{o:Oper}
variable (G:Good C ih ops bs s0 q0 st n)(I:Inv P w0 ops bs s0 q0 st n ρ0 h0 w00 L ρ cs1 cs2 a w)(N:Next ops L i o)
include G I N
theorem Inv.small {xs:List (Nat×Nat×O)}(hx: ∀x∈xs,x∈(st ops.length).xs): ∀k p,(lay (behind s0 cs2).h (tst (bs.getD i 0)) xs).get k=some p->(lay (behind s0 cs2).h (Ls L) (st ops.length).xs).get k=some p:=fun k p hk=>by
 rcases Qaj _ hk with h1|⟨h1,j,h2,h3⟩
 ·exact Qbq _ h1
 ·exact Qcg _ G.names.2 h1 (hx _ h2) (Inv.pre G I N j h3)
theorem Inv.cs2lt: ∀c∈cs2,c.1<ops.length:=fun c hc=>by
 obtain⟨A,hA,hA1,_⟩:=G.csAt (i:=0) (Xl _)
 have h1:c∈(st ops.length).cs:=by rw[I.split];exact Qy _ hc
 rw[hA,G.tc.beg]at h1
 exact(hA1 c (by simpa using h1)).2
theorem Inv.look {v:V}(hrs:(i,o.op,(st i).s.env,v)∈(st ops.length).rs)(hl:look1 C (st i).s.env (lay (st i).s.h (tst (bs.getD i 0)) (st i).xs) o.op (cls o.op)=some v):
  look1 C (st i).s.env (lay (behind s0 cs2).h (tst (bs.getD i 0)) (st ops.length).xs) o.op (cls o.op)=some v:=by
 have hlt:=Inv.lt G I N
 have hre:=G.re _ hrs
 unfold reread at hre
 dsimp only at hre
 cases hc:Nat.beq (cls o.op) 0 with
 |true=>
  rw[Ql hc]at hl ⊢
  exact hl
 |false=>
  rw[hc,cond_false]at hre
  unfold reread2 at hre
  rw[Qet,Qet,Qet]at hre
  have bnd: ∀{A B:List (Nat×S)},(st ops.length).cs=A++B->(∀c∈A,tst (bs.getD i 0) c.1=false)->(∀c∈B,tst (bs.getD c.1 0) i=false)->
    ((st ops.length).cs.filter fun c=>tst (bs.getD i 0) c.1).length<=B.length/\B.length<=(st ops.length).cs.length -((st ops.length).cs.filter fun c=>tst (bs.getD c.1 0) i).length:=fun {A B} hs h1 h2=>by
   rw[hs]
   refine⟨Qic h1,?_⟩
   have:=filter_right (A:=A) (B:=B) (p:=fun c=>tst (bs.getD c.1 0) i) h2
   rw[Wg]
   omega
  obtain⟨b1,b2⟩:=bnd I.split (fun c hc=>by
   cases hb:tst (bs.getD i 0) c.1 with
   |false=>rfl
   |true=>have:=Inv.pre G I N c.1 hb;rw[I.no c hc]at this;cases this) (fun c hc=>Inv.ahead G I N c.1 (I.yes c hc) (Inv.cs2lt G I N c hc))
  obtain⟨A,hA,hA1,hA2⟩:=G.csAt (i:=i) (Xp hlt)
  obtain⟨X,hX,hX1,hX2⟩:=G.xsAt (i:=i) (Xp hlt)
  cases he:Nat.beq ((st ops.length).cs.filter fun c=>tst (bs.getD i 0) c.1).length ((st ops.length).cs.length -((st ops.length).cs.filter fun c=>tst (bs.getD c.1 0) i).length)with
  |true=>
   have he:=Ql he
   obtain⟨b3,b4⟩:=bnd hA (fun c hc=>by
    cases hb:tst (bs.getD i 0) c.1 with
    |false=>rfl
    |true=>have:=G.stat.lt i c.1 hlt hb;have:=(hA1 c hc).1;omega) (fun c hc=>by
    cases hb:tst (bs.getD c.1 0) i with
    |false=>rfl
    |true=>have h1:=hA2 c hc;have:=G.stat.lt c.1 i (by omega) hb;omega)
   have e1:cs2=(st i).cs:=(List.append_inj' (I.split.symm.trans hA) (by omega)).2
   have e2:(st i).s.h=(behind s0 cs2).h:=by
    have:=G.tc.mem i (Xp hlt)
    rw[e1,this]
   rw[hX,lay_skip _ _ fun x hx=>?_,<-e2]
   ·exact hl
   ·cases hb:tst (bs.getD i 0) x.1 with
    |false=>rfl
    |true=>have:=G.stat.lt i x.1 hlt hb;have:=hX1 x hx;omega
  |false=>
   rw[he,cond_false]at hre
   have h1:=Qx.1 hre (cs2.length-((st ops.length).cs.filter fun c=>tst (bs.getD i 0) c.1).length) (Yw.2 (by omega))
   have e1:(st ops.length).cs.length -(((st ops.length).cs.filter fun c=>tst (bs.getD i 0) c.1).length+(cs2.length-((st ops.length).cs.filter fun c=>tst (bs.getD i 0) c.1).length))=cs1.length:=by
    have:=Qv List.length I.split
    rw[Wg]at this
    omega
   rw[e1,I.split,drop_left]at h1
   unfold same1 at h1
   split at h1
   ·rename_i u hu
    rw[hu,<-Qdt _ _ h1]
   ·cases h1
theorem Inv.chg {v:V}{s1:S}(hE:(st (i+1)).s.env=(st i).s.env.opt o.dst v)(hcs:(st (i+1)).cs=(i,s1)::(st i).cs)(hxs:(st (i+1)).xs=(st i).xs)
  (hall: ∀c∈(st i).cs,tst (bs.getD i 0) c.1=true) (hth: ∀x∈(st i).xs,tst (bs.getD i 0) x.1=true->(s1.h.get x.2.1).isSome=true):cs2=(st i).cs/\
  ∀{ρ':Rho} {w':World} {u:Value} {ds':List Deferred},cv ρ' v=some u->HR P w0 ρ' s1.h s1.nx w'->dcl ρ' s1.ds ds'->Tr ρ (lay (behind s0 cs2).h (tst (bs.getD i 0)) (st i).xs) (behind s0 cs2).nx w ρ' s1.h s1.nx w' s0.fl->
   ∃A,Inv P w0 ops bs s0 q0 st n ρ0 h0 w00 (L.setIfInBounds i true) ρ' A ((i,s1)::cs2) (({a with defers:=ds'}:Act).put o.dst u) w':=by
 have hlt:=Inv.lt G I N
 obtain⟨A,hA,hA1,_⟩:=G.csAt (i:=i+1) hlt
 obtain⟨_,_,_,hA2⟩:=G.csAt (i:=i) (Xp hlt)
 obtain⟨X,hX,hX1,_⟩:=G.xsAt (i:=i+1) hlt
 obtain⟨_,_,_,hX2⟩:=G.xsAt (i:=i) (Xp hlt)
 rw[hcs]at hA
 rw[hxs]at hX
 have hin1:(i,s1)∈cs1:=by
  have:(i,s1)∈(st ops.length).cs:=by rw[hA];simp
  rw[I.split]at this
  rcases Q0.1 this with h1|h1
  ·exact h1
  ·have:=I.yes _ h1;rw[N.un]at this;cases this
 obtain⟨X1,Y,hXY⟩:=Jb hin1
 have hsp:A++(i,s1)::(st i).cs=X1++(i,s1)::(Y++cs2):=by rw[<-hA,I.split,hXY];simp
 obtain⟨k1,_,k2⟩:=split_one (f:=Prod.fst) hsp rfl (fun c hc=>by have:=(hA1 c hc).1;show c.1≠i;omega) (fun c hc=>by have:=hA2 c hc;show c.1≠i;omega)
 have hY:Y=[]:=by
  cases hY:Y with
  |nil=>rfl
  |cons y r=>
   have h1:y∈(st i).cs:=by rw[k2,hY];simp
   have h2:=Inv.pre G I N y.1 (hall y h1)
   rw[I.no y (by rw[hXY,hY];simp)]at h2
   cases h2
 have k3:cs2=(st i).cs:=by rw[k2,hY];rfl
 refine⟨k3,fun {ρ' w' u ds'} hcv hr' hds ht=>⟨A,?_⟩⟩
 have hS:=Inv.setL G I N
 have hx: ∀x∈(st ops.length).xs,x.1≠i:=fun x hx=>by
  rw[hX]at hx
  rcases Q0.1 hx with hx|hx
  ·have:=hX1 x hx;omega
  ·have:=hX2 x hx;omega
 have hsub: ∀x∈(st i).xs,x∈(st ops.length).xs:=fun x h1=>by rw[hX];exact Qy _ h1
 have hback: ∀x∈(st ops.length).xs,tst (bs.getD i 0) x.1=true->x∈(st i).xs:=fun x h1 h2=>by
  rw[hX]at h1
  rcases Q0.1 h1 with h1|h1
  ·have:=hX1 x h1;have:=G.stat.lt i x.1 hlt h2;omega
  ·exact h1
 obtain⟨hnm,hpw⟩:=G.names
 have hone: ∀x∈(st ops.length).xs,∀y∈(st ops.length).xs,x.2.1=y.2.1->x=y:=fun x h1 y h2 h3=>by
  have key: ∀{l:List (Nat×Nat×O)},l.Pairwise (fun x y=>x.2.1≠y.2.1)->x∈l->y∈l->x=y:=fun {l}=>by
   induction l with
   |nil=>intro _ h;cases h
   |cons z r ihr=>
    intro hp hx hy
    obtain⟨p1,p2⟩:=Wi.1 hp
    rcases Qk.1 hx with e1|hx1
    ·rcases Qk.1 hy with e2|hy1
     ·exact e1.trans e2.symm
     ·subst e1;exact absurd h3 (p1 y hy1)
    ·rcases Qk.1 hy with e2|hy1
     ·subst e2;exact absurd h3.symm (p1 x hx1)
     ·exact ihr p2 hx1 hy1
  exact key hpw h1 h2
 have far: ∀x∈(st ops.length).xs,tst (bs.getD i 0) x.1=false->∀c∈cs2,tst (bs.getD c.1 0) x.1=false:=fun x h1 h2 c hc=>by
  cases hb:tst (bs.getD c.1 0) x.1 with
  |false=>rfl
  |true=>rw[G.stat.tr i c.1 x.1 hlt (hall c (by rw[<-k3];exact hc)) hb]at h2;cases h2
 have hsn: ∀x∈(st ops.length).xs,tst (bs.getD i 0) x.1=false->(lay (behind s0 cs2).h (tst (bs.getD i 0)) (st i).xs).get x.2.1=none:=fun x h1 h2=>by
  cases hg:(lay (behind s0 cs2).h (tst (bs.getD i 0)) (st i).xs).get x.2.1 with
  |none=>rfl
  |some p=>
   rcases Qaj _ hg with h3|⟨_,j,h3,h4⟩
   ·rw[I.hid x h1 (far x h1 h2)]at h3;cases h3
   ·have:=hone _ (hsub _ h3) x h1 rfl
    rw[<-this]at h2
    have h2:tst (bs.getD i 0) j=false:=h2
    rw[h4]at h2;cases h2
 have hfl: ∀{h:T O} {p:Nat->Bool} {xs:List (Nat×Nat×O)} {k:Nat},(∀x∈xs,x∈(st ops.length).xs)->k<s0.fl->(lay h p xs).get k=h.get k:=fun {h p xs k} hx hk=>lay_low fun x h1=>by
  have:=(hnm x (hx x h1)).2.1
  have:=G.lo
  omega
 obtain⟨g1,g2⟩:=HR.spread (h2:=lay s1.h (Ls (L.setIfInBounds i true)) (st ops.length).xs) I.hr (Inv.small G I N hsub) hr' ht (fun k p hk=>by
  rcases Qaj _ hk with h1|⟨h1,j,h2,h3⟩
  ·exact .inl h1
  ·have hji:j≠i:=hx _ h2
   rw[hS,Qd hji]at h3
   have hb:tst (bs.getD i 0) j=false:=by
    cases hb:tst (bs.getD i 0) j with
    |false=>rfl
    |true=>
     have h4:=hth _ (hback _ h2 hb) hb
     have h4:(s1.h.get k).isSome=true:=h4
     rw[h1]at h4;cases h4
   exact .inr ⟨Qcg _ hpw (I.hid _ h2 (far _ h2 hb)) h2 h3,hsn _ h2 hb,G.tc.noQ _ (Qo _) _ h2⟩) (fun k hk=>⟨hfl (fun _ h=>h) hk,by rw[hfl hsub hk,hfl (fun _ h=>h) hk]⟩)
 obtain⟨e1,e2⟩:=Inv.envS G I N hE ht.le hcv ds'
 have hnx0:q0<=(behind s0 cs2).nx:=by have:=G.rm;have:=I.nx;omega
 exact {
     size:=by rw[Yi];exact I.size,down:=Inv.downS G I N,split:=by rw[hA,k3]
     no:=fun c h1=>by rw[hS,Qd (by have:=(hA1 c h1).1;omega)];exact I.no c (by rw[hXY,<-k1];exact Wn _ h1)
     yes:=fun c h1=>by
      rw[hS]
      rcases Qk.1 h1 with rfl|h1
      ·rw[Qj rfl]
      ·(split)
       ·rfl
       ·exact I.yes c h1
     hr:=g1
     nx:=Wd I.nx ht.nx
     ds:=by cases hd:o.dst with|none=>exact hds|some d=>exact hds
     sz:=e1,env:=e2
     fut:=fun x h1 h2=>by
      rw[hS,Qd (hx x h1)]at h2
      exact ht.new _ (Qq (hnm x h1).2.2 I.nx) (I.fut x h1 h2)
     hid:=fun x h1 h2=>by
      have hb:tst (bs.getD i 0) x.1=false:=h2 (i,s1) (Qg ..)
      show s1.h.get x.2.1=none
      cases hg:s1.h.get x.2.1 with
      |none=>rfl
      |some p=>
       obtain⟨_,y,hy,_⟩:=hr'.live _ p hg
       cases hL:Ls L x.1 with
       |false=>rw[ht.new _ (Qq (hnm x h1).2.2 I.nx) (I.fut x h1 hL)]at hy;cases hy
       |true=>
        have hbig:(lay (behind s0 cs2).h (Ls L) (st ops.length).xs).get x.2.1=some x.2.2:=Qcg _ hpw (I.hid x h1 (far x h1 hb)) h1 hL
        obtain⟨_,y',hy',_,hlt',_⟩:=I.hr.live _ _ hbig
        have:=ht.le _ _ hy'
        rw[hy]at this;injection this with this;subst this
        obtain⟨j,p',z,j1,j2,j3⟩:=ht.own _ p y hg hy hlt'
        have:=I.hr.inj j x.2.1 p' x.2.2 z y (Inv.small G I N hsub _ _ j1) hbig j2 hy' j3
        rw[this,hsn x h1 hb]at j1
        cases j1
     shown:=fun x h1 c h2 h3=>by
      have hb:tst (bs.getD i 0) x.1=true:=by
       rcases Qk.1 h2 with rfl|h2
       ·exact h3
       ·exact G.stat.tr i c.1 x.1 hlt (hall c (by rw[<-k3];exact h2)) h3
      exact hth x (hback x h1 hb) hb
     tr:=I.tr.then (g2.low hnx0)}
end
end
def cntF:List Bool->Nat
 | []=>0
 |b::r=>(if b=true then 0 else 1)+cntF r
theorem cntF_set: ∀(l:List Bool) (i:Nat),l[i]?=some false->cntF (l.set i true)+1=cntF l
 | [],_,h=>by simp at h
 |b::r,0,h=>by
  simp only[Wl,Qc]at h
  subst h
  simp[cntF];omega
 |b::r,i+1,h=>by
  have:=cntF_set r i (by simpa using h)
  simp only[List.set_cons_succ,cntF]
  omega
theorem cntF_0: ∀(l:List Bool),cntF l=0->∀i:Nat,l[i]?≠some false
 | [],_,i=>by simp
 |b::r,h,i=>by
  unfold cntF at h
  cases i with
  |zero=>intro h1;simp only[Wl,Qc]at h1;subst h1;simp at h
  |succ i=>intro h1;exact cntF_0 r (by omega) i (by simpa using h1)
theorem cntF_rep: ∀n,cntF (List.replicate n false)=n
 |0=>rfl
 |n+1=>by rw[List.replicate_succ];unfold cntF;rw[cntF_rep n];simp;omega
section
variable {P:Program}{C:Cx}{ih:Job->Option Rs}{w0:World}{ops:List Oper}{bs:List Nat}{s0:S}{q0:Nat}{st:Nat->D}{n:Nat}{r:Option Nat}{Q:Exit->Act->World->Prop}
variable {ρ0:Rho}{h0:T O}{w00:World}{L:Array Bool}{ρ ρ':Rho}{cs1 cs2:List (Nat×S)}{a:Act}{w w':World}{i:Nat}{o:Oper}
def Inv' (P:Program)(w0:World)(ops:List Oper)(bs:List Nat)(s0:S)(q0:Nat)(st:Nat->D)(n:Nat)(ρ0:Rho)(h0:T O)(w00:World)(L:Array Bool)(a:Act)(w:World):Prop:=∃ρ cs1 cs2,Inv P w0 ops bs s0 q0 st n ρ0 h0 w00 L ρ cs1 cs2 a w
theorem Inv.one (hC:OKC P C)(hi:Sd P C ih)(hrd:r.isSome=s0.rd)(G:Good C ih ops bs s0 q0 st n)(I:Inv P w0 ops bs s0 q0 st n ρ0 h0 w00 L ρ cs1 cs2 a w)(N:Next ops L i o):
  wpOpIn (FW r) 0 P ops.toArray Q i (fun a' w'=>Inv' P w0 ops bs s0 q0 st n ρ0 h0 w00 (L.setIfInBounds i true) a' w') a w:=by
 have hlt:=Inv.lt G I N
 have hran:=G.tc.ran i o N.at'
 have hfe:=Inv.fe G I N
 have hsub: ∀x∈(st i).xs,x∈(st ops.length).xs:=fun x h1=>by
  obtain⟨A,hA,_⟩:=G.xsAt (i:=i) (Xp hlt)
  rw[hA];exact Qy _ h1
 have hag:=sees_ag (ops:=ops) (st i).s.env o
 unfold wpOpIn
 rw[show ops.toArray[i]?=some o by simpa using N.at']
 dsimp only
 obtain⟨d',hd'⟩: ∃d',d'=st (i+1):=⟨_,rfl⟩
 rw[<-hd']at hran
 cases hran with
 |off hw=>
  rw[Inv.want G I N hw,Qd (by decide)]
  refine⟨fun _ _=>trivial,ρ,cs1,cs2,Inv.quiet G I N (v:=un) ?_ ?_ ?_ Qfc⟩
  ·rw[<-hd'];exact Qbu _ _ _
  ·rw[<-hd']
  ·rw[<-hd']
 | @made v x hw hl hq=>
  rw[Inv.want G I N hw,Qj rfl]
  have hin:(i,(st i).q,x)∈(st ops.length).xs:=by
   obtain⟨A,hA,_⟩:=G.xsAt (i:=i+1) hlt
   rw[hA,<-hd'];simp
  obtain⟨obj,pl,u,h1,h2,h3,h4⟩:=o_bE hC I.hr (I.fut _ hin N.un) hfe (alloc1_cg (m':=lay (behind s0 cs2).h (Ls L) (st ops.length).xs) hag hl hq)
  obtain⟨dst,op,T,pos,af,gd⟩:=o
  refine Qbi (h4 dst T pos af gd) (fun _ h=>by cases h) ⟨_,cs1,cs2,Inv.make G I N (v:=v) ?_ ?_ ?_ h1 h2 h3⟩
  ·rw[<-hd'];exact Qbu _ _ _
  ·rw[<-hd']
  ·rw[<-hd']
 | @look v hw hl=>
  rw[Inv.want G I N hw,Qj rfl]
  have hrs:(i,o.op,(st i).s.env,v)∈(st ops.length).rs:=by
   obtain⟨k,hk⟩: ∃k,ops.length=i+1+k:=⟨ops.length-(i+1),by omega⟩
   obtain⟨A,hA⟩:=G.tc.rs k (i+1) (by omega)
   rw[hk,hA,<-hd'];simp
  have h5:=Inv.look G I N hrs hl
  rw[look1_cg hag]at h5
  obtain⟨u,h1,h2⟩:=o_bU hC (I.hr.sub (Inv.small G I N (fun _ h=>h))) hfe h5
  obtain⟨dst,op,T,pos,af,gd⟩:=o
  refine Qbi (h2 dst T pos af gd) (fun _ h=>by cases h) ⟨ρ,cs1,cs2,Inv.quiet G I N (v:=v) ?_ ?_ ?_ h1⟩
  ·rw[<-hd'];exact Qbu _ _ _
  ·rw[<-hd']
  ·rw[<-hd']
 | @eff v s1 hw hall he hth=>
  rw[Inv.want G I N hw,Qj rfl]
  have hm:=G.tc.mem i (Xp hlt)
  have hs1:s1.env=(st i).s.env:=by rw[hm]at he;rw[(eff_cg (e':=.o) he).1]
  obtain⟨k3,hgo⟩:=Inv.chg G I N (v:=v) (s1:=s1) (by rw[<-hd'];show(s1.upo o.dst v).env=_;rw[Qbu,hs1]) (by rw[<-hd']) (by rw[<-hd']) hall hth
  rw[<-k3]at hm
  have he2:eff C ih ⟨(st i).s.env,(behind s0 cs2).ds,lay (behind s0 cs2).h (tst (bs.getD i 0)) (st i).xs,(behind s0 cs2).nx,s0.rd,s0.fl⟩ o.op=some (v,s1):=by rw[hm]at he;exact he
  have he3:=(eff_cg he2).2 hag
  have hfl:s0.fl<=(behind s0 cs2).nx:=by have:=G.lo;have:=G.rm;have:=I.nx;omega
  have hst:St P w0 ρ n ⟨restr (st i).s.env (sees ops o),(behind s0 cs2).ds,lay (behind s0 cs2).h (tst (bs.getD i 0)) (st i).xs,(behind s0 cs2).nx,s0.rd,s0.fl⟩ a w:=⟨hfe,I.ds,I.hr.sub (Inv.small G I N hsub),hfl⟩
  obtain⟨dst,op,T,pos,af,gd⟩:=o
  refine o_cx hC hi hst hrd he3 fun ρ' w' u ds' h1 h2 h3 h4 h5=>?_
  obtain⟨A,hI⟩:=hgo h1 h2.hr h2.ds h3
  exact⟨ρ',A,_,hI⟩
theorem Inv.hel (hC:OKC P C)(hi:Sd P C ih)(hrd:r.isSome=s0.rd)(G:Good C ih ops bs s0 q0 st n)(hQ: ∀L a w,(∀i,i<ops.length->Ls L i=true)->Inv' P w0 ops bs s0 q0 st n ρ0 h0 w00 L a w->Q .normal a w):
  ∀(f:Nat) (L:Array Bool) (a:Act) (w:World),cntF L.toList=f->Inv' P w0 ops bs s0 q0 st n ρ0 h0 w00 L a w->Hel r P ops.toArray Q (fun _=>True) f L a w:=by
 have next: ∀{L:Array Bool} {i:Nat},i∈Region.ready .any ops.toArray L->∃o,Next ops L i o:=fun {L i} hi=>by
  obtain⟨h1,o,h2,h3⟩:=mem_ready.1 hi
  refine⟨o,by simpa using h2,?_,h3⟩
  unfold Ls
  rw[Q1]at h1 ⊢
  cases hg:L[i]? with
  |none=>rw[hg]at h1;cases h1
  |some b=>rw[hg]at h1;exact h1
 have all: ∀{L:Array Bool} {a:Act} {w:World},Inv' P w0 ops bs s0 q0 st n ρ0 h0 w00 L a w->Region.ready .any ops.toArray L=[]->∀i,i<ops.length->Ls L i=true:=fun {L a w} hI hr i=>by
  obtain⟨ρ,cs1,cs2,I⟩:=hI
  induction i using Nat.strongRecOn with
  |_ i ihi=>
   intro hlt
   cases hL:Ls L i with
   |true=>rfl
   |false=>
    have hin:i∈Region.ready .any ops.toArray L:=mem_ready.2 ⟨by
     unfold Ls at hL
     rw[Q1]at hL ⊢
     have:i<L.size:=by rw[I.size];exact hlt
     rw[Q3 this]at hL ⊢
     exact hL,ops[i],by simp[hlt],fun e he hb=>by
     have h1:=G.stat.edge i _ e (Qh hlt) he hb
     exact ihi e.on h1 (by omega)⟩
    rw[hr]at hin;cases hin
 intro f
 induction f with
 |zero=>
  intro L a w hf hI
  have hr:Region.ready .any ops.toArray L=[]:=by
   cases hr:Region.ready .any ops.toArray L with
   |nil=>rfl
   |cons i l=>
    obtain⟨o,N⟩:=next (L:=L) (i:=i) (by rw[hr];exact Qg ..)
    obtain⟨_,_,_,I⟩:=hI
    have hlt:i<L.size:=by rw[I.size];exact(Qb.1 N.at').1
    have h1:=N.un
    unfold Ls at h1
    rw[Q1,Q3 hlt]at h1
    exact absurd (by rw[Wh,Q3 hlt];exact Qv some h1) (cntF_0 _ hf i)
  exact⟨hr,hQ L a w (all hI hr) hI⟩
 |succ f ihf=>
  intro L a w hf hI
  refine⟨fun hr=>hQ L a w (all hI hr) hI,fun i hi'=>?_⟩
  obtain⟨o,N⟩:=next hi'
  obtain⟨ρ,cs1,cs2,I⟩:=hI
  refine wpOpIn_mono (fun a' w' hI'=>⟨trivial,ihf _ a' w' ?_ hI'⟩) (Inv.one hC hi hrd G I N)
  have hlt:i<L.size:=by rw[I.size];exact(Qb.1 N.at').1
  have h1:=N.un
  unfold Ls at h1
  rw[Q1,Q3 hlt]at h1
  have:=cntF_set L.toList i (by rw[Wh,Q3 hlt];exact Qv some h1)
  rw[Array.toList_setIfInBounds]
  omega
end
theorem drOk {P:Program}{C:Cx}{ih:Job->Option Rs}(hC:OKC P C)(hi:Sd P C ih):DrOk P C ih:=by
 intro ops s s' hl w0 ρ n id a w r hok hrd hst
 unfold drawn at hl
 split at hl
 ·rename_i bs hbs
  unfold dRun0 dEnd at hl
  split at hl
  ·rename_i d hd
   obtain⟨hre,h1⟩:=Qaa hl
   injection h1 with h1
   subst h1
   obtain⟨st,g1,g2,g3⟩:=Qhc _ 0 _ _ hd
   rw[Wm]at g2
   have hok:(ops.toList.all fun o=>match o.dst with|some d=>Nat.blt d n|none=>true)=true:=hok
   have hlen:ops.size=ops.toList.length:=by simp
   have G:Good C ih ops.toList bs (s.sethn s.h (s.nx+cnt ops.toList)) s.nx st n:=by
    refine⟨o_dk hbs,⟨fun i o ho=>by have:=g3 i o ho;rwa[Wm]at this,g1⟩,fun x hx=>?_,fun o ho d hod=>?_,hst.fl,by show s.nx+ops.toList.length<=s.nx+cnt ops.toList;rw[Qet];exact Qo _⟩
    ·rw[g2]at hx ⊢
     exact Qx.1 hre x hx
    ·have:=Qx.1 hok o ho
     rw[hod]at this
     exact Qi this
   have hLs: ∀k,Ls (Array.replicate ops.toList.length false) k=false:=fun k=>by
    unfold Ls
    rw[Q1]
    rw[Array.getElem?_replicate];split<;>rfl
   refine wpIn_region_any hC.mixed (Hel.any (S:=fun _=>True) _ _ _ _ ?_)
   have hw:HR P w0 ρ s.h s.nx ({w with drawn:=w.drawn+1}:World):=hst.hr.heap rfl rfl rfl rfl
   have key:Hel r P ops.toList.toArray (fun e a' w'=>e=.normal/\To P w0 ρ n s w (d.s.seth (lay d.s.h (fun _=>true) d.xs)) a' w') (fun _=>True) ops.size (Array.replicate ops.toList.length false) a {w with drawn:=w.drawn+1}:=by
    refine Inv.hel (s0:=s.sethn s.h (s.nx+cnt ops.toList)) (w0:=w0) (ρ0:=ρ) (h0:=s.h) (w00:=w) hC hi hrd G (fun L a' w' hall hI=>⟨rfl,?_⟩) _ _ _ _ (by rw[Array.toList_replicate,cntF_rep,hlen]) ?_
    rotate_left
    ·obtain⟨ρ',cs1,cs2,I⟩:=hI
     have hcs1:cs1=[]:=by
      cases cs1 with
      |nil=>rfl
      |cons c l=>
       obtain⟨A,hA,hA1,_⟩:=G.csAt (i:=0) (Xl _)
       have h1:c∈(st ops.toList.length).cs:=by rw[I.split];simp
       rw[hA,G.tc.beg]at h1
       have:=hall c.1 (hA1 c (by simpa using h1)).2
       rw[I.no c (Qg ..)]at this;cases this
     subst hcs1
     have hcs2:cs2=d.cs:=by rw[<-g2,I.split];rfl
     have hm:=G.tc.mem _ (Qo _)
     rw[g2,<-hcs2]at hm
     have hlay:lay (behind (s.sethn s.h (s.nx+cnt ops.toList)) cs2).h (Ls L) (st ops.toList.length).xs=lay d.s.h (fun _=>true) d.xs:=by
      rw[hm,g2]
      exact Qee _ fun x hx=>hall x.1 (G.names.1 x (by rw[g2];exact hx)).1
     have hnx:(behind (s.sethn s.h (s.nx+cnt ops.toList)) cs2).nx=d.s.nx:=by rw[hm]
     have hds:(behind (s.sethn s.h (s.nx+cnt ops.toList)) cs2).ds=d.s.ds:=by rw[hm]
     refine⟨ρ',⟨⟨I.sz,fun t x hx=>?_⟩,?_,?_,?_⟩,?_,?_,?_⟩
     ·refine I.env t ops.toList.length (Qo _) (fun k o ho _=>?_) x (by rw[g2];exact hx)
      have:=(Qb.1 ho).1
      exact⟨fun _=>this,fun _=>hall k this⟩
     ·have:=I.ds;rw[hds]at this;exact this
     ·have:=I.hr;rw[hlay,hnx]at this;exact this
     ·show d.s.fl<=d.s.nx
      rw[<-hnx]
      have:=I.nx
      have h2:d.s.fl=s.fl:=by rw[hm];rfl
      rw[h2]
      have h3:s.nx<=(s.sethn s.h (s.nx+cnt ops.toList)).nx:=Nat.le_add_right _ _
      exact Wd hst.fl (Wd h3 this)
     ·have:=I.tr;rw[hlay,hnx]at this;exact this
     ·show d.s.rd=s.rd;rw[hm];rfl
     ·show d.s.fl=s.fl;rw[hm];rfl
    ·have hlay: ∀xs:List (Nat×Nat×O),lay s.h (Ls (Array.replicate ops.toList.length false)) xs=s.h:=fun xs=>by
      have:=lay_skip (h:=s.h) (p:=Ls (Array.replicate ops.toList.length false)) xs [] fun x _=>hLs x.1
      rw[W8]at this
      rw[this];rfl
     have hup:s.nx<=s.nx+cnt ops.toList:=Nat.le_add_right _ _
     refine⟨ρ,(st ops.toList.length).cs,[],?_⟩
     exact {
         size:=(by simp),down:=fun k o hk=>(by rw[hLs]at hk;cases hk),split:=(by simp)
         no:=fun c _=>hLs c.1,yes:=fun c hc=>(by cases hc)
         hr:=by show HR P w0 ρ (lay s.h _ _) (s.nx+cnt ops.toList) _;rw[hlay];exact hw.up hup
         nx:=Qo _
         ds:=hst.ds
         sz:=hst.fe.size
         env:=fun t j hj hw x hx=>by
          have:=G.tc.still j 0 (by omega) (t:=t) fun k o _ h2 ho hd=>by
           have:=(hw k o ho hd).2 (by omega)
           rw[hLs]at this;cases this
          rw[Wm]at this
          rw[this,g1]at hx
          exact hst.fe.get t x hx
         fut:=fun x hx _=>hst.hr.top _ (G.names.1 x hx).2.1
         hid:=fun x hx _=>by
          show s.h.get x.2.1=none
          cases hg:s.h.get x.2.1 with
          |none=>rfl
          |some p=>have:=(hst.hr.live _ p hg).1;have:=(G.names.1 x hx).2.1;omega
         shown:=fun x _ c hc=>(by cases hc)
         tr:=by
          show Tr ρ s.h s.nx w ρ (lay s.h _ _) (s.nx+cnt ops.toList) _ s.fl
          rw[hlay]
          exact⟨Le.refl _,hup,Qo _,fun _ _ _=>rfl,fun i o x h1 h2 _=>⟨i,o,x,h1,h2,rfl⟩,fun _ _=>rfl,fun _ _ _ _ _ _=>rfl,fun _ _ h=>h⟩}
   rw[Q4,<-hlen]at key
   exact key
  ·cases hl
 ·cases hl
theorem o_dl {P:Program}{t:Nat}{I:Ti}(h:tiOf P t=some I):TOK P t I:=by
 unfold tiOf at h
 split at h
 ·rename_i u i hu hi
  split at h
  ·rename_i z pl hz hpl
   obtain⟨hb,h1⟩:=Qaa h
   clear h
   rw[Qe,Qe]at hb
   obtain⟨⟨h2,h3⟩,h4⟩:=hb
   have h4:=Ql h4
   injection h1 with h1
   subst h1
   refine⟨hu,by simp[szB,hi],?_,⟨i,z,hi,hz,rfl,h2,fun ha=>?_,fun ha=>?_,rfl,rfl,h4⟩,fun fs hfs=>?_,fun he=>?_⟩
   ·unfold aggB;rw[hu];cases u<;>rfl
   ·have ha:isAg u=true:=ha
    rw[ha]at h3
    have h3:isAggV z=true:=h3
    cases z<;>first|(cases h3;done)|rfl
   ·have ha:isAg u=false:=ha
    rw[ha]at h3
    exact h3
   ·have hfs:u=.struct fs:=hfs
    subst hfs
    exact hpl
   ·have he:(!P.stoodInHeld t&& !P.eqGuardType P.depth t)=true:=he
    rw[Qe]at he
    exact⟨by simpa using he.1,by simpa using he.2⟩
  ·cases h
 ·cases h
theorem o_dD {P:Program}(hm:P.follows .mixedOrders=true):OKC P (mkC P .lf) where
 ty t I h:=o_dl (tb_get _ _ _ _ h)
 fn i f h:=by
  have h:fnOf P i=some f:=tb_get _ _ _ _ h
  unfold fnOf at h
  split at h
  ·rename_i g hg
   cases hb:(g.name== "runtime.NumGoroutine")with
   |true=>rw[hb]at h;cases h
   |false=>
    rw[hb,cond_false]at h
    injection h with h
    subst h
    exact⟨hg,by simpa using hb⟩
  ·cases h
 mixed:=hm
 gv g:=rfl
theorem run0_ok {P:Program}{n:Nat}{f:FuncId}{v:Value}(hm:P.follows .mixedOrders=true)(h:run0 (mkC P .lf) n f=some (.k v))(w:World):
  Calls P f #[] w fun e w'=>e=.returned v/\Ch [] w w':=by
 have hC:=o_dD hm
 have hs:=Sd.ai hC (fun ih hi=>drOk hC hi) (fun ih hi=>mlOk hC hi) n
 unfold run0 at h
 split at h
 ·rename_i v' h' nx' hc
  injection h with h;subst h
  have hr:HR P w (fun _=>none) .lf 0 w:=⟨(fun i o hi=>by rw[T.get_lf]at hi;cases hi),(fun i j o p x y hi=>by rw[T.get_lf]at hi;cases hi),fun _ _=>rfl,fun _ _=>rfl,Qo _,rfl,rfl,rfl⟩
  have h1:=hs.call hc hr (Qo _) (Qgm (by unfold cvl;rfl) (by unfold cvl;rfl)) (by unfold cvl;rfl)
  obtain⟨a,c,g1,g2,_,g4⟩:=h1
  rw[Qbp g1,Qbp g2]at g4
  have g5:Calls P f #[] w (En P w (fun _=>none) .lf 0 0 w (.k v) h' nx'):=by simpa using g4
  refine g5.mono fun e w' ⟨u,ρ',he,hu,hr',ht⟩=>?_
  rw[he,cv_k hu]
  exact⟨rfl,hr'.os,hr'.tape,hr'.output,ht.size,fun k hk _=>hr'.base k hk⟩
 ·cases h
noncomputable def resI:Option Rs->Int
 |some (.call (.k (.int _ m)) _ _)=>m
 |_=>0
noncomputable def resH:Option Rs->T O
 |some (.call _ h _)=>h
 |_=>.lf
noncomputable def resN:Option Rs->Nat
 |some (.call _ _ n)=>n
 |_=>0
end Go.M
end
section
namespace Go.A
open Go.RowKit Go.Z
theorem Ct.closed {P:Program}{f:FuncId}(h: ∀w,Calls P f #[] w fun e w'=>e=.returned (.bool true)/\Ch [] w w')(r:Bool)(hr:some true=some r):Ct P f [] [] [] (fun v H'=>v=.bool r/\H'=[]):=fun w F hh=>by
 refine(h w).mono ?_
 rintro e w' ⟨rfl,hch⟩
 injection hr with hr
 subst hr
 exact⟨_,[],rfl,⟨rfl,rfl⟩,hch,fun k r h=>(by cases h),fun k b ⟨_,h,_⟩=>(by cases h),fun k k' b ⟨_,h,_⟩=>(by cases h),fun k r j h=>(by cases h)⟩
end Go.A
end
section
namespace Go.Proofs.YtlbdgahbamalcaaGreatDoor
def F.ct:Option Bool:=some true
theorem o_ar (r:Bool)(f:F.ct=some r):A.Ct Tryz.prog 6 [] [] [] (fun v H'=>v=.bool r/\H'=[]):=A.Ct.closed (M.run0_ok (by kernel_rfl) T6) r f
end Go.Proofs.YtlbdgahbamalcaaGreatDoor
end
