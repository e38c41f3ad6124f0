import Derived.Test.YtligcbdjiolamaaGreatDoorA2
import Derived.RecoverIn
set_option linter.defProp false
set_option linter.unusedVariables false
set_option linter.unusedSimpArgs false
set_option linter.unusedSectionVars false
set_option maxRecDepth 20000
section
namespace Go.M
open Go.RowKit Go.Z
section
variable {P:QR}{C:Cx}{w0:World}{ρ:Rho}{h:T O}{nx fl:Nat}{w w':World}{e:Env}{n:Nat}{a:Act}{s s':S}
def HR.move (J:HR P w0 ρ h nx w){i:Nat}{o o':O}{x x':Pl}(hi:h.get i=some o)(hx:ρ i=some x)(hb:x'.b=x.b)(hs:w'.heap.size=w.heap.size)(hw: ∀k,k≠x.b->w'.heap[k]?=w.heap[k]?)(h1:w'.os=w.os)(h2:w'.tape=w.tape)(h3:w'.output=w.output)
  (hben:Ben w w' x.b) (ho:OR P (ρ.add nx x') w' x' o'):HR P w0 (ρ.add nx x') ((h.del i).set nx o') (nx+1) w':=by
 obtain⟨hin,y,H,hlo,hhi,_⟩:=J.live i o hi;rw[hx]at H;injection H with H
 subst H;have hl:Le ρ (ρ.add nx x'):=Rho.le_add (J.top nx (Qr _));have hbenAll: ∀b,b<w.heap.size->Ben w w' b:=λb _=>by
  by_cases hb:b=x.b;subst hb;exact hben;exact Ben.of_eq (hw b hb)
 have old: ∀{k r},k≠nx->((h.del i).set nx o').get k=some r->h.get k=some r/\k≠i:=λ{k r} hk hg=>by
  rw[T.get_set_other _ _ hk,T.get_del]at hg;split at hg;cases hg;rename_i e1;exact⟨hg,e1⟩
 have apart: ∀{k r y},h.get k=some r->k≠i->ρ k=some y->y.b≠x.b:=λ{k r y} hk hki H e1=>hki (J.inj k i r o y x hk hi H hx e1);refine⟨λj p hj=>?_,λj k p q y z hj hk H hz e1=>?_,λj hj=>?_,λk hk=>(hw k (by omega)).trans (J.base k hk),by rw[hs];exact J.size,h1.trans J.os,h2.trans J.tape,h3.trans J.output⟩;by_cases E:j=nx;subst E;rw[T.get_set_same]at hj;injection hj with hj
 subst hj;exact⟨by omega,x',Rho.add_same _ _ _,by omega,by omega,ho⟩;obtain⟨W,g2⟩:=old E hj;obtain⟨k1,y,k2,k3,k4,k5⟩:=J.live j p W;exact⟨by omega,y,hl _ _ k2,k3,by omega,OR.keep hl (by omega) (hw y.b (apart W g2 k2)) hbenAll k5⟩;have res: ∀{k r y},k≠nx->h.get k=some r->(ρ.add nx x') k=some y->ρ k=some y:=λ{k r y} hk _ H=>by rwa[Rho.add_other hk]at H
 by_cases E:j=nx<;>by_cases Y:k=nx;omega;subst E;rw[Rho.add_same]at H;injection H with H;subst H
 obtain⟨W,g2⟩:=old Y hk;exact absurd (by rw[<-e1,hb]) (apart W g2 (res Y W hz));subst Y;rw[Rho.add_same]at hz;injection hz with hz;subst hz
 obtain⟨W,g2⟩:=old E hj;exact absurd (by rw[e1,hb]) (apart W g2 (res E W H));obtain⟨W,_⟩:=old E hj;obtain⟨g3,_⟩:=old Y hk;exact J.inj j k p q y z W g3 (res E W H) (res Y g3 hz) e1;rw[Rho.add_other (by omega)];exact J.top j (by omega)
def Tr.move (Y:HR P w0 ρ h nx w){i:Nat}{o o':O}{x x':Pl}(W:h.get i=some o)(hx:ρ i=some x)(hb:x'.b=x.b)(hs:w'.heap.size=w.heap.size)(hw: ∀k,k≠x.b->w'.heap[k]?=w.heap[k]?)(hfl:fl<=i)(hnx:fl<=nx):Tr ρ h nx w (ρ.add nx x') ((h.del i).set nx o') (nx+1) w' fl:=
 ⟨Rho.le_add (Y.top nx (Qr _)),by omega,by omega,λb hb2 hn=>hw b λe1=>hn i o x W hx e1.symm,λj p y E J _=>by
  by_cases H:j=nx;subst H;rw[Rho.add_same]at J;injection J with J;subst J
  exact⟨i,o,x,W,hx,hb.symm⟩;rw[T.get_set_other _ _ H,T.get_del]at E;rw[Rho.add_other H]at J;split at E;cases E;exact⟨j,p,y,E,J,rfl⟩,λj E=>by rw[T.get_set_other _ _ (by omega),T.get_del,Qb (by omega)],λj p y E h1 h2=>hw y.b λe=>by have:=Y.inj j i p o y x h1 W h2 hx e;omega,λj E h1=>by rw[Rho.add_other (by omega)];exact h1⟩
def o_a1 {xs l:List V}{o m:Nat}(h:cells xs o m=some l):l=(xs.drop o).take m/\l.length=m:=by
 unfold cells at h;obtain⟨E,h1⟩:=Qaa h;injection h1 with h1
 exact⟨h1.symm,by rw[<-h1];exact Qk E⟩
def o_dh (hr:HR P w0 ρ h nx w){sz k:Nat}{y:V}{ys:List V}{uy:Value}(H:cv ρ y=some uy)(J:isSl y=true)(E:elems h sz y=some (ys,k)):
  (k=0/\∃A c,uy=.slice A 0 c)\/(0<k/\∃ad c news,uy=.slice (some ad) k c/\cvc ρ ys=some news/\news.length=k*sz/\∀j u,news[j]?=some u->w.cell? (ad.add j)=some u):=by
 unfold elems at E;split at E;rename_i i o len c hs;rw[V.sl?_eq hs]at H;cases h0:Nat.beq len 0 with
 |true=>
  rw[h0,cond_true]at E;simp only[Qg,Qt]at E;obtain⟨rfl,rfl⟩:=E;have:=Qk h0;subst this;obtain⟨x,_,_,rfl⟩:=cv_s H;exact .inl ⟨rfl,_,_,rfl⟩
 |false=>
  rw[h0,cond_false]at E;split at E;rename_i T xs hrow;split at E;rename_i l hl;simp only[Qg,Qt]at E;obtain⟨rfl,rfl⟩:=E;obtain⟨rfl,hlen⟩:=o_a1 hl;obtain⟨x,vs,arr,hx,rfl,_,Y,_,_,_,_,_,hcell⟩:=hr.cells H hrow;have hvs2:=Qbb (len*sz) (Qbc o Y);have hpos:0<len:=by
   cases len with
   |zero=>cases h0
   |succ m=>omega
  refine .inr ⟨hpos,_,_,_,rfl,hvs2,by rw[Qai hvs2,hlen],λj u W=>hcell j u ?_⟩;rw[W8]at W;split at W;rw[Wj]at W;exact W;cases W;cases E;cases E
 split at E;rename_i b hb;rw[V.str?_eq hb]at J;cases J;obtain⟨hn,h1⟩:=Qaa E;simp only[Qg,Qt]at h1;obtain⟨rfl,rfl⟩:=h1;rw[V.nilS_eq hn]at H;exact .inl ⟨rfl,none,0,cv_k H⟩
def Qkm (H:OKC P C){t el ty:QQ}{J:Ti}(W:P.underlying t=some (.slice el))(Y:C.ty.get el=some J){A B:QK}{len c d:Nat}(E:len<=c)(w:World):(Builtin.append_ #[t,t] ty #[.slice A len c,.slice B 0 d]).run P w=.ok (.slice A len c) w:=by
 cases B<;>cases A<;>simp[Builtin.append_,Ql W,o_p H Y,Builtin.lenOf,E,Builtin.firstCells,loadCells,loadCellsFrom,storeCells]
def o_bv (hC:OKC P C)(hr:HR P w0 ρ h nx w){el:QQ}{J:Ti}(hJ:C.ty.get el=some J){l:List V}{vs:QL}(H:cvc ρ l=some vs){m cap:Nat}(hm:vs.length=m*J.n)(hcap:m<=cap){z:Value}(hz:z.cells.size=J.n)(W:fl<=nx):
  HR P w0 (ρ.add nx ⟨w.heap.size,0,cap,J.n⟩) (h.set nx (.c el l)) (nx+1) (w.drew.alloc (.cells (vs.toArray++Builtin.zeroCells z.cells (cap-m)) el))/\
   Tr ρ h nx w (ρ.add nx ⟨w.heap.size,0,cap,J.n⟩) (h.set nx (.c el l)) (nx+1) (w.drew.alloc (.cells (vs.toArray++Builtin.zeroCells z.cells (cap-m)) el)) fl:=by
 have E:HR P w0 ρ h nx w.drew:=hr.heap rfl rfl rfl rfl;have Y:OR P (ρ.add nx ⟨w.heap.size,0,cap,J.n⟩) (w.drew.alloc (.cells (vs.toArray++Builtin.zeroCells z.cells (cap-m)) el)) ⟨w.heap.size,0,cap,J.n⟩ (.c el l):=
  ⟨vs,_,Qbn (Rho.le_add (hr.top nx (Qr _))) _ _ H,Xe w.drew _,λk v hk=>by
   have hlt:=(Qe.1 hk).1;rw[Wl,Xr (by simpa using hlt)];simpa using hk,(hC.ty el J hJ).sz,by
   simp only[Wl,Array.size_append,Xk,size_zeroCells,hz,hm,<-Xq];congr 1;omega⟩
 exact⟨E.alloc _ _ _ rfl Y,(Tr.heap (w:=w) (w':=w.drew) ρ h nx fl rfl).trans (Tr.alloc (w:=w.drew) E (.cells (vs.toArray++Builtin.zeroCells z.cells (cap-m)) el) (.c el l) ⟨w.heap.size,0,cap,J.n⟩ rfl W)⟩
def Ap (P:QR)(w0:World)(ρ:Rho)(h:T O)(nx fl:Nat)(w:World)(t ty:QQ)(ux uy:Value)(r:V×T O×Nat):Prop:=∃ρ' w' u,HR P w0 ρ' r.2.1 r.2.2 w'/\Tr ρ h nx w ρ' r.2.1 r.2.2 w' fl/\cv ρ' r.1=some u/\(Builtin.append_ #[t,t] ty #[ux,uy]).run P w=.ok u w'
def run_room {t el ty:QQ}{J:Ti}(Y:OKC P C)(ht:P.underlying t=some (.slice el))(hJ:C.ty.get el=some J){g off sLen sCap:Nat}{cur:Array Value}(hg:w.heap[g]?=some (.cells cur el (0,0))){ad:Addr}{m c:Nat}{news:QL}(hl:news.length=m*J.n)(hnews: ∀j u,news[j]?=some u->w.cell? (ad.add j)=some u)
  (h1: ∀u∈news,u.oneCell'=true) (hroom:sLen+m<=sCap) (hfit:off+sLen*J.n+news.length<=cur.size):
  (Builtin.append_ #[t,t] ty #[.slice (some ⟨g,off,none⟩) sLen sCap,.slice (some ad) m c]).run P w=.ok (.slice (some ⟨g,off,none⟩) (sLen+m) sCap) (w.setRow g (cur.toList.take (off+sLen*J.n)++news++cur.toList.drop (off+sLen*J.n+news.length)).toArray):=by
 obtain⟨i,z,hi,hz,_,_,_,_,_,H,_⟩:=(Y.ty el J hJ).info;have W:=run_firstCells_some (P:=P) w i.size m ad m c news (by rw[H];exact hl) hnews;rw[H]at W;have E:=run_storeCells_at P g (off+sLen*J.n) el news 0 cur w hg (by simpa using hfit) h1;simp only[Jw]at E;simp[Builtin.append_,Ql ht,sizeOf,typeInfo,hi,Builtin.lenOf,hroom,W,Wf,H,E]
def o_cK (hC:OKC P C)(hr:HR P w0 ρ h nx w)(hnx:fl<=nx){t el ty:QQ}{J:Ti}(ht:P.underlying t=some (.slice el))(hJ:C.ty.get el=some J){x y:V}{ux uy:Value}(hx:cv ρ x=some ux)(hy:cv ρ y=some uy){r:V×T O×Nat}(hl:Qhs J el h nx fl x y=some r):Ap P w0 ρ h nx fl w t ty ux uy r:=by
 unfold Qhs at hl;obtain⟨hsy,h1⟩:=Qap hl;clear hl;rw[Jr]at hsy;split at h1;cases h1;rename_i ys k he;rcases o_dh hr hy hsy he with⟨rfl,B,d,rfl⟩|⟨hk,ad,cy,news,rfl,hys,hnl,hnews⟩
 rw[show Nat.beq 0 0=true from rfl,cond_true]at h1;obtain⟨hsx,h2⟩:=Qaa h1;injection h2 with h2
 subst h2;have key: ∃A len c,ux=.slice A len c/\len<=c:=by
  unfold isSl at hsx;rw[Xs]at hsx;rcases hsx with hsx|hsx
  rw[V.nilS_eq hsx]at hx;exact⟨none,0,0,cv_k hx,Qr _⟩;obtain⟨⟨i,o,len,c⟩,hs⟩:=Xt.1 hsx;rw[V.sl?_eq hs]at hx;obtain⟨E,_,hok,rfl⟩:=cv_s hx;refine⟨_,_,_,rfl,?_⟩;cases c with
  |c m=>exact Q7 hok
  |u m z=>
   have hok:z=E.s/\o=m*E.s/\m+len<=E.c:=Q7 hok;show len<=E.c-m;omega
 obtain⟨A,len,c,rfl,hle⟩:=key;exact⟨ρ,w,_,hr,Tr.refl _ _ _ _ _,hx,Qkm hC ht hJ hle w⟩;have hk0:Nat.beq k 0=false:=by cases k with
  |zero=>omega
  |succ=>rfl
 rw[hk0,cond_false]at h1;obtain⟨hfit,h2⟩:=Qaa h1;clear h1;unfold fits at hfit;rw[Qd,Qd]at hfit;have f1:=Qm hfit.1.1;have f2:=Qm hfit.1.2;have f3:=Qm hfit.2;obtain⟨i0,z,hi,hz,_,_,_,_,hby,hn,hzn⟩:=(hC.ty el J hJ).info;have hone:=cvc_one hys;unfold ap1 at h2;split at h2;rename_i i o len c hs;simp only[hs,Option.elim]at f1;split at h2;rename_i TT xs hrow;obtain⟨hT,h3⟩:=Qaa h2;clear h2;have hT:=Qk hT;subst hT;rw[V.sl?_eq hs]at hx;obtain⟨E,vs,arr,hx1,rfl,hok,hvs,hb,hsz,hcap,hget,hlt,hcell⟩:=hr.cells hx hrow;have hs1:E.s=J.n:=by
  have:=(hC.ty TT J hJ).sz;rw[hsz]at this;injection this
 have hkb:(len+k)*i0.bytes<=140737488355328:=by rw[hby];exact f1
 have h63:len+k<=140737488355328:=Wb (Y1 _ f2) f1;have grow: ∀(h':T O),HR P w0 ρ h' nx w->Tr ρ h nx w ρ h' nx w fl->capN E c<len+k->∀l,cells xs o (len*J.n)=some l->Ap P w0 ρ h nx fl w t ty (.slice (some ⟨E.b,E.o+o,none⟩) len (capN E c)) (.slice (some ad) k cy) (.s nx 0 (len+k) (.u 0 J.n),h'.set nx (.c TT (l++ys)),nx+1):=λh' hr' htr hlt2 l hl=>by
  obtain⟨rfl,hll⟩:=o_a1 hl;have hvs2:=Qbb (len*J.n) (Qbc o hvs);have hol:((vs.drop o).take (len*J.n)).length=len*J.n:=by rw[Qai hvs2,hll]
  have hg:=grownCap_ge w (len+k) (capN E c) TT;obtain⟨g1,g2⟩:=o_bv (fl:=fl) (m:=len+k) (cap:=grownCap w (len+k) (capN E c) TT) hC hr' hJ (Qby hvs2 hys) (by rw[Qz,hol,hnl,Xq]) hg hzn hnx;refine⟨_,_,_,g1,htr.trans g2,Qbm (Rho.add_same _ _ _) (Q4 (⟨rfl,(Jg _).symm,by show 0+(len+k)<=grownCap w (len+k) (capN E c) TT;omega⟩:J.n=(Pl.mk w.heap.size 0 (grownCap w (len+k) (capN E c) TT) J.n).s/\0=0*(Pl.mk w.heap.size 0 (grownCap w (len+k) (capN E c) TT) J.n).s/\0+(len+k)<=(Pl.mk w.heap.size 0 (grownCap w (len+k) (capN E c) TT) J.n).c)),?_⟩;have:=run_append_grow (P:=P) w t ty TT i0 z ht hi hz ⟨E.b,E.o+o,none⟩ len (capN E c) ((vs.drop o).take (len*J.n)) (by rw[hol,hn]) (λj v hj=>hcell j v (by
   rw[W8]at hj;split at hj;rw[Wj]at hj;exact hj;cases hj)) ad k cy news (by rw[hn];exact hnl) hnews hlt2 (by omega) (growslice_fits hlt2 hkb)
  rw[this];simp[capN]
 have inpl: ∀xs',Qdp xs (o+len*J.n) ys=some xs'->fl<=i->len+k<=capN E c->slOk E o (len+k) c=true->Ap P w0 ρ h nx fl w t ty (.slice (some ⟨E.b,E.o+o,none⟩) len (capN E c)) (.slice (some ad) k cy) (.s i o (len+k) c,h.set i (.c TT xs'),nx):=λxs' hsp W hroom hok2=>by
  obtain⟨x2,arr2,w2,k1,k2,k3,k4,k5,k6⟩:=hr.write (rowAt_eq hrow) W hsp hys;rw[hx1]at k1;injection k1 with k1
  subst k1;rw[hb]at k2;injection k2 with k2
  injection k2 with k2 _ _
  subst k2;refine⟨ρ,w2,_,k5,k6,Qbm hx1 hok2,?_⟩;rw[run_room hC ht hJ hb hnl hnews hone hroom (by omega),k4];simp[Xn]
 unfold apS at h3;cases c with
 |c cap=>
  simp only at h3;cases Y:Nat.ble (len+k) cap with
  |true=>
   rw[Y,cond_true]at h3;obtain⟨W,H⟩:=Qaa h3;unfold apIn at H;split at H;rename_i xs' hsp;injection H with H
   subst H;have:=Qm Y;exact inpl xs' hsp (Qm W) this (Q4 this);cases H
  |false=>
   rw[Y,cond_false]at h3;unfold apNew at h3;split at h3;rename_i l hl;injection h3 with h3
   subst h3;have hlt2:cap<len+k:=by
    rcases Yh cap (len+k)with g|g
    exact g;rw[J3 g]at Y;cases Y
   exact grow h hr (Tr.refl _ _ _ _ _) hlt2 l hl;cases h3
 |u m zz=>
  simp only at h3;obtain⟨W,H⟩:=Qaa h3;have W:=Qm W;have hok':zz=E.s/\o=m*E.s/\m+len<=E.c:=Q7 hok;have hrowin:E.o+xs.length<=arr.size:=by
   have:=row_in (vs:=vs) (arr:=arr) (o0:=E.o) (k:=vs.length) hget (by omega) (Qr _);rwa[Qai hvs]at this
  cases Y:Nat.ble (o+len*J.n+ys.length) xs.length with
  |true=>
   rw[Y,cond_true]at H;unfold apIn at H;split at H;rename_i xs' hsp;injection H with H
   subst H;have hle:=Qm Y;have hyl:ys.length=k*J.n:=by rw[<-Qai hys,hnl]
   have hmul:(m+len+k)*J.n<=E.c*J.n:=by
    rw[Xq,Xq];have e1:o=m*J.n:=by rw[<-hs1];exact hok'.2.1
    rw[hs1]at hcap;omega
   have hfin:m+len+k<=E.c:=Nat.le_of_mul_le_mul_right hmul f3;exact inpl xs' hsp W (by show len+k<=E.c-m;omega) (Q4 ⟨hok'.1,hok'.2.1,by omega⟩);cases H
  |false=>
   rw[Y,cond_false]at H;unfold apNew at H;split at H;rename_i l hl;injection H with H
   subst H;rcases Yh (E.c-m) (len+k)with hlt2|hge
   exact grow (h.del i) (hr.del i) (Tr.del ρ h nx w W) hlt2 l hl;obtain⟨rfl,hll⟩:=o_a1 hl;have hvs2:=Qbb (len*J.n) (Qbc o hvs);have hol:((vs.drop o).take (len*J.n)).length=len*J.n:=by rw[Qai hvs2,hll]
   have ho:o=m*J.n:=by rw[<-hs1];exact hok'.2.1
   have hmul:(m+(len+k))*J.n<=E.c*J.n:=Wr _ (by omega);rw[Xq,Xq]at hmul;rw[hs1]at hcap;have hin:E.o+o+len*J.n+news.length<=arr.size:=by omega
   have hrun:=run_room (ty:=ty) (w:=w) (sCap:=E.c-m) (c:=cy) hC ht hJ hb hnl hnews hone hge (by omega);have hset:(w.setRow E.b (arr.toList.take (E.o+o+len*J.n)++news++arr.toList.drop (E.o+o+len*J.n+news.length)).toArray).heap[E.b]?=some (.cells (arr.toList.take (E.o+o+len*J.n)++news++arr.toList.drop (E.o+o+len*J.n+news.length)).toArray TT (0,0)):=setRow_heap w E.b arr _ TT (0,0) hb;have hoth: ∀j,j≠E.b->(w.setRow E.b (arr.toList.take (E.o+o+len*J.n)++news++arr.toList.drop (E.o+o+len*J.n+news.length)).toArray).heap[j]?=w.heap[j]?:=λj hj=>setRow_other w E.b j _ hj;have hss:(w.setRow E.b (arr.toList.take (E.o+o+len*J.n)++news++arr.toList.drop (E.o+o+len*J.n+news.length)).toArray).heap.size=w.heap.size:=by simp[World.setRow]
   have hle:Le ρ (ρ.add nx ⟨E.b,E.o+o,E.c-m,J.n⟩):=Rho.le_add (hr.top nx (Qr _));have hor:OR P (ρ.add nx ⟨E.b,E.o+o,E.c-m,J.n⟩) (w.setRow E.b (arr.toList.take (E.o+o+len*J.n)++news++arr.toList.drop (E.o+o+len*J.n+news.length)).toArray) ⟨E.b,E.o+o,E.c-m,J.n⟩ (.c TT ((xs.drop o).take (len*J.n)++ys)):=by
    refine⟨_,_,Qbn hle _ _ (Qby hvs2 hys),hset,λj v hj=>?_,(hC.ty TT J hJ).sz,?_⟩;simp only[Wv];rw[get_put (by simp;omega)];rw[List.getElem?_append]at hj;split at hj;rename_i g1;rw[hol]at g1;rw[Qc (by omega)];rw[W8,Qc g1,Wj]at hj;have:=hget _ _ hj;rw[<-Wi,<-Xn]at this;exact this;rename_i g1;rw[hol]at g1 hj;have hlt3:=(Qe.1 hj).1;rw[Qb (by omega),Qc (by omega),<-hj];congr 1;omega;have e2:(E.c-m)*J.n+m*J.n=E.c*J.n:=by rw[<-Xq];congr 1;omega
    simp only[Xk,Qz,Qx,W7,Yo];omega
   refine⟨_,_,_,hr.move (rowAt_eq hrow) hx1 (x':=⟨E.b,E.o+o,E.c-m,J.n⟩) rfl hss hoth rfl rfl rfl (λa2 c2 ha=>by rw[hset]at ha;injection ha with ha;cases ha) hor,Tr.move hr (rowAt_eq hrow) hx1 rfl hss hoth W hnx,Qbm (Rho.add_same _ _ _) (Q4 (⟨rfl,(Jg _).symm,by show 0+(len+k)<=E.c-m;omega⟩:J.n=(Pl.mk E.b (E.o+o) (E.c-m) J.n).s/\0=0*(Pl.mk E.b (E.o+o) (E.c-m) J.n).s/\0+(len+k)<=(Pl.mk E.b (E.o+o) (E.c-m) J.n).c)),?_⟩;rw[show capN E (Cap.u m zz)=E.c-m from rfl,hrun];simp[capN];cases H
 cases h2;obtain⟨hnil,h3⟩:=Qaa h2;injection h3 with h3
 subst h3;rw[V.nilS_eq hnil]at hx;rw[cv_k hx];have f1':k*J.b<=140737488355328:=by
  have:(0+k)*J.b<=140737488355328:=by simpa[‹x.sl?=none›] using f1
  simpa using this
 have hg:=grownCap_ge w k 0 el;obtain⟨g1,g2⟩:=o_bv (fl:=fl) (m:=k) (cap:=grownCap w k 0 el) hC hr hJ hys hnl hg hzn hnx;refine⟨_,_,_,g1,g2,Qbm (Rho.add_same _ _ _) (Q4 (⟨rfl,(Jg _).symm,by show 0+k<=grownCap w k 0 el;omega⟩:J.n=(Pl.mk w.heap.size 0 (grownCap w k 0 el) J.n).s/\0=0*(Pl.mk w.heap.size 0 (grownCap w k 0 el) J.n).s/\0+k<=(Pl.mk w.heap.size 0 (grownCap w k 0 el) J.n).c)),?_⟩;have h63:k<=140737488355328:=Wb (Y1 _ f2) f1';have:=run_append_nil (P:=P) w t ty el i0 z ht hi hz ad k cy news (by rw[hn];exact hnl) hnews hk (by omega) (by rw[hby];omega);rw[this];simp[capN]
end
section
variable {P:QR}{C:Cx}{w0:World}{ρ:Rho}{h:T O}{nx fl:Nat}{w w':World}{e:Env}{n:Nat}{a:Act}{s s':S}
def HR.stamp (E:HR P w0 ρ h nx w)(x:Pl):HR P w0 (ρ.add nx x) h (nx+1) w:=by
 have J:Le ρ (ρ.add nx x):=Rho.le_add (E.top nx (Qr _));refine⟨λi o H=>?_,λi j o p y z H W Y hz e1=>?_,λi H=>?_,E.base,E.size,E.os,E.tape,E.output⟩;obtain⟨h1,y,h2,h3,h4,h5⟩:=E.live i o H;exact⟨by omega,y,J _ _ h2,h3,h4,OR.keep J (Qr _) rfl (λb _=>Ben.of_eq rfl) h5⟩;have h1:=(E.live i o H).1;have h2:=(E.live j p W).1;rw[Rho.add_other (by omega)]at Y hz;exact E.inj i j o p y z H W Y hz e1;rw[Rho.add_other (by omega)];exact E.top i (by omega)
def Tr.stamp (E:HR P w0 ρ h nx w)(x:Pl)(fl:Nat):Tr ρ h nx w (ρ.add nx x) h (nx+1) w fl:=
 ⟨Rho.le_add (E.top nx (Qr _)),by omega,Qr _,λ_ _ _=>rfl,λi o y H J _=>⟨i,o,y,H,by
  have h1:=(E.live i o H).1;rwa[Rho.add_other (by omega)]at J,rfl⟩,λ_ _=>rfl,λ_ _ _ _ _ _=>rfl,λj W h1=>by rw[Rho.add_other (by omega)];exact h1⟩
def o_dP (hC:OKC P C)(hr:HR P w0 ρ s.h s.nx w)(hf:Fe ρ s.env n a){t:QQ}{m k:Operand}{v:V}(W:eEnt C s t m k=some (v,s')):Do P w0 ρ s a w (.mapEntry t m k) v s':=by
 unfold eEnt at W;split at W;rename_i i hi;split at W;rename_i kv hkv;split at W;rename_i kt J hJ;split at W;rename_i es c hm;obtain⟨x1,hx1,hm1⟩:=o_bk hf hi;obtain⟨uk,h1,h2⟩:=o_b hf hkv;obtain⟨vt,hu,hT⟩:=o_ac hC hJ;obtain⟨hfl,p,hg⟩:=o_cF hm;obtain⟨_,x',hx',_,hlt,ks,arr,hks,harr,hperm,hnod,hborn,_⟩:=hr.live i _ hg;rw[hx1]at hx';injection hx' with e1
 subst e1;have hget:=run_getObj' (P:=P) harr (λ_ _ _ h=>by cases h);have hset: ∀o',(setObj x1.b o').run P w=.ok () (w.putObj x1.b o'):=λo'=>run_setObj' harr (λ_ _ _ h=>by cases h);unfold entM at W;split at W;rename_i p0 x0 v0 hlk;obtain⟨hb,h3⟩:=Qaa W;rw[Qd]at hb;unfold entP at h3;simp only[Qg,Qt]at h3;obtain⟨rfl,rfl⟩:=h3;obtain⟨hlk2,hck,d,hd⟩:=o_az hC h1 hlk;obtain⟨A,e0,B,a1,b1,ka,kb,H,rfl,rfl,rfl,hxk,hval,hka,hkb,hp2⟩:=Qev hC h1 hlk2 hks hperm;have:=Qex _ _ hb.1;subst this;rw[h1]at hxk;injection hxk with hxk
 subst hxk;have hr1:=hr.stamp ⟨e0.born,0,0,0⟩;have E:Le ρ (ρ.add s.nx ⟨e0.born,0,0,0⟩):=Rho.le_add (hr.top s.nx (Qr _));have hmod:=Qdd H.eq (λe=>{e with key:=e0.key});obtain⟨g1,g2⟩:=hr1.putMap (fl:=s.fl) (es':=a1++(kv,v0)::b1) (p':=some (s.nx,a1.length)) (c':=c) (arr':=arr.modify A.length λe=>{e with key:=e0.key}) (ks':=ka++(e0.key,e0.val)::kb) hg (E _ _ hx1) harr hlt
  (Qcu E hks) (by rw[hmod];exact Qib hp2 rfl) (by rw[hmod];rw[H.eq]at hnod;simpa using hnod)
  (λe Y=>hborn e (by rw[hmod]at Y;rw[H.eq];exact Y))
  (λj q hq=>by
   simp only[Qg,Qt]at hq;obtain⟨rfl,rfl⟩:=hq;exact⟨_,A,e0,B,ka,kb,Rho.add_same _ _ _,hmod,rfl,rfl,(Qef hka),hp2⟩) (Qr _)
  (λ_ e' he'=>⟨e',by rw[hmod]at he';rw[H.eq];exact he',rfl,rfl⟩) hfl
 refine⟨_,_,.tuple #[e0.val,.int .i64 (e0.born:Int)],.value _,rfl,g1,(Tr.stamp hr _ s.fl).trans g2,?_,.inl rfl,λ_ _ _ _ _=>?_⟩;refine cv_t_mk (Qae (Qaj E _ _ hval) (Qae ?_ (by unfold cvl;rfl)));unfold cv;rw[Rho.add_same];have hfind:=find_at hd H.yes H.noA (B:=B) w;rw[<-H.eq]at hfind;have hkey:=keyStays (P:=P) (Qcv hb.2 h1) w;simp only[execOp,hm1,h2,Instr.mapEntry,Qp,Ql hu,Qi,hget,hck,hfind,arr_get H.eq,Wo,Y0,hkey,hset,Qs,goInt];rename_i hlk;unfold entP at W;simp only[Qg,Qt]at W;obtain⟨rfl,rfl⟩:=W;obtain⟨hlk2,hck,d,hd⟩:=o_az hC h1 hlk;have hno:=Qfl hC h1 hlk2 hks hperm;obtain⟨z,hz,_,hzv,_⟩:=o_ax (ρ:=ρ) hC hT;have hr1:=hr.stamp ⟨c,0,0,0⟩;have E:Le ρ (ρ.add s.nx ⟨c,0,0,0⟩):=Rho.le_add (hr.top s.nx (Qr _));have hpush:(arr.push {key:=uk,val:=z,born:=c:MapEntry}).toList=arr.toList++{key:=uk,val:=z,born:=c}::[]:=by simp
 obtain⟨g1,g2⟩:=hr1.putMap (fl:=s.fl) (es':=es++[(kv,zeroV J)]) (p':=some (s.nx,es.length)) (c':=c+1) (arr':=arr.push {key:=uk,val:=z,born:=c}) (ks':=ks++[(uk,z)]) hg (E _ _ hx1) harr hlt
  (Qfa (Qcu E hks) (Qds (Qaj E _ _ h1) (Qaj E _ _ hzv) (by unfold cvp;rfl))) (by rw[Yv,Xc];exact hperm.append_right _)
  (by
   rw[Yv,Xc,Xl];refine⟨hnod,by simp,λb hb q hq=>?_⟩;obtain⟨e,Y,rfl⟩:=W5.1 hb;have:=hborn e Y;simp at hq;omega)
  (λe Y=>by
   rw[Yv]at Y;rcases Q8.1 Y with Y|Y
   have:=hborn e Y;omega;simp at Y;subst Y;simp)
  (λj q hq=>by
   simp only[Qg,Qt]at hq;obtain⟨rfl,rfl⟩:=hq;exact⟨_,arr.toList,_,[],ks,[],Rho.add_same _ _ _,hpush,rfl,rfl,Qef hks,by simpa using hperm⟩) (by omega) (λhc=>by omega) hfl
 refine⟨_,_,.tuple #[z,.int .i64 (c:Int)],.value _,rfl,g1,(Tr.stamp hr _ s.fl).trans g2,?_,.inl rfl,λ_ _ _ _ _=>?_⟩;refine cv_t_mk (Qae (Qaj E _ _ hzv) (Qae ?_ (by unfold cvl;rfl)));unfold cv;rw[Rho.add_same];have hfind:=Qlg hd hno w;simp only[execOp,hm1,h2,Instr.mapEntry,Qp,Ql hu,Qi,hget,hck,hfind,hz w,hset,Qs,goInt];cases W;cases W;cases W;cases W;cases W
def o_dQ (hr:HR P w0 ρ s.h s.nx w)(hf:Fe ρ s.env n a){t:QQ}{m k x:Operand}{v:V}(H:eEst s m k x=some (v,s')):Do P w0 ρ s a w (.entryStore t m k x) v s':=by
 unfold eEst at H;split at H;rename_i i hi;split at H;rename_i wv hwv;split at H;rename_i j hj;split at H;rename_i xv hxv;split at H;rename_i es c j' p hp;obtain⟨hjj,h3⟩:=Qaa H;have hjj:=Qk hjj;subst hjj;simp only[Qg,Qt]at h3;obtain⟨rfl,rfl⟩:=h3;obtain⟨x1,hx1,hm1⟩:=o_bk hf hi;obtain⟨uw,h1,h2⟩:=o_b hf hwv;obtain⟨ux,h4,h5⟩:=o_b hf hxv;have hwj:wv=.w j:=by
  unfold V.w? at hj;cases wv<;>first|(injection hj with hj;subst hj;rfl)|cases hj
 rw[hwj]at h1;obtain⟨y,hy,rfl⟩:=cv_w h1;unfold Qje at hp;obtain⟨hfl,J⟩:=Qap hp;have hfl:=Qat hfl;split at J;rename_i es' c' j2 p2 hg;simp only[Qg,Qt]at J;obtain⟨rfl,rfl,rfl,rfl⟩:=J;obtain⟨_,x',hx',_,hlt,ks,arr,W,harr,hperm,hnod,hborn,hpend⟩:=hr.live i _ hg;rw[hx1]at hx';injection hx' with Y
 subst Y;obtain⟨y',A,ent,B,ka,kb,hy',harrL,hbe,rfl,hlen,hpp⟩:=hpend _ _ rfl;rw[hy]at hy';injection hy' with Y
 subst Y;have hget:=run_getObj' (P:=P) harr (λ_ _ _ h=>by cases h);have hset: ∀o',(setObj x1.b o').run P w=.ok () (w.putObj x1.b o'):=λo'=>run_setObj' harr (λ_ _ _ h=>by cases h);have hmod:=Qdd harrL (λe=>{e with val:=ux});have hes: ∃a1 kk vv b1,es'=a1++(kk,vv)::b1/\a1.length=p2/\cvp ρ a1=some ka/\cv ρ kk=some ent.key/\cvp ρ b1=some kb:=by
  clear hg hp H hperm hpend hpp;induction ka generalizing es' p2 with
  |nil=>
   cases es' with
   |nil=>have:=Qck W;cases this
   |cons q r=>
    obtain⟨kk,vv⟩:=q;obtain⟨b1,b2,m1,Y,g1,g2,g3⟩:=Qaw W;simp only[X8,Ym,Qt]at Y;obtain⟨⟨rfl,rfl⟩,rfl⟩:=Y;exact⟨[],kk,vv,r,rfl,hlen,by unfold cvp;rfl,g1,g3⟩
  |cons q ka ih=>
   cases es' with
   |nil=>have:=Qck W;cases this
   |cons q2 r=>
    obtain⟨kk,vv⟩:=q2;obtain⟨b1,b2,m1,Y,g1,g2,g3⟩:=Qaw W;simp only[Yc,Ym]at Y;obtain⟨rfl,rfl⟩:=Y;have hih: ∃a1 kk vv b1,r=a1++(kk,vv)::b1/\a1.length=ka.length/\cvp ρ a1=some ka/\cv ρ kk=some ent.key/\cvp ρ b1=some kb:=by first|exact ih r g3 _ rfl|exact ih r _ g3 rfl|exact ih _ r g3 rfl|exact ih r _ rfl g3|exact ih r ka.length g3 rfl
    obtain⟨a2,k2,v2,c2,rfl,hl2,f1,f2,f3⟩:=hih;exact⟨(kk,vv)::a2,k2,v2,c2,rfl,by simp only[Q2]at hlen ⊢;omega,Qds g1 g2 f1,f2,f3⟩
 obtain⟨a1,kk,vv,b1,rfl,hal,f1,f2,f3⟩:=hes;subst hal;obtain⟨g1,g2⟩:=hr.putMap (fl:=s.fl) (es':=Qkx xv (a1++(kk,vv)::b1) a1.length) (p':=none) (c':=c') (arr':=arr.modify A.length λe=>{e with val:=ux}) (ks':=ka++(ent.key,ux)::kb) hg hx1 harr hlt
  (by rw[Qhq];exact Qfa f1 (Qds f2 h4 f3)) (by rw[hmod];exact Qib hpp rfl) (by rw[hmod];rw[harrL]at hnod;simpa using hnod)
  (λe E=>by
   rw[hmod]at E;rcases Q8.1 E with E|E
   exact hborn e (by rw[harrL];exact Ws _ E);rcases Qn.1 E with rfl|E
   exact hborn ent (by rw[harrL];exact Q6 _ (Qh ..));exact hborn e (by rw[harrL];exact Q6 _ (Qf _ E)))
  (λj q hq=>by cases hq) (Qr _)
  (λ_ e' he'=>by
   rw[hmod]at he';rw[harrL];rcases Q8.1 he' with E|E
   exact⟨e',Ws _ E,rfl,rfl⟩;rcases Qn.1 E with rfl|E
   exact⟨ent,Q6 _ (Qh ..),rfl,rfl⟩;exact⟨e',Q6 _ (Qf _ E),rfl,rfl⟩) hfl
 refine⟨ρ,_,undef,.skip,rfl,g1,g2,Qft,.inr ⟨rfl,rfl⟩,λ_ _ _ _ _=>?_⟩;have hidx:arr.findIdx? (λe=>(e.born:Int)==(y.b:Int))=some A.length:=by
  have harr2:arr=(A++ent::B).toArray:=by rw[<-harrL]
  rw[harr2,List.findIdx?_toArray];rw[harrL]at hnod;rw[List.findIdx?_append];have hA:A.findIdx? (λe=>(e.born:Int)==(y.b:Int))=none:=by
   rw[List.findIdx?_eq_none_iff];intro q hq;rw[Xc,Wc,Xl]at hnod;have:=hnod.2.2 q.born (W5.2 ⟨q,hq,rfl⟩) ent.born (Qh ..);rw[hbe]at this;simp only[beq_eq_false_iff_ne,ne_eq];omega
  rw[hA];simp[List.findIdx?_cons,hbe]
 simp only[execOp,hm1,h2,h5,Instr.entryStore,Qp,hget,Qi,asInt,asIntOf,Qs,hidx,hset];cases J;cases H;cases H;cases H;cases H;cases H
def o_di (hr:HR P w0 ρ s.h s.nx w)(hf:Fe ρ s.env n a){x:Operand}{b:Bool}{v:V}(E:eNext s x b=some (v,s')):Do P w0 ρ s a w (.next x b) v s':=by
 unfold eNext at E;split at E
 ·rename_i p hp
  split at E
  ·rename_i i hi
   split at E
   ·rename_i o ho
    obtain⟨u,h1,h2⟩:=o_b hf hp;rw[V.it?_eq hi]at h1;obtain⟨Y,J,rfl⟩:=cv_q h1;obtain⟨_,x',hx',_,hlt,hor⟩:=hr.live i _ ho;rw[J]at hx';injection hx' with e1
    subst e1;cases b with
    |true=>
     rw[cond_true]at E;unfold nxStr at E;split at E
     ·rename_i bs pos
      have H:w.heap[Y.b]?=some (.stringIter bs pos):=hor;have hget:=run_getObj' (P:=P) H (λ_ _ _ h=>by cases h);cases hb:Nat.blt pos bs.size with
      |true=>
       rw[hb,cond_true]at E;obtain⟨W,h3⟩:=Qap E;have W:=Qat W;simp only[Qg,Qt]at h3;obtain⟨rfl,rfl⟩:=h3;have hpos:pos<bs.size:=Qm hb;have hsame:(w.putObj Y.b (.stringIter bs (pos+(Utf8.decode bs pos).2))).heap[Y.b]?=some (.stringIter bs (pos+(Utf8.decode bs pos).2)):=Wm hlt;have hoth: ∀k,k≠Y.b->(w.putObj Y.b (.stringIter bs (pos+(Utf8.decode bs pos).2))).heap[k]?=w.heap[k]?:=λk hk=>Wy hk;have hss:(w.putObj Y.b (.stringIter bs (pos+(Utf8.decode bs pos).2))).heap.size=w.heap.size:=by simp
       refine⟨ρ,_,_,.value _,rfl,hr.upd (o':=.st bs (pos+(Utf8.decode bs pos).2)) ho J hss hoth rfl rfl rfl (λa2 c2 ha=>by rw[hsame]at ha;cases ha) hsame,Tr.upd hr ho J hss hoth W,
        cv_t_mk (Qae (Qaz true) (Qae (cv_nt pos) (Qae (Qki .i32 (Utf8.decode bs pos).1) (by unfold cvl;rfl)))),.inl rfl,λ_ _ _ _ _=>?_⟩
       have hset:=run_setObj' (P:=P) (o':=.stringIter bs (pos+(Utf8.decode bs pos).2)) H (λ_ _ _ h=>by cases h);simp only[execOp,h2,Instr.next,Qp,hget,Qi,hpos,Xo,hset,Qs,goInt]
      |false=>
       rw[hb,cond_false]at E;simp only[Qg,Qt]at E;obtain⟨rfl,rfl⟩:=E;have hpos: ¬pos<bs.size:=λh3=>by rw[show Nat.blt pos bs.size=true from J3 h3]at hb;cases hb
       refine⟨ρ,w,_,.value _,rfl,hr,Tr.refl _ _ _ _ _,cv_t_mk (Qae (Qaz false) (by unfold cvl;rfl)),.inl rfl,λ_ _ _ _ _=>?_⟩;simp only[execOp,h2,Instr.next,Qp,hget,Qi,hpos,Wd,Qs]
     cases E
    |false=>
     rw[cond_false]at E;unfold nxQ at E;split at E
     ·simp only[Qg,Qt]at E
      obtain⟨rfl,rfl⟩:=E;obtain⟨q1,q2,q3,H⟩:=hor;have hget:=run_getObj' (P:=P) H (λ_ _ _ h=>by cases h);refine⟨ρ,w,_,.value _,rfl,hr,Tr.refl _ _ _ _ _,cv_t_mk (Qae (Qaz false) (by unfold cvl;rfl)),.inl rfl,λ_ _ _ _ _=>?_⟩;simp only[execOp,h2,Instr.next,Qp,hget,Qi,Qs]
     cases E
   cases E
  cases E
 cases E
def o_dR (hC:OKC P C)(hr:HR P w0 ρ s.h s.nx w)(hf:Fe ρ s.env n a)(W:s.fl<=s.nx){xs:Array Operand}{ts:Array QQ}{v:V}(H:eBi C s xs.toList ts.toList .append=some (v,s')):Do P w0 ρ s a w (.call {callee:=.builtin .append,args:=xs,argTypes:=ts}) v s':=by
 have H:(ty2 ts.toList λt=>arg2 (opds s.env xs.toList) λx y=>eApp C s t x y)=some (v,s'):=H;unfold ty2 at H;split at H;rename_i t u Y;obtain⟨E,h1⟩:=Qaa H;have E:=Qk E;subst E;obtain⟨x,y,hxy,h2⟩:=o_bj h1;obtain⟨us,h3,h4⟩:=o_aj hf hxy;obtain⟨ux,uy,rfl,h5,h6⟩:=cvl2 h3;have hta:ts=#[t,t]:=by rw[<-Q9 (xs:=ts),Y]
 subst hta;unfold eApp at h2;split at h2;rename_i el hel;split at h2;rename_i J hJ;unfold back at h2;split at h2;rename_i r1 r2 r3 hap;simp only[Qg,Qt]at h2;obtain⟨rfl,rfl⟩:=h2;obtain⟨ρ',w',u,g1,g2,g3,g4⟩:=o_cK (ty:=0) hC hr W (o_w hC hel) hJ h5 h6 hap;refine⟨ρ',w',u,.value u,rfl,g1,g2,g3,.inl rfl,λ_ T _ _ _=>?_⟩;have g5:(Builtin.append_ #[t,t] T #[ux,uy]).run P w=.ok u w':=g4;simp only[execOp,resolve,h4,Qp,Qs,Qi,invoke,builtin,g5];cases h2;cases h2;cases h2;cases H
def rep_zero {z:List V}{zv:Array Value}(E:cvc ρ z=some zv.toList)(m:Nat):cvc ρ (rep z m)=some (Builtin.zeroCells zv m).toList:=by
 rw[rep_ok m E];unfold Builtin.zeroCells;rw[Array.toList_map,Array.toList_range,Yo];congr 1;apply Jn;intro i _;simp[getElem!_def]
def o_dS (hC:OKC P C)(hr:HR P w0 ρ s.h s.nx w)(hf:Fe ρ s.env n a){xs:Array Operand}{ts:Array QQ}{v:V}(W:eBi C s xs.toList ts.toList .clear=some (v,s')):Do P w0 ρ s a w (.call {callee:=.builtin .clear,args:=xs,argTypes:=ts}) v s':=by
 have W:(ty1 ts.toList λt=>arg1 (opds s.env xs.toList) λx=>eClr C s t x)=some (v,s'):=W;unfold ty1 at W;split at W;rename_i t r hts;obtain⟨x,hx,h2⟩:=o_bi W;obtain⟨us,h3,h4⟩:=o_aj hf hx;obtain⟨u,rfl,h5⟩:=cvl1 h3;have E:ts[0]?=some t:=by rw[<-Wi,hts];rfl
 have run: ∀w',(Builtin.clear_ ts 0 #[u]).run P w=.ok undef w'->∀(dst:Option Tmp) (T:QQ) (pos:String) (af:Array Edge) (gd:Option (Nat×Bool)),(execOp a.eval ⟨dst,.call {callee:=.builtin .clear,args:=xs,argTypes:=ts},T,pos,af,gd⟩).run P w=.ok (.value undef) w':=λw' hw _ T _ _ _=>by
  have hw':(Builtin.clear_ ts T #[u]).run P w=.ok undef w':=hw;simp only[execOp,resolve,h4,Qp,Qs,Qi,invoke,builtin,hw']
 unfold eClr at h2;split at h2;rename_i J hJ;obtain⟨el,H,_,hJel⟩:=o_ag hC hJ;split at h2;rename_i i o n c hsl;rw[V.sl?_eq hsl]at h5;obtain⟨pl,hpl,hok,rfl⟩:=cv_s h5;cases Y:Nat.beq n 0 with
 |true=>
  rw[Y,cond_true]at h2;simp only[Qg,Qt]at h2;obtain⟨rfl,rfl⟩:=h2;have h0:=Qk Y;subst h0;exact⟨ρ,w,undef,.value undef,rfl,hr,Tr.refl _ _ _ _ _,Qft,.inl rfl,run w (by simp[Builtin.clear_,E,Ql H];rfl)⟩
 |false=>
  rw[Y,cond_false]at h2;unfold storeAt at h2;obtain⟨hfl,h2⟩:=Qap h2;split at h2;rename_i T rs hrow;split at h2;rename_i ys hys;simp only[Qg,Qt]at h2;obtain⟨rfl,rfl⟩:=h2;obtain⟨z,hz,hzc,_,hzn⟩:=o_ax (ρ:=ρ) hC hJel;have hrep:=rep_zero hzc n;obtain⟨x2,arr,w',k1,k2,k3,k4,k5,k6⟩:=hr.write (rowAt_eq hrow) (Qat hfl) hys hrep;rw[hpl]at k1;injection k1 with k1
  subst k1;refine⟨ρ,w',undef,.value undef,rfl,k5,k6,Qft,.inl rfl,run w' ?_⟩;have hst:=run_storeCells_at P pl.b (pl.o+o) T (Builtin.zeroCells z.cells n).toList 0 arr w k2 (by omega) (cvc_one hrep);rw[Jw]at hst;rw[k4];obtain⟨m,rfl⟩: ∃m,n=m+1:=⟨n-1,by have:=Nat.ne_of_beq_eq_false Y;omega⟩;simp[Builtin.clear_,E,Ql H,hz,hst];rfl;cases h2;cases h2
 obtain⟨Y,h1⟩:=Qaa h2;simp only[Qg,Qt]at h1;obtain⟨rfl,rfl⟩:=h1;rw[V.nilS_eq Y]at h5;have h6:=cv_k h5;subst h6;exact⟨ρ,w,undef,.value undef,rfl,hr,Tr.refl _ _ _ _ _,Qft,.inl rfl,run w (by simp[Builtin.clear_,E,Ql H];rfl)⟩;cases h2;cases W
end
def exOf:X->Exit
 | .n=>.normal
 | .r=>.ret
 | .e i=>.exit i
def dcv (ρ:Rho)(x:Option (V×List V)×Nat)(d:Deferred):Prop:=match x with
 |(none,i)=>∃y,ρ i=some y/\d=mkD y.b
 |(some (f,args),_)=>∃fid first cap a us c,f=.f fid first cap/\cvl ρ first=some a/\cvl ρ args=some us/\cvl ρ cap=some c/\d={target:=.fn (.func fid) c.toArray,args:=(a++us).toArray}
def dcl (ρ:Rho):List (Option (V×List V)×Nat)->List Deferred->Prop
 | [],[]=>True
 |x::r,d::ds=>dcv ρ x d/\dcl ρ r ds
 |_,_=>False
def dcv_mono {ρ ρ':Rho}(E:Le ρ ρ'){x:Option (V×List V)×Nat}{d:Deferred}(h:dcv ρ x d):dcv ρ' x d:=by
 obtain⟨_|⟨f,args⟩,i⟩:=x;obtain⟨y,h1,h2⟩:=h;exact⟨y,E _ _ h1,h2⟩;obtain⟨fid,first,cap,a,us,c,h1,h2,H,J,W⟩:=h;exact⟨fid,first,cap,a,us,c,h1,Qbj E _ _ h2,Qbj E _ _ H,Qbj E _ _ J,W⟩
def Qbk {ρ ρ':Rho}(E:Le ρ ρ'): ∀{x:List (Option (V×List V)×Nat)} {ds:List Deferred},dcl ρ x ds->dcl ρ' x ds
 | [],[],_=>trivial
 | [],_::_,h=>h.elim
 |_::_,[],h=>h.elim
 |_::_,_::_,h=>⟨dcv_mono E h.1,Qbk E h.2⟩
structure St (P:QR) (w0:World) (ρ:Rho) (n:Nat) (s:S) (a:Act) (w:World):Prop where
 fe:Fe ρ s.env n a
 ds:dcl ρ s.ds a.defers
 hr:HR P w0 ρ s.h s.nx w
 fl:s.fl<=s.nx
def To (P:QR)(w0:World)(ρ:Rho)(n:Nat)(s:S)(w:World)(s':S)(a':Act)(w':World):Prop:=
 ∃ρ',St P w0 ρ' n s' a' w'/\Tr ρ s.h s.nx w ρ' s'.h s'.nx w' s.fl/\s'.rd=s.rd/\s'.fl=s.fl
def En (P:QR)(w0:World)(ρ:Rho)(h:T O)(nx fl:Nat)(w:World)(v:V)(h':T O)(nx':Nat):Ending->World->Prop:=
 λe w'=>∃u ρ',e=.returned u/\cv ρ' v=some u/\HR P w0 ρ' h' nx' w'/\Tr ρ h nx w ρ' h' nx' w' fl
def CF (P:QR)(fid:FuncId):Prop:=∀args w,(callFunc fid args).run P w=.ok (.enter fid args) w
def Cl (P:QR)(w0:World)(ρ:Rho)(h:T O)(nx fl:Nat)(w:World)(us:QL)(v:V)(h':T O)(nx':Nat):V->Prop
 | .f fid first cap=>∃a c,cvl ρ first=some a/\cvl ρ cap=some c/\CF P fid/\Calls P fid (a++us++c).toArray w (En P w0 ρ h nx fl w v h' nx')
 | .y i=>∃x,ρ i=some x/\YieldAt (FW none) 0 P x.b us.toArray w (En P w0 ρ h nx fl w v h' nx')
 |_=>False
def Dl (P:QR)(w0:World)(ρ:Rho)(h:T O)(nx fl:Nat)(w:World)(us:QL)(v:V)(h':T O)(nx':Nat):V->Prop
 | .f fid first cap=>∃a c,cvl ρ first=some a/\cvl ρ cap=some c/\CF P fid/\CallsDIn (FW none) 0 P fid (a++us++c).toArray .returning w (λe u2 w'=>u2=.returning/\En P w0 ρ h nx fl w v h' nx' e w')
 |_=>False
def LP (r:QN)(P:QR)(c:Code)(Q:QG)(a:Act)(w:World):Prop:=∀(b:Frame) (k:List Item) (cs:List Frame),b.roundOf=(FW r).round->(FW r).fn b.fn->(FW r).room (cs.length+1+0)->
 ∃e a' w',Q e a' w'/\ArrivesIn (Machine.fenced P (FW r)) P (lone (b.atR a (.code c:: .inLoop c::k)) cs w) b k cs e a' w'
section
variable {r:QN}{P:QR}{Q Q':QG}{a:Act}{w:World}{c:Code}
def LP.loop (h:LP r P c Q a w):WP r P (.loop c) Q a w:=λb k cs E H J=>by
 obtain⟨e,a',w',q,harr⟩:=h b k cs E H J;exact⟨e,a',w',q,.of_steps (.one (fenced_calm H J rfl) stepR_loop) harr⟩
def LP.step (h:WP r P c (λe a' w'=>(e=.normal/\LP r P c Q a' w')\/(e≠ .normal/\Q e a' w')) a w):LP r P c Q a w:=λb k cs E H J=>by
 obtain⟨e,a₁,w₁,hq,harr⟩:=h b (.inLoop c::k) cs E H J;cases e with
 |normal=>
  have hq:=hq.resolve_right (λh=>h.1 rfl);obtain⟨e₂,a₂,w₂,hq₂,harr₂⟩:=hq.2 b k cs E H J;exact⟨e₂,a₂,w₂,hq₂,.of_steps (StepsIn.trans harr (.one (fenced_calm H J rfl) stepR_inLoop)) harr₂⟩
 |exit id=>exact⟨_,a₁,w₁,(hq.resolve_left (by simp)).2,.pass (x:=.inLoop c) rfl (λ_ _=>.inl (by simp)) harr⟩
 |goto l=>exact⟨_,a₁,w₁,(hq.resolve_left (by simp)).2,.pass (x:=.inLoop c) rfl (λ_ _=>.inl (by simp)) harr⟩
 |ret=>exact⟨_,a₁,w₁,(hq.resolve_left (by simp)).2,.pass (x:=.inLoop c) rfl (λ_ _=>.inl (by simp)) harr⟩
 |panic ch=>exact⟨_,a₁,w₁,(hq.resolve_left (by simp)).2,.pass (x:=.inLoop c) rfl (λ_ _=>.inl (by simp)) harr⟩
 |outgrown=>exact⟨_,a₁,w₁,(hq.resolve_left (by simp)).2,.pass (x:=.inLoop c) rfl (λ_ _=>.inl (by simp)) harr⟩
def LP.mono (h:LP r P c Q a w)(hq: ∀e a w,Q e a w->Q' e a w):LP r P c Q' a w:=λb k cs E H J=>
 let ⟨e,a',w',q,x⟩:=h b k cs E H J;⟨e,a',w',hq _ _ _ q,x⟩
def Qar {b:Frame}{k:List Item}{cs:List Frame}:step P (lone (b.atR a (.code (.scope c)::k)) cs w)=.next (lone (b.atR a (.code c:: .inScope c::k)) cs w):=
 step_lone_go (by simp[stepG,stepG.exec,Frame.atR])
def Qhk {b:Frame}{k:List Item}{cs:List Frame}:step P (lone (b.atR a (.inScope c::k)) cs w)=.next (lone (b.atR a k) cs w):=
 step_lone_go (by simp[stepG,stepG.exec,Frame.atR])
def scopeR (h:WP r P c Q a w)(W: ∀l a w,¬Q (.goto l) a w):WP r P (.scope c) Q a w:=by
 intro b k cs E H J;have h0:(lone (b.atR a (.code (.scope c)::k)) cs w).fenced P (FW r):=fenced_calm H J rfl;obtain⟨e,a₁,w₁,hq,harr⟩:=h b (.inScope c::k) cs E H J;cases e with
 |normal=>exact⟨.normal,a₁,w₁,hq,.head h0 Qar (StepsIn.trans harr (.one (fenced_calm H J rfl) Qhk))⟩
 |exit id=>
  have hx:exitTo id (.inScope c::k)=exitTo id k:=by simp[exitTo]
  exact⟨.exit id,a₁,w₁,hq,λk' hk=>.head h0 Qar (harr.1 k' (by rw[hx];exact hk)),
   λhr' hk=>let ⟨k₁,h1,h2⟩:=harr.2 hr' (by rw[hx];exact hk);⟨k₁,h1,.head h0 Qar h2⟩⟩
 |goto l=>exact(W _ _ _ hq).elim
 |ret=>exact⟨_,a₁,w₁,hq,.of_steps (.one h0 Qar) harr⟩
 |panic ch=>exact⟨_,a₁,w₁,hq,.of_steps (.one h0 Qar) harr⟩
 |outgrown=>exact⟨_,a₁,w₁,hq,.of_steps (.one h0 Qar) harr⟩
end
structure Sd (P:QR) (C:Cx) (ih:Job->Option Rs):Prop where
 code: ∀{c:Code} {s s':S} {x:X},ih (.code c s)=some (.code x s')->∀{w0:World} {ρ:Rho} {n:Nat} {a:Act} {w:World} {r:QN},okD n c=true->r.isSome=s.rd->St P w0 ρ n s a w->
  WP r P c (λe a' w'=>e=exOf x/\To P w0 ρ n s w s' a' w') a w
 loop: ∀{c:Code} {s s':S} {x:X},ih (.code (.loop c) s)=some (.code x s')->∀{w0:World} {ρ:Rho} {n:Nat} {a:Act} {w:World} {r:QN},okD n c=true->r.isSome=s.rd->St P w0 ρ n s a w->
  LP r P c (λe a' w'=>e=exOf x/\To P w0 ρ n s w s' a' w') a w
 call: ∀{f:V} {args:List V} {h h':T O} {nx nx' fl:Nat} {v:V},ih (.call f args h nx fl)=some (.call v h' nx')->∀{w0:World} {ρ:Rho} {w:World} {u:Value} {us:QL},HR P w0 ρ h nx w->fl<=nx->cv ρ f=some u->cvl ρ args=some us->
  Cl P w0 ρ h nx fl w us v h' nx' f
 dcall: ∀{f:V} {args:List V} {h h':T O} {nx nx' fl:Nat} {v:V},ih (.dcall f args h nx fl)=some (.call v h' nx')->∀{w0:World} {ρ:Rho} {w:World} {u:Value} {us:QL},HR P w0 ρ h nx w->fl<=nx->cv ρ f=some u->cvl ρ args=some us->
  Dl P w0 ρ h nx fl w us v h' nx' f
def roundFW {r:QN}{P:QR}{l:Nat}{f:FuncId}{t:Array Value}{x y:Code}{w:World}{R:Ending->World->Prop}(h:RoundIn (FW none) 0 P l f t x y w R):RoundIn (FW r) 0 P l f t x y w R:=by
 cases r with
 |none=>exact h
 |some l=>exact h
section
variable {P:QR}{C:Cx}{ih:Job->Option Rs}{w0:World}{ρ:Rho}{n:Nat}{s s':S}{a:Act}{w:World}{r:QN}{v:V}{K:QH}{Q:QG}
def Go (P:QR)(w0:World)(ρ:Rho)(n:Nat)(s:S)(a:Act)(w:World)(dst:Option Tmp)(v:V)(s':S)(K:QH):Prop:=
 ∀ρ' w' u ds',cv ρ' v=some u->St P w0 ρ' n s' {a with defers:=ds'} w'->Tr ρ s.h s.nx w ρ' s'.h s'.nx w' s.fl->s'.rd=s.rd->s'.fl=s.fl->K (({a with defers:=ds'}:Act).put dst u) w'
def Qbo {o:Oper}{x:Next}{w':World}(E:(execOp a.eval o).run P w=.ok x w')(hx: ∀d,x≠ .defer d)(h:o.uponIn (FW r) 0 P a K Q (.ok x w')):o.wpIn (FW r) 0 P a w K Q:=
 ⟨λ_ _=>trivial,by rw[Qel E hx];exact h⟩
def Qkd {o:Op}{dst:Option Tmp}{T:QQ}{pos:String}{af:Array Edge}{gd:Option (Nat×Bool)}(E:St P w0 ρ n s a w)(J:Do P w0 ρ s a w o v s')(W:Go P w0 ρ n s a w dst v s' K):(⟨dst,o,T,pos,af,gd⟩:Oper).wpIn (FW r) 0 P a w K Q:=by
 obtain⟨ρ',w',u,nxt,h1,h2,H,Y,h5,h6⟩:=J;have hk:K (a.put dst u) w':=W ρ' w' u a.defers Y (by rw[h1];exact⟨E.fe.mono H.le,Qbk H.le E.ds,h2,Wb E.fl H.nx⟩) H (by rw[h1];rfl) (by rw[h1];rfl);rcases h5 with rfl|⟨rfl,rfl⟩
 exact Qbo (h6 dst T pos af gd) (λ_ h=>by cases h) hk;exact Qbo (h6 dst T pos af gd) (λ_ h=>by cases h) hk
def go_pk {o:Op}{dst:Option Tmp}{T:QQ}{pos:String}{af:Array Edge}{gd:Option (Nat×Bool)}(E:St P w0 ρ n s a w)(hp:Pk P ρ a w o v)(H:Go P w0 ρ n s a w dst v s K):(⟨dst,o,T,pos,af,gd⟩:Oper).wpIn (FW r) 0 P a w K Q:=by
 obtain⟨u,h1,h2⟩:=hp;exact Qbo (h2 dst T pos af gd) (λ_ h=>by cases h) (H ρ w u a.defers h1 E (Tr.refl _ _ _ _ _) rfl rfl)
def go_mk {o:Op}{ob:O}{dst:Option Tmp}{T:QQ}{pos:String}{af:Array Edge}{gd:Option (Nat×Bool)}(E:St P w0 ρ n s a w)(J:Mk P ρ s.nx a w o v ob)(W:Go P w0 ρ n s a w dst v (s.new ob) K):(⟨dst,o,T,pos,af,gd⟩:Oper).wpIn (FW r) 0 P a w K Q:=by
 obtain⟨obj,x,u,h1,h2,Y,h4⟩:=J;have H:=Rho.le_add (x:=x) (E.hr.top s.nx (Qr _));exact Qbo (h4 dst T pos af gd) (λ_ h=>by cases h) (W _ _ u a.defers Y ⟨E.fe.mono H,Qbk H E.ds,E.hr.alloc obj ob x h1 h2,X3 E.fl⟩ (Tr.alloc E.hr obj ob x h1 E.fl) rfl rfl)
def o_dj {x:Option Rs}(h:callR s x=some (v,s')): ∃h' nx',x=some (.call v h' nx')/\s'=s.sethn h' nx':=by
 unfold callR at h;split at h;simp only[Qg,Qt]at h;obtain⟨rfl,rfl⟩:=h;exact⟨_,_,rfl,rfl⟩;cases h
def En.go {h':T O}{nx':Nat}{dst:Option Tmp}(E:St P w0 ρ n s a w)(J:Go P w0 ρ n s a w dst v (s.sethn h' nx') K){e:Ending}{w':World}(W:En P w0 ρ s.h s.nx s.fl w v h' nx' e w'): ∃u,e=.returned u/\K (a.put dst u) w':=by
 obtain⟨u,ρ',rfl,h1,h2,H⟩:=W;exact⟨u,rfl,J ρ' w' u a.defers h1 ⟨E.fe.mono H.le,Qbk H.le E.ds,h2,Wb E.fl H.nx⟩ H rfl rfl⟩
def go_cv (hi:Sd P C ih){f:Operand}{xs ts:Array _}{dst:Option Tmp}{T:QQ}{pos:String}{af:Array Edge}{gd:Option (Nat×Bool)}(E:St P w0 ρ n s a w)(J:eCv ih s f xs.toList=some (v,s'))(hK:Go P w0 ρ n s a w dst v s' K):
  (⟨dst,.call {callee:=.value f,args:=xs,argTypes:=ts},T,pos,af,gd⟩:Oper).wpIn (FW r) 0 P a w K Q:=by
 unfold eCv at J;split at J;rename_i args hargs;split at J;rename_i fv hfv;obtain⟨us,h1,h2⟩:=o_ai E.fe hargs;rw[Q9]at h2;obtain⟨u,h3,W⟩:=o_b E.fe hfv;obtain⟨h',nx',h5,rfl⟩:=o_dj J;have h6:=hi.call h5 E.hr E.fl h3 h1;cases fv with
 |f fid first cap=>
  obtain⟨A,c,g1,g2,g3,g4⟩:=h6;have h7:u=.func (.func fid) A.toArray c.toArray:=by
   obtain⟨A',c',H,Y,rfl⟩:=cv_f h3;rw[g1]at H;injection H with H;subst H
   rw[g2]at Y;injection Y with Y;subst Y;rfl
  rw[h7]at W;refine Qbo (x:=.enter fid (A++us++c).toArray) (w':=w) ?_ (λ_ h=>by cases h) ⟨(λh=>by cases h),(callsFW g4).mono λe w' he=>?_⟩;simp only[execOp,resolve,h2,W];simp[Deferred.ofValue,invoke,g3 _ _];obtain⟨u',rfl,hk⟩:=En.go E hK he;exact hk
 |y i=>
  obtain⟨x,g1,fn,tmps,assign,body,hy,hR⟩:=h6;have h7:u=.func (.yield x.b) #[] #[]:=by
   obtain⟨x',H,rfl⟩:=cv_y h3;rw[g1]at H;injection H with H;subst H;rfl
  rw[h7]at W;refine Qbo (x:=.round x.b fn tmps assign body) (w':=w) ?_ (λ_ h=>by cases h) ⟨(λh=>by cases h),(roundFW hR).mono λe w' he=>?_⟩;simp only[execOp,resolve,h2,W];simp[Deferred.ofValue,invoke,hy];obtain⟨u',rfl,hk⟩:=En.go E hK he;exact hk
 |k _=>exact h6.elim
 |p _ _=>exact h6.elim
 |s _ _ _ _=>exact h6.elim
 |m _=>exact h6.elim
 |q _=>exact h6.elim
 |w _=>exact h6.elim
 |gl _ _=>exact h6.elim
 |g _=>exact h6.elim
 |t _=>exact h6.elim
 |i _ _=>exact h6.elim
 cases J;cases J
def go_def {c:Call}{dst:Option Tmp}{T:QQ}{pos:String}{af:Array Edge}{gd:Option (Nat×Bool)}(H:St P w0 ρ n s a w)(W:r.isSome=s.rd)(E:eDef s c=some (v,s'))(hK:Go P w0 ρ n s a w dst v s' K):
  (⟨dst,.defer c,T,pos,af,gd⟩:Oper).wpIn (FW r) 0 P a w K Q:=by
 obtain⟨ce,xs,ts⟩:=c;unfold eDef at E;split at E;rename_i f J;have J:ce=.value f:=J;subst J;split at E;rename_i args hargs;split at E;rename_i fv Y;cases hb:s.rd with
 |true=>rw[hb]at E;cases E
 |false=>
  rw[hb]at E W;have hr:r=none:=by cases r<;>first|rfl|cases W
  subst hr;cases fv with
  |f fid first cap=>
   have E:some (un,(⟨s.env,(some (V.f fid first cap,args),0)::s.ds,s.h,s.nx,false,s.fl⟩:S))=some (v,s'):=E;simp only[Qg,Qt]at E;obtain⟨rfl,rfl⟩:=E;obtain⟨us,h1,h2⟩:=o_ai H.fe hargs;have h2:xs.map a.eval=us.toArray:=by rw[Q9]at h2;exact h2
   obtain⟨u,h3,h4⟩:=o_b H.fe Y;obtain⟨A,cc,k1,k2,rfl⟩:=cv_f h3;refine⟨λ_ _=>trivial,?_⟩;rw[Oper.semAt_none];have hx:(execOp a.eval ⟨dst,.defer {callee:=.value f,args:=xs,argTypes:=ts},T,pos,af,gd⟩).run P w=.ok (.defer {target:=.fn (.func fid) cc.toArray,args:=(A++us).toArray}) w:=by
    simp only[execOp,resolve,h2,h4];simp[Deferred.ofValue]
   rw[hx];exact hK ρ w undef _ Qft ⟨⟨H.fe.size,H.fe.get⟩,⟨⟨fid,first,cap,A,us,cc,rfl,k1,h1,k2,rfl⟩,H.ds⟩,H.hr,H.fl⟩ (Tr.refl _ _ _ _ _) hb.symm rfl
  |k _=>cases E
  |p _ _=>cases E
  |s _ _ _ _=>cases E
  |m _=>cases E
  |q _=>cases E
  |w _=>cases E
  |gl _ _=>cases E
  |g _=>cases E
  |t _=>cases E
  |i _ _=>cases E
  |y _=>cases E
 cases E;cases E;cases E
def o_c3 (Y:OKC P C)(hi:Sd P C ih){o:Op}{dst:Option Tmp}{T:QQ}{pos:String}{af:Array Edge}{gd:Option (Nat×Bool)}(E:St P w0 ρ n s a w)(hrd:r.isSome=s.rd)(H:eff C ih s o=some (v,s'))(W:Go P w0 ρ n s a w dst v s' K):
  (⟨dst,o,T,pos,af,gd⟩:Oper).wpIn (FW r) 0 P a w K Q:=by
 unfold eff at H;split at H;exact Qkd E (o_c2 Y E.hr E.fe H) W;exact Qkd E (o_cG Y E.hr E.fe (.inl rfl) H) W;exact Qkd E (o_cG Y E.hr E.fe (.inr rfl) H) W;exact Qkd E (o_dP Y E.hr E.fe H) W;exact Qkd E (o_dQ E.hr E.fe H) W;exact Qkd E (o_di E.hr E.fe H) W;rename_i c;obtain⟨ce,xs,ts⟩:=c;unfold eCall at H;split at H;rename_i f J;have J:ce=.value f:=J;subst J;exact go_cv hi E H W;rename_i b J;have J:ce=.builtin b:=J;subst J;cases b<;>first|exact Qkd E (o_dR Y E.hr E.fe E.fl H) W|exact Qkd E (o_dS Y E.hr E.fe H) W|cases H
 cases H;exact go_def E hrd H W;cases H
def o_d9 (W:OKC P C)(hi:Sd P C ih){o:Oper}{k:Nat}(E:St P w0 ρ n s a w)(Y:r.isSome=s.rd)(H:op1 C ih s o.op k=some (v,s'))(J:Go P w0 ρ n s a w o.dst v s' K):o.wpIn (FW r) 0 P a w K Q:=by
 obtain⟨dst,o,T,pos,af,gd⟩:=o;have mk: ∀{s1:S},made s (Qbw C s.env s.h s.nx o)=some (v,s1)->Go P w0 ρ n s a w dst v s1 K->(⟨dst,o,T,pos,af,gd⟩:Oper).wpIn (FW r) 0 P a w K Q:=λ{s1} h1 h2=>by
  unfold made at h1;split at h1;rename_i v' ob hm;simp only[Qg,Qt]at h1;obtain⟨rfl,rfl⟩:=h1;exact go_mk E (o_bu W E.hr (E.hr.top _ (Qr _)) E.fe hm) h2;cases h1
 unfold op1 at H;split at H;exact o_c3 W hi E Y H J;exact mk H J;unfold kept at H;split at H;rename_i u hu;simp only[Qg,Qt]at H;obtain⟨rfl,rfl⟩:=H;exact go_pk E (o_bT W E.hr E.fe hu) J;exact mk H J
def bool?_no {x:V}{u:Value}(h:x.bool?=none)(E:cv ρ x=some u): ∀b,u≠ .bool b:=by
 rintro b rfl;cases x with
 |k v=>have h1:=cv_k E;subst h1;cases h
 |p i o=>obtain⟨x,_,h1⟩:=cv_p E;cases h1
 |s i o n c=>obtain⟨x,_,_,h1⟩:=cv_s E;cases h1
 |m i=>obtain⟨x,_,h1⟩:=cv_m E;cases h1
 |f a b c=>obtain⟨x,y,_,_,h1⟩:=cv_f E;cases h1
 |y i=>obtain⟨x,_,h1⟩:=cv_y E;cases h1
 |q i=>obtain⟨x,_,h1⟩:=cv_q E;cases h1
 |w i=>obtain⟨x,_,h1⟩:=cv_w E;cases h1
 |gl i o=>have h1:=cv_gl E;cases h1
 |g l=>obtain⟨x,_,h1⟩:=cv_g E;cases h1
 |t l=>obtain⟨x,_,h1⟩:=cv_t E;cases h1
 |i t x=>obtain⟨x,_,h1⟩:=cv_i E;cases h1
def o_aI {ops:QU}{e:Env}(Y:Fe ρ e n a){o:Oper}{b:Bool}(h:wantedV ops.toList e o.guard=some b):Region.wanted o (yielded ops a.tmps)=b:=by
 unfold wantedV at h;unfold Region.wanted;split at h;rename_i H;injection h with h;subst h;simp[H]
 rename_i j want H;rw[H];show(yielded ops a.tmps j==some want)=b;unfold yielded;split at h;rename_i o' E;rw[Wi]at E;rw[E];unfold wantB at h;split at h;rename_i d J;split at h;rename_i x hx;obtain⟨u,h1,h2⟩:=Y.get d x hx;simp only[Qa,J,h2];split at h;rename_i t W;injection h with h;subst h
 rw[V.bool?_eq W]at h1;rw[cv_k h1];cases t<;>cases want<;>rfl;rename_i W;injection h with h;subst h
 have hn:=bool?_no W h1;cases u<;>first|exact absurd rfl (hn _)|rfl
 cases h;rename_i J;injection h with h;subst h
 simp[J];rename_i E;injection h with h;subst h
 rw[Wi]at E;simp[E]
def St.put (E:St P w0 ρ n s a w){dst:QN}(H: ∀d,dst=some d->d<n){u:Value}(J:cv ρ v=some u):St P w0 ρ n (s.upo dst v) (a.put dst u) w:=by
 cases dst with
 |none=>exact E
 |some d=>exact⟨E.fe.put (H d rfl) J,E.ds,E.hr,E.fl⟩
def upo_eq (s:S)(dst:QN)(v:V):(s.upo dst v).h=s.h/\(s.upo dst v).nx=s.nx/\(s.upo dst v).fl=s.fl/\(s.upo dst v).rd=s.rd/\(s.upo dst v).ds=s.ds:=by cases dst<;>exact⟨rfl,rfl,rfl,rfl,rfl⟩
def o_aU (hC:OKC P C)(hi:Sd P C ih){ops:QU}: ∀(l:QT) {s s':S} {ρ:Rho} {a:Act} {w:World},seq1 C ih ops.toList l s=some s'->(∀o∈l,∀d,o.dst=some d->d<n)->r.isSome=s.rd->St P w0 ρ n s a w->
  (∀a' w',To P w0 ρ n s w s' a' w'->Q .normal a' w')->WL r P ops Q l a w
 | [],s,s',ρ,a,w,H,W,J,E,hQ=>by
  injection H with H;subst H
  exact hQ a w ⟨ρ,E,Tr.refl _ _ _ _ _,rfl,rfl⟩
 |o::l,s,s',ρ,a,w,H,W,J,E,hQ=>by
  unfold seq1 at H;unfold WL wpListIn;split at H;rename_i hw;rw[o_aI E.fe hw,Qc rfl];split at H;rename_i v1 s1 h1;refine o_d9 hC hi E J h1 λρ1 w1 u ds1 g1 g2 g3 g4 g5=>?_;obtain⟨e1,e2,Y,e4,e5⟩:=upo_eq s1 o.dst v1;have hst1:=g2.put (dst:=o.dst) (λd h=>W o (Qh ..) d h) g1;refine o_aU hC hi l H (λp hp=>W p (Qf _ hp)) (by rw[e4,g4];exact J) hst1 λa' w' ⟨ρ2,q1,q2,q3,q4⟩=>hQ a' w' ⟨ρ2,q1,g3.trans ?_,q3.trans (e4.trans g4),q4.trans (Y.trans g5)⟩;rw[e1,e2,Y,g5]at q2;exact q2;cases H;rename_i hw;rw[o_aI E.fe hw,Qb (by decide)];obtain⟨e1,e2,Y,e4,e5⟩:=upo_eq s o.dst un;refine⟨λ_ _=>trivial,o_aU hC hi l H (λp hp=>W p (Qf _ hp)) (by rw[e4];exact J) (E.put (λd h=>W o (Qh ..) d h) Qft) λa' w' ⟨ρ2,q1,q2,q3,q4⟩=>hQ a' w' ⟨ρ2,q1,?_,q3.trans e4,q4.trans Y⟩⟩;rw[e1,e2,Y]at q2;exact q2;cases H
end
section
variable {P:QR}{C:Cx}{ih:Job->Option Rs}{w0:World}{ρ:Rho}{n:Nat}{s s':S}{a:Act}{w:World}{r:QN}{v:V}{h h2:T O}{nx nx2 fl:Nat}
def To.trans {s1 E:S}{a2:Act}{H J:World}{ρ1:Rho}(h1:Tr ρ s.h s.nx w ρ1 s1.h s1.nx H s.fl)(h3:s1.rd=s.rd)(W:s1.fl=s.fl)(h2:To P w0 ρ1 n s1 H E a2 J):To P w0 ρ n s w E a2 J:=by
 obtain⟨ρ2,q1,Y,q3,q4⟩:=h2;rw[W]at Y;exact⟨ρ2,q1,h1.trans Y,q3.trans h3,q4.trans W⟩
def HR.drop (E:HR P w0 ρ h nx w){i:Nat}{o:O}{x:Pl}(hi:h.get i=some o)(hx:ρ i=some x){ob:Obj}(hm: ∀arr c,ob≠ .map arr c):HR P w0 ρ (h.del i) nx (w.putObj x.b ob):=by
 obtain⟨hin,x',hx',hlo,W,_⟩:=E.live i o hi;rw[hx]at hx';injection hx' with hx';subst hx'
 have hs:(w.putObj x.b ob).heap.size=w.heap.size:=by simp
 have Y: ∀k,k≠x.b->(w.putObj x.b ob).heap[k]?=w.heap[k]?:=λk hk=>Wy hk;have real: ∀{l r},(h.del i).get l=some r->h.get l=some r/\l≠i:=λ{l r} H=>by
  rw[T.get_del]at H;split at H;cases H;rename_i e;exact⟨H,e⟩
 refine⟨λj p hj=>?_,λj k p q y z hj hk=>E.inj j k p q y z (real hj).1 (real hk).1,E.top,λk hk=>(Y k (by omega)).trans (E.base k hk),by rw[hs];exact E.size,E.os,E.tape,E.output⟩;obtain⟨h1,h2⟩:=real hj;obtain⟨g1,y,g2,g3,g4,g5⟩:=E.live j p h1;refine⟨g1,y,g2,g3,by omega,OR.keep (Le.refl _) (by omega) (Y y.b λe2=>h2 (E.inj j i p o y x h1 hi g2 hx e2)) (λb _=>?_) g5⟩;by_cases hb:b=x.b;subst hb;intro arr' c' J;rw[Wm W]at J;injection J with J
 exact absurd J (hm _ _);exact Ben.of_eq (Y b hb)
def Tr.drop (J:HR P w0 ρ h nx w){i:Nat}{o:O}{x:Pl}(H:h.get i=some o)(hx:ρ i=some x)(ob:Obj)(W:fl<=i):Tr ρ h nx w ρ (h.del i) nx (w.putObj x.b ob) fl:=
 ⟨Le.refl _,Qr _,by simp,λb hb Y=>Wy λe=>Y i o x H hx e.symm,λj p y E hy _=>by
  rw[T.get_del]at E;split at E;cases E;exact⟨j,p,y,E,hy,rfl⟩,λj E=>by rw[T.get_del,Qb (by omega)],λj p y E h1 h2=>Wy λe=>by have:=J.inj j i p o y x h1 H h2 hx e;omega,λ_ _ h=>h⟩
def o_bU {x:Option Rs}{p:T O×Nat}(E:callH x=some p): ∃v,x=some (.call v p.1 p.2):=by
 unfold callH at E;split at E;injection E with E;subst E;exact⟨_,rfl⟩
 cases E
def isDf_eq {o:Option O}(h:isDf o=true):o=some .df:=by
 unfold isDf at h;split at h;rfl;cases h
def o_a2 (hi:Sd P C ih){fn:Func}{tmps:Array Value}{R:Ending->World->Prop}: ∀(ds:List (Option (V×List V)×Nat)) {dl:List Deferred} {h:T O} {nx:Nat} {ρ:Rho} {w:World},Qlj ih fl ds h nx=some (h2,nx2)->dcl ρ ds dl->HR P w0 ρ h nx w->fl<=nx->
  (∀ρ' w',HR P w0 ρ' h2 nx2 w'->Tr ρ h nx w ρ' h2 nx2 w' fl->∃v,(results fn tmps).run P w'=.ok v w'/\R (.returned v) w')->LeavesInM (FW none) 0 P fn tmps R dl .returning w
 | [],[],h,nx,ρ,w,E,_,J,_,hQ=>by
  simp only[Qlj,Qg,Qt]at E;obtain⟨rfl,rfl⟩:=E;exact hQ ρ w J (Tr.refl _ _ _ _ _)
 | [],_::_,_,_,_,_,_,W,_,_,_=>W.elim
 |_::_,[],_,_,_,_,_,W,_,_,_=>W.elim
 |(none,i)::r,d::dl,h,nx,ρ,w,E,W,J,H,hQ=>by
  unfold Qlj at E;obtain⟨hb,h1⟩:=Qaa E;rw[Qd]at hb;have Y:=isDf_eq hb.2;have hfi:=Qm hb.1;obtain⟨⟨y,hy,rfl⟩,hd2⟩:=W;obtain⟨_,y',hy',_,_,hor⟩:=J.live i _ Y;rw[hy]at hy';injection hy' with hy';subst hy'
  refine⟨by simp,.inl ⟨y.b,_,rfl,run_takeDeferred hor,o_a2 hi r h1 hd2 (J.drop Y hy (λ_ _ h=>by cases h)) H λρ' w' g1 g2=>hQ ρ' w' g1 ((Tr.drop J Y hy _ hfi).trans g2)⟩⟩
 |(some (f,args),j)::r,d::dl,h,nx,ρ,w,E,W,J,H,hQ=>by
  unfold Qlj at E;split at E;rename_i h1 nx1 hc;obtain⟨v,hc⟩:=o_bU hc;obtain⟨⟨fid,first,cap,A,us,c,rfl,k1,k2,k3,rfl⟩,hd2⟩:=W;obtain⟨A',c',g1,g2,g3,g4⟩:=hi.dcall hc J H (Qfj k1 k3) k2;rw[k1]at g1;injection g1 with g1;subst g1
  rw[k3]at g2;injection g2 with g2;subst g2
  refine⟨by simp,.inr ⟨(λh=>by cases h),.func fid,c.toArray,fid,(A++us++c).toArray,rfl,?_,λ_ _=>trivial,CallsDIn.mono g4 λe u2 w' ⟨hu,u,ρ1,he,_,q2,q3⟩=>?_⟩⟩;simp[invoke,g3 _ _];subst hu;subst he;exact o_a2 hi r E (Qbk q3.le hd2) q2 (Wb H q3.nx) λρ' w' p1 p2=>hQ ρ' w' p1 (q3.trans p2);cases E
def loadV_p {t:QQ}{p:V}{u:Value}(E:loadV C h t p=some v)(hp:cv ρ p=some u): ∃ad,u=.pointer (some ad):=by
 unfold loadV at E;split at E;split at E;rename_i H;unfold Qlk at H;split at H;rename_i i o J;rw[V.ptr?_eq J]at hp;obtain⟨x,_,h1⟩:=cv_p hp;exact⟨_,h1⟩;split at H;rename_i g o W;rw[V.gl?_eq W]at hp;exact⟨_,cv_gl hp⟩;cases H;cases E;cases E
def resOp (tmps:Array Value):ResultVar->Sem Value
 | .tmp t=>pure (tmps.getD t undef)
 | .cell a t=>do loadVar t (<-asAddr (tmps.getD a undef))
def o_dT (W:OKC P C)(H:Fe ρ s.env n a)(Y:HR P w0 ρ h nx w){x:ResultVar}(E:res1 C s.env h x=some v): ∃u,cv ρ v=some u/\(resOp a.tmps x).run P w=.ok u w:=by
 cases x with
 |tmp t=>
  obtain⟨u,h1,h2⟩:=H.get t v E;exact⟨u,h1,by simp[resOp,Q1,h2]⟩
 |cell t T=>
  unfold res1 at E;simp only at E;split at E;rename_i p hp;obtain⟨u,h1,h2⟩:=H.get t p hp;obtain⟨z,h3,J⟩:=o_bQ W Y h1 E;obtain⟨ad,rfl⟩:=loadV_p E h1;refine⟨z,h3,?_⟩;have h5:a.tmps.getD t undef=.pointer (some ad):=by simp[Q1,h2]
  simp only[resOp,h5];simp only[Instr.loadAt,Instr.sureAddr]at J;simpa[asAddr] using J;cases E
def o_cH (H:OKC P C)(J:Fe ρ s.env n a)(W:HR P w0 ρ h nx w): ∀{xs:List ResultVar} {vs:List V},resV C s.env h xs=some vs->∃us,cvl ρ vs=some us/\(xs.mapM (resOp a.tmps)).run P w=.ok us w
 | [],vs,E=>by injection E with E;subst E;exact⟨[],by unfold cvl;rfl,by simp⟩
 |x::xs,vs,E=>by
  unfold resV at E;split at E;rename_i v1 h1;split at E;rename_i ws h2;injection E with E;subst E
  obtain⟨u,Y,g2⟩:=o_dT H J W h1;obtain⟨us,g3,g4⟩:=o_cH H J W h2;refine⟨u::us,Qae Y g3,?_⟩;rw[List.mapM_cons];simp[Qp,g2,g4];cases E;cases E
def o_cL (J:OKC P C)(W:Fe ρ s.env n a)(Y:HR P w0 ρ h nx w){fn:Func}{vs:List V}(hl:resV C s.env h fn.results.toList=some vs): ∃u,cv ρ (one vs)=some u/\(results fn a.tmps).run P w=.ok u w:=by
 obtain⟨us,h1,h2⟩:=o_cH J W Y hl;have h3:(fn.results.mapM (resOp a.tmps)).run P w=.ok us.toArray w:=by
  rw[<-Q9 (xs:=fn.results),List.mapM_toArray,Sem.run_map,h2];rfl
 have h4:(results fn a.tmps).run P w=.ok (if h:us.toArray.size=1 then us.toArray[0]else .tuple us.toArray) w:=by
  have h5:results fn a.tmps=(do let vs<-fn.results.mapM (resOp a.tmps);pure (if h:vs.size=1 then vs[0]else .tuple vs)):=by
   unfold results;congr 1
  rw[h5,Qp,h3];simp
 refine⟨_,?_,h4⟩;match vs,us,h1 with
 | [],us,h1=>
  have h2:=Qbd h1;subst h2;exact cv_t_mk h1
 | [x],us,h1=>
  obtain⟨u,us',rfl,H,E⟩:=Qan h1;rw[Qbd E];simpa[one] using H
 |x::y::l,us,h1=>
  obtain⟨u,us',rfl,H,E⟩:=Qan h1;obtain⟨u2,us2,rfl,g3,g4⟩:=Qan E;simp[one];exact cv_t_mk h1
def argV_get: ∀(vs:List V) (i:Nat) (e:Env) (d:Nat) (x:V),(argV vs i e).get d=some x->(i<=d/\vs[d-i]?=some x)\/e.get d=some x
 | [],i,e,d,x,h=>.inr h
 |y::vs,i,e,d,x,h=>by
  rcases argV_get vs (i+1) (e.set i y) d x h with⟨h1,h2⟩|h0
  refine .inl ⟨by omega,?_⟩;rw[show d-i=(d-(i+1))+1 by omega,Ww];exact h2;have h1:(Env.c i y e).get d=some x:=h0;clear h0;rw[Env.get_c]at h1;split at h1;rename_i E;subst E;exact .inl ⟨Qr _,by simpa using h1⟩;exact .inr h1
def Fe.entry {vs:List V}{us:QL}(H:cvl ρ vs=some us){n:Nat}(W:vs.length<=n):Fe ρ (argV vs 0 .o) n {tmps:=us.toArray++Array.replicate (n-us.toArray.size) undef,defers:=[]}:=by
 have hlen:=cvl_len H;refine⟨by simp;omega,λd x E=>?_⟩;rcases argV_get vs 0 .o d x E with⟨_,h1⟩|h1
 obtain⟨u,h2,J⟩:=cvl_get H h1;refine⟨u,J,?_⟩;have E:d<us.length:=by
  rcases Yh d us.length with h'|h'
  exact h';rw[Wh (by omega)]at h2;cases h2
 rw[Xr (by simpa using E)];simpa using h2;cases h1
def o_dw (E:OKC P C){fid:Nat}{fn:Func}{c:Code}(H:C.fn.get fid=some fn)(J:fn.body=some c):P.funcs[fid]?=some fn/\CF P fid:=by
 obtain⟨h1,h2⟩:=E.fn fid fn H;refine⟨h1,λargs w=>?_⟩;simp[callFunc,Qp,h1,h2,J]
def Qjr {x:X}(h:Qjv x=false):exOf x=.normal\/exOf x=.ret:=by cases x<;>first|exact .inl rfl|exact .inr rfl|cases h
def o_c4 (hC:OKC P C)(hi:Sd P C ih){fid:Nat}{args:List V}{v:V}{us:QL}(E:fnCall C ih fid args h nx fl=some (.call v h2 nx2))(hr:HR P w0 ρ h nx w)(J:fl<=nx)(hv:cvl ρ args=some us):
  CF P fid/\Calls P fid us.toArray w (En P w0 ρ h nx fl w v h2 nx2):=by
 unfold fnCall at E;split at E;rename_i fn W;split at E;rename_i c hc;obtain⟨Y,h1⟩:=Qaa E;clear E;rw[Qd]at Y;obtain⟨hpf,hcf⟩:=o_dw hC W hc;refine⟨hcf,callsIn_wide.1 (callsIn_of_wp_marks (F:=FW none) (n:=0) hpf hc trivial ?_)⟩;unfold bodyR at h1;split at h1;rename_i x s1 hcode;cases hx:Qjv x with
 |true=>rw[hx]at h1;cases h1
 |false=>
  rw[hx,cond_false]at h1;have hw:=hi.code hcode Y.1 (r:=none) rfl (St.mk (P:=P) (w0:=w0) (ρ:=ρ) (w:=w) (Fe.entry hv (Qm Y.2)) trivial hr J);refine wpIn_mono hw λe a' w' ⟨he,ρ1,H,g2,_,g4⟩=>?_;have hL:LeavesInM (FW none) 0 P fn a'.tmps (En P w0 ρ h nx fl w v h2 nx2) a'.defers .returning w':=by
   unfold retR at h1;split at h1;rename_i h3 nx3 hds;split at h1;rename_i vs hres;simp only[Qg,Rs.call.injEq]at h1;obtain⟨rfl,rfl,rfl⟩:=h1;have g4:s1.fl=fl:=g4;refine o_a2 hi s1.ds hds H.ds H.hr (by rw[<-g4];exact H.fl) λρ' w2 p1 p2=>?_;obtain⟨u,q1,q2⟩:=o_cL hC (H.fe.mono p2.le) p1 hres;exact⟨u,q2,u,ρ',rfl,q1,p1,g2.trans p2⟩;cases h1;cases h1
  rcases Qjr hx with hx|hx<;>rw[he,hx]<;>exact hL
 cases h1;cases E;cases E
def isRec_eq {c:Call}(h:isRec c=true):c={callee:=.builtin .recover,args:=#[],argTypes:=#[]}:=by
 obtain⟨ce,xs,ts⟩:=c;unfold isRec at h;split at h;rename_i E;have E:ce=.builtin .recover:=E;subst E;rw[Qd]at h;have h1:=Qk h.1;have h2:=Qk h.2;simp only[Array.size_eq_zero_iff]at h1 h2;subst h1;subst h2;rfl;cases h
def dBody_eq {c b:Code}{d:Nat}(h:dBody c=some (d,b)): ∃id T pos af,c=.seq (.region id #[⟨some d,.call {callee:=.builtin .recover,args:=#[],argTypes:=#[]},T,pos,af,none⟩] false) b:=by
 unfold dBody at h;split at h;rename_i id ops b';split at h;rename_i d' hrec;simp only[Qg,Qt]at h;obtain⟨rfl,rfl⟩:=h;unfold recOp at hrec;split at hrec;rename_i d2 c2 T pos af hops;obtain⟨E,h1⟩:=Qaa hrec;injection h1 with h1;subst h1
 have:=isRec_eq E;subst this;refine⟨id,T,pos,af,?_⟩;rw[<-Q9 (xs:=ops),hops];cases hrec;cases h;cases h
def enterRecIn {f:FuncId}{fn:Func}{c:Code}{args:Array Value}{id d:Nat}{T:QQ}{pos:String}{af:Array Edge}{R:Ending->World->Prop}(H:P.funcs[f]?=some fn)
  (J:fn.body=some (Code.seq (.region id #[⟨some d,.call {callee:=.builtin .recover,args:=#[],argTypes:=#[]},T,pos,af,none⟩] false) c))
  (h:WP none P c (bodyPost P fn R) (({tmps:=args++Array.replicate (fn.ntmps-args.size) undef,defers:=[]}:Act).put (some d) .nilIface) w):CallsDIn (FW none) 0 P f args .returning w λe W w'=>W=.returning/\R e w':=by
 refine callsDIn_of_wpSIn H J trivial λc₀ cs E=>wpSIn_seq (wpSIn_region ?_);have hx: ∀a':Act,(execOp a'.eval ⟨some d,.call {callee:=.builtin .recover,args:=#[],argTypes:=#[]},T,pos,af,none⟩).run P w=.ok .recover w:=λa'=>by
  simp[execOp,resolve,invoke,builtin]
 have Y:List.range (Array.size #[(⟨some d,.call {callee:=.builtin .recover,args:=#[],argTypes:=#[]},T,pos,af,none⟩:Oper)])=[0]:=rfl;rw[Y];have hrec:recoverD (c₀::cs)=none:=by simp[recoverD,E]
 have hc:c₀={c₀ with mode:=.returning}:=by rw[<-E]
 simp only[wpOpsSIn,Wv,Wp,Region.wanted,Xo,hx,hrec,Exit.thenS];refine⟨λ_ _=>trivial,wpSIn_of_wpIn rfl (wpIn_mono h λe a w hq=>?_)⟩;rw[hc];exact bodyPost_S e a w hq
def o_dk (hC:OKC P C)(hi:Sd P C ih){f:V}{args:List V}{v:V}{u:Value}{us:QL}(E:dCall C ih args h nx fl f=some (.call v h2 nx2))(hr:HR P w0 ρ h nx w)(W:fl<=nx)(hf:cv ρ f=some u)(hv:cvl ρ args=some us):
  Dl P w0 ρ h nx fl w us v h2 nx2 f:=by
 unfold dCall at E;split at E;rename_i fid first cap
 obtain⟨A,c,k1,k2,_⟩:=cv_f hf;split at E;rename_i fn Y;split at E;rename_i cd H;obtain⟨hpf,hcf⟩:=o_dw hC Y H;refine⟨A,c,k1,k2,hcf,?_⟩;have hvs:=Qeo (Qeo k1 hv) k2;unfold dRun at E;split at E;rename_i d b hdb;obtain⟨id,T,pos,af,rfl⟩:=dBody_eq hdb;obtain⟨J,h1⟩:=Qaa E;clear E;rw[Qd,Qd]at J;refine enterRecIn hpf H ?_;unfold endD at h1;split at h1;rename_i x s1 hcode;cases hx:Qjv x|| !s1.ds.isEmpty|| !fn.results.toList.isEmpty with
 |true=>rw[hx]at h1;cases h1
 |false=>
  rw[hx,cond_false]at h1;simp only[Yw,Jr,J6]at hx;obtain⟨⟨hx1,hx2⟩,hx3⟩:=hx;simp only[Qg,Rs.call.injEq]at h1;obtain⟨rfl,rfl,rfl⟩:=h1;have hd:d<fn.ntmps:=Qm J.2;have hn:cv ρ (.k .nilIface)=some .nilIface:=by unfold cv;rfl
  have hw:=hi.code hcode J.1.1 (r:=none) rfl (St.mk (P:=P) (w0:=w0) (ρ:=ρ) (w:=w) ((Fe.entry hvs (Qm J.1.2)).put hd hn) trivial hr W);refine wpIn_mono hw λe a' w' ⟨he,ρ1,g1,g2,_,g4⟩=>?_;have hdf:a'.defers=[]:=by
   have:=g1.ds;rw[hx2]at this;cases hd2:a'.defers with
   |nil=>rfl
   |cons _ _=>rw[hd2]at this;exact this.elim
  have hrs:fn.results=#[]:=by rw[<-Q9 (xs:=fn.results),hx3]
  have hL:a'.defers=[]/\∃v,(results fn a'.tmps).run P w'=.ok v w'/\En P w0 ρ h nx fl w un s1.h s1.nx (.returned v) w':=
   ⟨hdf,undef,results_none hrs _ _ _,undef,ρ1,rfl,Qft,g1.hr,g2⟩
  rcases Qjr hx1 with hx|hx<;>rw[he,hx]<;>exact hL
 cases h1;cases E;cases E;cases E;cases E
end
section
variable {P:QR}{C:Cx}{ih:Job->Option Rs}{w0:World}{ρ:Rho}{n:Nat}{s s':S}{a:Act}{w:World}{r:QN}{v:V}{h h2:T O}{nx nx2 fl:Nat}
def Qha {i:Nat}{e:Env}{ps:QM}{x y:Code}{st:Bool}{p:Option Code}(E:lpAt h i=some (e,ps,x,y,st,p)):h.get i=some (.lp e ps x y st p):=by
 unfold lpAt at E;split at E;rename_i H;simp only[Qg,Qt]at E;obtain⟨rfl,rfl,rfl,rfl,rfl,rfl⟩:=E;exact H;cases E
def pendX_eq {p:Option Code}{x:X}(E:pendX p=some x):(p=none/\x=.n)\/(p=some .ret/\x=.r)\/∃j,p=some (.exit j)/\x=.e j:=by
 unfold pendX at E;split at E;injection E with E;exact .inl ⟨rfl,E.symm⟩
 injection E with E;exact .inr (.inl ⟨rfl,E.symm⟩)
 rename_i j;injection E with E;exact .inr (.inr ⟨j,rfl,E.symm⟩)
 cases E
def Fe.acts {e:Env}{t:Array Value}{ds ds':List Deferred}(E:Fe ρ e n ⟨t,ds⟩):Fe ρ e n ⟨t,ds'⟩:=⟨E.size,E.get⟩
def loop_ne {b:Nat}{lp:Loop}{w':World}(h:w'.heap[b]?=some (.loop lp)):Ben w w' b:=λarr c E=>by rw[h]at E;injection E with E;cases E
def o_ea (hC:OKC P C)(hi:Sd P C ih){f:Operand}{ps:Array Nat}{asg body:Code}{x:X}(H:cRf ih f ps.toList asg body s=some (.code x s'))(Y:okD n (.rangeFunc f ps asg body)=true)(hrd:r.isSome=s.rd)(E:St P w0 ρ n s a w):
  WP r P (.rangeFunc f ps asg body) (λe a' w'=>e=exOf x/\To P w0 ρ n s w s' a' w') a w:=by
 unfold cRf at H;split at H;rename_i fv hfv;cases hb:s.rd|| !isF fv with
 |true=>rw[hb]at H;cases H
 |false=>
  rw[hb,cond_false]at H;simp only[Yw,Jr]at hb;obtain⟨hb1,hb2⟩:=hb;rw[hb1]at hrd;have hr0:r=none:=by cases r<;>first|rfl|cases hrd
  subst hr0;unfold rfEnd at H;split at H;rename_i h3 nx3 hcl;obtain⟨v,hcl⟩:=o_bU hcl;split at H;rename_i e3 ps3 x3 y3 st3 p3 hlp;cases hsp:st3&&p3.isNone with
  |true=>rw[hsp]at H;cases H
  |false=>
   rw[hsp,cond_false]at H;split at H;rename_i x' hpx;simp only[Qg,Rs.code.injEq]at H;obtain⟨rfl,rfl⟩:=H;have hlp:=Qha hlp;have Y:(ps.toList.all (λd=>Nat.blt d n)&&okD n asg&&okD n body)=true:=Y;rw[Qd,Qd]at Y;obtain⟨u,h1,h2⟩:=o_b E.fe hfv;refine wpIn_rangeFunc λfn hfn=>?_;obtain⟨rec,hrec⟩: ∃rec:Loop,rec={state:=.ready,pending:=none,fn,tmps:=a.tmps,params:=ps,assign:=asg,body,defers:=w.heap.size}:=⟨_,rfl⟩;have hx1:OR P (ρ.add s.nx ⟨w.heap.size,0,0,0⟩) (w.alloc (.deferred (some []))) ⟨w.heap.size,0,0,0⟩ .df:=Xe w _;have hr1:=E.hr.alloc (.deferred (some [])) .df ⟨w.heap.size,0,0,0⟩ rfl hx1;have W:=Tr.alloc E.hr (.deferred (some [])) .df ⟨w.heap.size,0,0,0⟩ rfl E.fl;have hsz:w.heap.size+1=(w.alloc (.deferred (some []))).heap.size:=by simp
   obtain⟨ρ1,hρ1⟩: ∃ρ1,ρ1=ρ.add s.nx ⟨w.heap.size,0,0,0⟩:=⟨_,rfl⟩;have hd1:ρ1 s.nx=some ⟨w.heap.size,0,0,0⟩:=by rw[hρ1];exact Rho.add_same _ _ _
   rw[<-hρ1]at hr1 W;have hl2:Le ρ1 (ρ1.add (s.nx+1) ⟨w.heap.size+1,0,0,0⟩):=Rho.le_add (hr1.top _ (Qr _));have hx2:OR P (ρ1.add (s.nx+1) ⟨w.heap.size+1,0,0,0⟩) ((w.alloc (.deferred (some []))).alloc (.loop rec)) ⟨w.heap.size+1,0,0,0⟩ (.lp s.env ps.toList asg body false none):=by
    refine⟨rec,n,?_,by rw[hrec];rfl,by rw[hrec],by rw[hrec],by rw[hrec],by rw[hrec],?_,Y.1.2,Y.2,λd hd=>?_⟩;have:=Xe (w.alloc (.deferred (some []))) (.loop rec);rwa[<-hsz]at this;rw[hrec];exact(E.fe.mono (W.le.trans hl2)).acts;have:=Q5.1 Y.1.1 d hd;exact Qm this
   have hr2:=hr1.alloc (.loop rec) (.lp s.env ps.toList asg body false none) ⟨w.heap.size+1,0,0,0⟩ hsz hx2;have J:=Tr.alloc hr1 (.loop rec) (.lp s.env ps.toList asg body false none) ⟨w.heap.size+1,0,0,0⟩ hsz (fl:=s.fl) (X3 E.fl);obtain⟨ρ2,hρ2⟩: ∃ρ2,ρ2=ρ1.add (s.nx+1) ⟨w.heap.size+1,0,0,0⟩:=⟨_,rfl⟩;have hd2:ρ2 (s.nx+1)=some ⟨w.heap.size+1,0,0,0⟩:=by rw[hρ2];exact Rho.add_same _ _ _
   rw[<-hρ2]at hr2 J;obtain⟨W1,hW1⟩: ∃W1,W1=(w.alloc (.deferred (some []))).alloc (.loop rec):=⟨_,rfl⟩;rw[<-hW1]at hr2 J;have hy:cvl ρ2 [.y (s.nx+1)]=some [.func (.yield (w.heap.size+1)) #[] #[]]:=Qae (by unfold cv;rw[hd2]) (by unfold cvl;rfl);have hc:=hi.call hcl hr2 (X3 (X3 E.fl)) (Qaj (W.le.trans J.le) _ _ h1) hy;cases fv with
   |f fid first cap=>
    obtain⟨A,c,k1,k2,hcf,hcalls⟩:=hc;have h7:u=.func (.func fid) A.toArray c.toArray:=by
     obtain⟨A',c',q1,q2,rfl⟩:=cv_f (Qaj (W.le.trans J.le) _ _ h1);rw[k1]at q1;injection q1 with q1;subst q1
     rw[k2]at q2;injection q2 with q2;subst q2;rfl
    rw[h7]at h2;have hc0:=callsFW (r:=none) (n:=0) hcalls;have henter:(Instr.enterLoop fn a.tmps ps asg body none).run P w=.ok (w.heap.size+1,[mkD w.heap.size]) W1:=by rw[hW1,hrec];exact run_enterLoop_outer _ _ _ _ _
    have hres:(resolve a.eval (rangeCall f (w.heap.size+1)) 0).run P W1=.ok {target:=.fn (.func fid) c.toArray,args:=A.toArray++#[.func (.yield (w.heap.size+1)) #[] #[]]} W1:=by
     simp only[resolve,h2];simp[Deferred.ofValue,Act.eval]
    have hinv:(invoke (.fn (.func fid) c.toArray) (A.toArray++#[Value.func (.yield (w.heap.size+1)) #[] #[]])).run P W1=.ok (.enter fid (A++[Value.func (.yield (w.heap.size+1)) #[] #[]]++c).toArray) W1:=by
     simp[invoke,hcf _ _]
    refine⟨w.heap.size+1,[mkD w.heap.size],W1,_,W1,fid,_,W1,henter,hres,λ_ _=>trivial,hinv,(λh=>by cases h),CallsIn.mono hc0 ?_⟩;rintro e w3 ⟨uv,ρ3,rfl,_,hr3,ht3⟩;obtain⟨_,x3',hx3,_,_,hor⟩:=hr3.live _ _ hlp;have:=ht3.le _ _ hd2;rw[hx3]at this;injection this with this;subst this
    obtain⟨lp3,n3,g1,g2,g3,g4,g5,g6,_⟩:=hor;have hnb:lp3.state≠ .busy:=by
     rw[g2];cases st3 with
     |false=>simp
     |true=>
      have hpn:p3.isNone=false:=by simpa using hsp
      simp[hpn]
    have hend:=run_endLoop (P:=P) g1 hnb;have hfl3:s.fl<=nx3:=Wb (X3 (X3 E.fl)) ht3.nx;have kA:=(E.fe.mono (W.le.trans (J.le.trans ht3.le)));have kB:dcl ρ3 ((none,s.nx)::s.ds) ([mkD w.heap.size]++a.defers):=⟨⟨_,ht3.le _ _ (J.le _ _ hd1),rfl⟩,Qbk (W.le.trans (J.le.trans ht3.le)) E.ds⟩;obtain⟨w4,hw4⟩: ∃w4,w4=w3.putObj (w.heap.size+1) (.loop {lp3 with state:=.exhausted}):=⟨_,rfl⟩;have kC:HR P w0 ρ3 (h3.del (s.nx+1)) nx3 w4:=by rw[hw4];exact hr3.drop hlp hx3 (λ_ _ h=>by cases h)
    have kD:Tr ρ s.h s.nx w ρ3 (h3.del (s.nx+1)) nx3 w4 s.fl:=by rw[hw4];exact((W.trans J).trans ht3).trans (Tr.drop hr3 hlp hx3 _ (X3 E.fl))
    have hto:To P w0 ρ n s w ⟨s.env,(none,s.nx)::s.ds,h3.del (s.nx+1),nx3,s.rd,s.fl⟩ {a with defers:=[mkD w.heap.size]++a.defers} w4:=⟨ρ3,⟨kA.acts,kB,kC,hfl3⟩,kD,rfl,rfl⟩;have hend:(Instr.endLoop (w.heap.size+1)).run P w3=.ok p3 w4:=by rw[hw4,<-g3];exact hend
    refine⟨p3,_,hend,?_⟩;rcases pendX_eq hpx with⟨rfl,rfl⟩|⟨rfl,rfl⟩|⟨j,rfl,rfl⟩
    exact⟨rfl,hto⟩;exact wpIn_ret ⟨rfl,hto⟩;exact wpIn_exit ⟨rfl,hto⟩
   |k _=>exact hc.elim
   |p _ _=>exact hc.elim
   |s _ _ _ _=>exact hc.elim
   |m _=>exact hc.elim
   |q _=>exact hc.elim
   |w _=>exact hc.elim
   |gl _ _=>exact hc.elim
   |g _=>exact hc.elim
   |t _=>exact hc.elim
   |i _ _=>exact hc.elim
   |y _=>cases hb2
   cases H
  cases H;cases H
 cases H
def o_bV: ∀{ps:QM} {vs:List V} {us:QL} {e e':Env} {t:Array Value},bindV ps vs e=some e'->cvl ρ vs=some us->(∀d∈ps,d<n)->Fe ρ e n ⟨t,[]⟩->us.length=ps.length/\Fe ρ e' n ⟨(ps.zip us).foldl (λt (p,v)=>t.setIfInBounds p v) t,[]⟩
 | [],[],us,e,e',t,h,E,_,H=>by
  injection h with h;subst h;rw[Qbd E];exact⟨rfl,H⟩
 | [],_::_,_,_,_,_,h,_,_,_=>by cases h
 |_::_,[],_,_,_,_,h,_,_,_=>by cases h
 |p::ps,x::vs,us,e,e',t,h,E,J,H=>by
  obtain⟨u,us',rfl,h1,h2⟩:=Qan E;obtain⟨W,Y⟩:=o_bV (e:=e.set p x) h h2 (λd hd'=>J d (Qf _ hd')) (H.put (J p (Qh ..)) h1);exact⟨by simp[W],Y⟩
def jump_eq {x:X}{b:Bool}{c:Option Code}(E:jump x=some (b,c)):b=c.isSome/\((x=.n/\c=none)\/(x=.r/\c=some .ret)\/∃j,x=.e j/\c=some (.exit j)):=by
 cases x with
 |n=>simp only[jump,Qg,Qt]at E;obtain⟨rfl,rfl⟩:=E;exact⟨rfl,.inl ⟨rfl,rfl⟩⟩
 |r=>simp only[jump,Qg,Qt]at E;obtain⟨rfl,rfl⟩:=E;exact⟨rfl,.inr (.inl ⟨rfl,rfl⟩)⟩
 |e j=>simp only[jump,Qg,Qt]at E;obtain⟨rfl,rfl⟩:=E;exact⟨rfl,.inr (.inr ⟨j,rfl,rfl⟩)⟩
def o_dl (hC:OKC P C)(hi:Sd P C ih){i:Nat}{args:List V}{us:QL}(E:yCall ih i args h nx fl=some (.call v h2 nx2))(hr:HR P w0 ρ h nx w)(hfl:fl<=nx)(hv:cvl ρ args=some us):Cl P w0 ρ h nx fl w us v h2 nx2 (.y i):=by
 unfold yCall at E;cases hb:Nat.blt i fl with
 |true=>rw[hb]at E;cases E
 |false=>
  rw[hb,cond_false]at E;have hfi:=Qat hb;split at E
  ·rename_i e ps asg body Y
   have Y:=Qha Y;split at E
   ·rename_i e' hbd
    unfold yBody at E;split at E
    ·rename_i s1 hasg
     unfold yGo at E;split at E
     ·rename_i e1 ps1 a1 b1 hlp1
      have hlp1:=Qha hlp1;unfold yEnd at E;split at E
      ·rename_i x H hbody
       split at E
       ·rename_i b c hj
        unfold yOut at E;split at E
        ·rename_i e2 ps2 a2 b2 st2 p2 hlp2
         have hlp2:=Qha hlp2;simp only[Qg,Rs.call.injEq]at E;obtain⟨rfl,rfl,rfl⟩:=E;obtain⟨_,y,hy,_,hyb,lp,m,g1,g2,g3,g4,g5,g6,g7,g8,g9,g10⟩:=hr.live i _ Y;obtain⟨k1,k2⟩:=o_bV hbd hv g10 g7;have hyl:=run_yield (P:=P) (args:=us.toArray) g1 (by rw[g4];simpa using k1);refine⟨y,hy,lp.fn,_,lp.assign,lp.body,hyl,roundIn_of_wpIn trivial ?_⟩;have hz:(lp.params.zip us.toArray).foldl (λt (p,v)=>t.setIfInBounds p v) lp.tmps=(ps.zip us).foldl (λt (p,v)=>t.setIfInBounds p v) lp.tmps:=by rw[g4];simp
         rw[hz,g5,g6];refine wpIn_mono (hi.code hasg g8 (r:=some y.b) rfl (St.mk (P:=P) (w0:=w0) (ρ:=ρ) (w:=w) k2 trivial hr hfl)) λex a' W ⟨he,ρ1,q1,q2,q3,q4⟩=>?_;subst he;have J:=q2.le _ _ hy;obtain⟨_,y',hy',_,hyb1,lp1,m1,j1,j2,j3,j4,j5,j6,j7,j8,j9,j10⟩:=q1.hr.live i _ hlp1;rw[J]at hy';injection hy' with hy';subst hy'
         refine⟨_,run_beginRound j1 (by rw[j2];rfl),?_⟩;have q4:s1.fl=fl:=q4;have hsame:(W.putObj y.b (.loop {lp1 with state:=.busy})).heap[y.b]?=some (.loop {lp1 with state:=.busy}):=Wm hyb1;have hru:HR P w0 ρ1 (s1.h.set i (.lp e1 ps1 a1 b1 true none)) s1.nx (W.putObj y.b (.loop {lp1 with state:=.busy})):=
          q1.hr.upd hlp1 J (by simp) (λk hk=>Wy hk) rfl rfl rfl (loop_ne hsame) ⟨_,m1,hsame,rfl,j3,j4,j5,j6,j7,j8,j9,j10⟩
         have htu:Tr ρ1 s1.h s1.nx W ρ1 (s1.h.set i (.lp e1 ps1 a1 b1 true none)) s1.nx (W.putObj y.b (.loop {lp1 with state:=.busy})) fl:=
          Tr.upd q1.hr hlp1 J (by simp) (λk hk=>Wy hk) hfi
         refine wpIn_mono (hi.code hbody g9 (r:=some y.b) (by show true=s1.rd;rw[q3]) (St.mk (P:=P) (w0:=w0) (ρ:=ρ1) q1.fe q1.ds hru q1.fl)) λex2 a3 W3 ⟨he,ρ2,z1,z2,z3,z4⟩=>?_;subst he;have hy2:=z2.le _ _ J;obtain⟨_,y',hy',_,hyb2,lp2,m2,v1,v2,v3,v4,v5,v6,v7,v8,v9,v10⟩:=z1.hr.live i _ hlp2;rw[hy2]at hy';injection hy' with hy';subst hy'
         have hend:=λjump=>run_endRound (P:=P) jump v1;obtain⟨hbc,hcs⟩:=jump_eq hj;have hsame2: ∀lp',(W3.putObj y.b (.loop lp')).heap[y.b]?=some (.loop lp'):=λlp'=>Wm hyb2;have z2:Tr ρ1 (s1.h.set i (.lp e1 ps1 a1 b1 true none)) s1.nx (W.putObj y.b (.loop {lp1 with state:=.busy})) ρ2 H.h H.nx W3 fl:=by rw[<-q4];exact z2
         have fin:En P w0 ρ h nx fl w (bo (!b)) (H.h.set i (.lp e2 ps2 a2 b2 b c)) H.nx (.returned (.bool c.isNone)) (W3.putObj y.b (.loop {lp2 with state:=if c.isNone then .ready else .done,pending:=c})):=by
          have hru2:HR P w0 ρ2 (H.h.set i (.lp e2 ps2 a2 b2 b c)) H.nx (W3.putObj y.b (.loop {lp2 with state:=if c.isNone then .ready else .done,pending:=c})):=
           z1.hr.upd hlp2 hy2 (by simp) (λk hk=>Wy hk) rfl rfl rfl (loop_ne (hsame2 _)) ⟨_,m2,hsame2 _,by rw[hbc];cases c<;>rfl,rfl,v4,v5,v6,v7,v8,v9,v10⟩
          have htu2:Tr ρ2 H.h H.nx W3 ρ2 (H.h.set i (.lp e2 ps2 a2 b2 b c)) H.nx (W3.putObj y.b (.loop {lp2 with state:=if c.isNone then .ready else .done,pending:=c})) fl:=
           Tr.upd z1.hr hlp2 hy2 (by simp) (λk hk=>Wy hk) hfi
          exact⟨_,ρ2,rfl,by rw[hbc];cases c<;>exact Qaz _,hru2,((q2.trans htu).trans z2).trans htu2⟩
         rcases hcs with⟨rfl,rfl⟩|⟨rfl,rfl⟩|⟨j,rfl,rfl⟩
         exact⟨_,_,hend _,fin⟩;exact⟨_,_,hend _,fin⟩;exact⟨_,_,hend _,fin⟩
        cases E
       cases E
      cases E
     cases E
    cases E
   cases E
  cases E
def o_dm (J:OKC P C)(W:Sd P C ih){f:V}{args:List V}{u:Value}{us:QL}(E:fCall C ih args h nx fl f=some (.call v h2 nx2))(Y:HR P w0 ρ h nx w)(H:fl<=nx)(hf:cv ρ f=some u)(hv:cvl ρ args=some us):
  Cl P w0 ρ h nx fl w us v h2 nx2 f:=by
 unfold fCall at E;split at E;exact o_dl J W E Y H hv;obtain⟨A,c,k1,k2,_⟩:=cv_f hf;obtain⟨h3,h4⟩:=o_c4 J W E Y H (Qeo (Qeo k1 hv) k2);exact⟨A,c,k1,k2,h3,h4⟩;cases E
end
def DrOk (P:QR)(C:Cx)(ih:Job->Option Rs):Prop:=∀{ops:QU} {s s':S},drawn C ih ops s=some s'->∀{w0:World} {ρ:Rho} {n id:Nat} {a:Act} {w:World} {r:QN},okD n (.region id ops true)=true->r.isSome=s.rd->St P w0 ρ n s a w->
 WP r P (.region id ops true) (λe a' w'=>e=.normal/\To P w0 ρ n s w s' a' w') a w
def MlOk (P:QR)(C:Cx)(ih:Job->Option Rs):Prop:=∀{b:Code} {s s':S} {x:X} {N:Nx} {i m c:Nat} {es:List (V×V)},isNext b s=some (N,i,m,c,es)->Nat.blt i s.fl=false->Qlb C ih b N s i m c es=some (.code x s')->∀{w0:World} {ρ:Rho} {n:Nat} {a:Act} {w:World} {r:QN},
 okD n b=true->r.isSome=s.rd->St P w0 ρ n s a w->LP r P b (λe a' w'=>e=exOf x/\To P w0 ρ n s w s' a' w') a w
section
variable {P:QR}{C:Cx}{ih:Job->Option Rs}{w0:World}{ρ:Rho}{n:Nat}{s s':S}{a:Act}{w:World}{r:QN}
def o_bW (hC:OKC P C)(hi:Sd P C ih)(hm:MlOk P C ih){b:Code}{x:X}(E:cLoop C ih b s=some (.code x s'))(H:okD n b=true)(J:r.isSome=s.rd)(W:St P w0 ρ n s a w):
  LP r P b (λe a' w'=>e=exOf x/\To P w0 ρ n s w s' a' w') a w:=by
 unfold cLoop at E;split at E;rename_i N i m c es hN;cases hb:Nat.blt i s.fl with
 |true=>rw[hb]at E;cases E
 |false=>rw[hb,cond_false]at E;exact hm hN hb E H J W
 unfold cAgain at E;split at E;rename_i s1 h1;refine LP.step (wpIn_mono (hi.code h1 H J W) λe a1 w1 ⟨he,ρ1,q1,q2,q3,q4⟩=>.inl ⟨he,?_⟩);exact LP.mono (hi.loop E H (by rw[q3];exact J) q1) λe a2 w2 ⟨he,Y⟩=>⟨he,To.trans q2 q3 q4 Y⟩;rename_i hne;refine LP.step (wpIn_mono (hi.code E H J W) λe a1 w1 ⟨he,Y⟩=>.inr ⟨?_,he,Y⟩);rw[he];cases x with
 |n=>exact absurd E (hne _)
 |r=>simp[exOf]
 |e j=>simp[exOf]
def o_dn (hC:OKC P C)(hi:Sd P C ih)(hd:DrOk P C ih)(hm:MlOk P C ih){c:Code}{x:X}(H:fCode C ih s c=some (.code x s'))(E:okD n c=true)(W:r.isSome=s.rd)(J:St P w0 ρ n s a w):
  WP r P c (λe a' w'=>e=exOf x/\To P w0 ρ n s w s' a' w') a w:=by
 have here:To P w0 ρ n s w s a w:=⟨ρ,J,Tr.refl _ _ _ _ _,rfl,rfl⟩;unfold fCode at H;split at H;simp only[Qg,Rs.code.injEq]at H;obtain⟨rfl,rfl⟩:=H;exact wpIn_skip ⟨rfl,here⟩;simp only[Qg,Rs.code.injEq]at H;obtain⟨rfl,rfl⟩:=H;exact wpIn_label ⟨rfl,here⟩;rename_i id ops d;unfold nrm at H;split at H;rename_i s1 h1;simp only[Qg,Rs.code.injEq]at H;obtain⟨rfl,rfl⟩:=H;cases d with
 |true=>exact hd h1 E W J
 |false=>
  have E:(ops.toList.all λo=>match o.dst with|some d=>Nat.blt d n|none=>true)=true:=E;have hdst: ∀o∈ops.toList,∀d,o.dst=some d->d<n:=λo ho d hod=>by
   have:=Q5.1 E o ho;rw[hod]at this;exact Qm this
  have:=Z.reg (r:=r) (P:=P) (id:=id) (lo:=ops.toList) (Q:=λe a' w'=>e=exOf .n/\To P w0 ρ n s w s1 a' w') (a:=a) (w:=w);rw[Q9]at this;exact this (o_aU hC hi ops.toList h1 hdst W J λa' w' Y=>⟨rfl,Y⟩)
 cases H;rename_i c1 c2;have E:(okD n c1&&okD n c2)=true:=E;rw[Qd]at E;unfold cSeq at H;split at H;rename_i s1 h1;refine seqn λQ' hn _=>wpIn_mono (hi.code h1 E.1 W J) λe a1 w1 ⟨he,ρ1,q1,q2,q3,q4⟩=>?_;rw[he];exact hn _ _ (wpIn_mono (hi.code H E.2 (by rw[q3];exact W) q1) λe a2 w2 ⟨he,Y⟩=>⟨he,To.trans q2 q3 q4 Y⟩);rename_i hne;refine seqn λQ' _ hx=>wpIn_mono (hi.code H E.1 W J) λe a1 w1 ⟨he,Y⟩=>hx _ _ _ ?_ ⟨he,Y⟩;rw[he];cases x with
 |n=>exact absurd H (hne _)
 |r=>simp[exOf]
 |e j=>simp[exOf]
 rename_i y c1 c2;have E:(okD n c1&&okD n c2)=true:=E;rw[Qd]at E;unfold cCond at H;split at H;rename_i v hv;split at H;rename_i t ht;obtain⟨u,h1,h2⟩:=o_b J.fe hv;rw[V.bool?_eq ht]at h1;rw[cv_k h1]at h2;cases t with
 |true=>exact wpIn_cond_true h2 (hi.code H E.1 W J)
 |false=>exact wpIn_cond_false h2 (hi.code H E.2 W J)
 cases H;cases H;rename_i id c1;unfold cBlock at H;split at H;rename_i j s1 h1;unfold blk at H;cases hb:Nat.beq j id with
 |true=>
  have:=Qk hb;subst this;rw[hb,cond_true]at H;simp only[Qg,Rs.code.injEq]at H;obtain⟨rfl,rfl⟩:=H;exact blockn λQ' _ hx _=>wpIn_mono (hi.code h1 E W J) λe a1 w1 ⟨he,Y⟩=>by rw[he];exact hx _ _ ⟨rfl,Y⟩
 |false=>
  rw[hb,cond_false]at H;simp only[Qg,Rs.code.injEq]at H;obtain⟨rfl,rfl⟩:=H;refine blockn λQ' _ _ hx=>wpIn_mono (hi.code h1 E W J) λe a1 w1 ⟨he,Y⟩=>hx _ _ _ ?_ ?_ ⟨he,Y⟩;rw[he];simp[exOf];rw[he];simp only[exOf,ne_eq,Exit.exit.injEq];rintro rfl;simp at hb
 rename_i hne;cases x with
 |n=>exact blockn λQ' hn _ _=>wpIn_mono (hi.code H E W J) λe a1 w1 ⟨he,Y⟩=>by rw[he];exact hn _ _ ⟨rfl,Y⟩
 |r=>exact blockn λQ' _ _ hx=>wpIn_mono (hi.code H E W J) λe a1 w1 ⟨he,Y⟩=>hx _ _ _ (by rw[he];simp[exOf]) (by rw[he];simp[exOf]) ⟨he,Y⟩
 |e j=>exact absurd H (hne _ _)
 exact scopeR (hi.code H E W J) λl a' w' ⟨he,_⟩=>by cases x<;>cases he
 exact LP.loop (o_bW hC hi hm H E W J);simp only[Qg,Rs.code.injEq]at H;obtain⟨rfl,rfl⟩:=H;exact wpIn_exit ⟨rfl,here⟩;simp only[Qg,Rs.code.injEq]at H;obtain⟨rfl,rfl⟩:=H;exact wpIn_ret ⟨rfl,here⟩;exact o_ea hC hi H E W J;cases H
def Sd.succ (hC:OKC P C)(hi:Sd P C ih)(hd:DrOk P C ih)(hm:MlOk P C ih):Sd P C (F C ih) where
 code h1 _ _ _ _ _ _ hok hrd hst:=o_dn hC hi hd hm h1 hok hrd hst
 loop h1 _ _ _ _ _ _ hok hrd hst:=o_bW hC hi hm h1 hok hrd hst
 call h1 _ _ _ _ _ hr hfl hf hv:=o_dm hC hi h1 hr hfl hf hv
 dcall h1 _ _ _ _ _ hr hfl hf hv:=o_dk hC hi h1 hr hfl hf hv
def Sd.ai (E:OKC P C)(H: ∀ih,Sd P C ih->DrOk P C ih)(J: ∀ih,Sd P C ih->MlOk P C ih): ∀n,Sd P C (ai C n)
 |0=>⟨(λh=>by cases h),(λh=>by cases h),(λh=>by cases h),(λh=>by cases h)⟩
 |n+1=>(Sd.ai E H J n).succ E (H _ (Sd.ai E H J n)) (J _ (Sd.ai E H J n))
end
section
variable {P:QR}{C:Cx}{ih:Job->Option Rs}{w0:World}{ρ:Rho}{n:Nat}{s s':S}{a:Act}{w w':World}{r:QN}{v:V}{h:T O}{nx fl:Nat}{Q:QG}
def run_over {g b since last c:Nat}{seen:Array Nat}{arr:Array MapEntry}(E:w.heap[g]?=some (.mapIter (some b) since seen last))(H:w.heap[b]?=some (.map arr c))(h1: ∀e∈arr.toList,e.born<last)(h2: ∀e∈arr.toList,e.born∈seen.toList)(ty:QQ):
  (Instr.next (.pointer (some ⟨g,0,none⟩)) false ty).run P w=.ok (.tuple #[.bool false]) w:=by
 have hgetg:=run_getObj' (P:=P) E (λ_ _ _ h=>by cases h);have hgetb:=run_getObj' (P:=P) H (λ_ _ _ h=>by cases h);have htest:=next_test_false seen arr last last h1 (Qr _);have J:(arr.filter λe=> !seen.contains e.born)=#[]:=by
  rw[Jl];intro x hx;have:=h2 x (by simpa using hx);simpa using this
 simp only[Instr.next,Qp,hgetg,Qi,hgetb,htest,Q3,Wd,J];simp[Question.forced]
def run_step {g b c:Nat}{sb:Array Nat}{arr:Array MapEntry}(Y:w.heap[g]?=some (.mapIter (some b) c sb c))(hb:w.heap[b]?=some (.map arr c))(h1: ∀e∈arr.toList,e.born<c)(ty:QQ):
  ((∀e∈arr.toList,e.born∈sb.toList)/\(Instr.next (.pointer (some ⟨g,0,none⟩)) false ty).run P w=.ok (.tuple #[.bool false]) w)\/
  ∃(e:MapEntry) (E:World),e∈arr.toList/\e.born∉sb.toList/\E.heap=w.heap/\E.os=w.os/\E.tape=w.tape/\E.output=w.output/\(Instr.next (.pointer (some ⟨g,0,none⟩)) false ty).run P w=.ok (.tuple #[.bool true,e.key,e.val]) (E.putObj g (.mapIter (some b) c (sb.push e.born) c)):=by
 have hgetg:=run_getObj' (P:=P) Y (λ_ _ _ h=>by cases h);have hgetb:=run_getObj' (P:=P) hb (λ_ _ _ h=>by cases h);have htest:=next_test_false sb arr c c h1 (Qr _);obtain⟨L,hL⟩: ∃L,L=arr.filter λe=> !sb.contains e.born:=⟨_,rfl⟩;have hLm: ∀e,e∈L.toList↔e∈arr.toList/\e.born∉sb.toList:=λe=>by rw[hL];simp
 have e1:L.filter (λx=>decide (x.born<c))=L:=Array.filter_eq_self.2 (λx hx=>by have:=(hLm x).1 (by simpa using hx);simpa using h1 x this.1);have e2:L.filter (λx=>decide (x.born≥c))=#[]:=by
  rw[Jl];intro x hx;have:=h1 x ((hLm x).1 (by simpa using hx)).1;simp;omega
 by_cases h0:L.size=0;left;have hLe:L=#[]:=Y2 h0;have hall: ∀e∈arr.toList,e.born∈sb.toList:=λe W=>Classical.byContradiction λhn=>by
  have:=(hLm e).2 ⟨W,hn⟩;rw[hLe]at this;simp at this
 exact⟨hall,run_over Y hb h1 hall ty⟩
 ·right
  have hie:L.isEmpty=false:=by simp[Array.isEmpty,h0]
  have hj: ∃j,j<L.size/\∃E:World,(choose (.mapNext L.size)).run P w=.ok j E/\(E=w\/E=w.drew):=by
   rw[run_choose_drew];by_cases J:(Question.mapNext L.size).forced=true;rw[Qc J];exact⟨0,by omega,w,rfl,.inl rfl⟩;rw[Qb J];exact⟨_,Nat.mod_lt _ (by omega),_,rfl,.inr rfl⟩
  obtain⟨j,hjl,E,hch,H⟩:=hj;obtain⟨e,W⟩: ∃e,L[j]?=some e:=⟨_,Wg hjl⟩;have heL:e∈L.toList:=by have:=Qu (l:=L.toList) (i:=j) (by rw[Wi];exact W);exact this
  obtain⟨hea,hen⟩:=(hLm e).1 heL;have hheap:E.heap=w.heap:=by rcases H with rfl|rfl<;>rfl
  have hc1:Ch [] w E:=by rcases H with rfl|rfl;exact Ch.refl _;exact Ch.drew _
  have hset:(setObj g (.mapIter (some b) c (sb.push e.born) c)).run P E=.ok () (E.putObj g (.mapIter (some b) c (sb.push e.born) c)):=by
   simp[setObj,Sem.run,World.putObj,hheap,Y]
  refine⟨e,E,hea,hen,hheap,by rcases H with rfl|rfl<;>rfl,by rcases H with rfl|rfl<;>rfl,by rcases H with rfl|rfl<;>rfl,?_⟩;simp only[Instr.next,Qp,hgetg,Qi,hgetb,htest,Q3,Wd,<-hL,e1,e2,hie,Array.append_empty,Array.empty_append,Array.size_map,hch,Array.getElem?_map,W,Wo,hset,Qs]
def HR.grow (E:HR P w0 ρ h nx w)(H:w.heap.size<=w'.heap.size)(Y: ∀i o x,h.get i=some o->ρ i=some x->w'.heap[x.b]?=w.heap[x.b]?)(hben: ∀b,b<w.heap.size->Ben w w' b)(hbase: ∀k,k<w0.heap.size->w'.heap[k]?=w.heap[k]?)
  (h1:w'.os=w.os) (h2:w'.tape=w.tape) (h3:w'.output=w.output):HR P w0 ρ h nx w':=
 ⟨λi o J=>by
  obtain⟨g1,x,W,g3,g4,g5⟩:=E.live i o J;exact⟨g1,x,W,g3,Qw g4 H,OR.keep (Le.refl _) H (Y i o x J W) hben g5⟩,E.inj,E.top,λk hk=>(hbase k hk).trans (E.base k hk),Wb E.size H,h1.trans E.os,h2.trans E.tape,h3.trans E.output⟩
def nextIt_eq {b:Code}{N:Nx}(E:Qge b=some N): ∃id ops T pos af,b=.seq (.region id ops false) N.c/\ops.toList=⟨some N.d,.next N.x false,T,pos,af,none⟩::N.r/\N.all=ops.toList:=by
 unfold Qge at E;split at E;rename_i id ops c;unfold nextOp at E;split at E;rename_i d x T pos af r hops;injection E with E;subst E
 exact⟨id,ops,T,pos,af,rfl,hops,rfl⟩;cases E;cases E
def isNext_eq {b:Code}{N:Nx}{i m c:Nat}{es:List (V×V)}(E:isNext b s=some (N,i,m,c,es)):Qge b=some N/\opd s.env N.x=some (.q i)/\s.h.get i=some (.q m c .fresh)/\∃p,s.h.get m=some (.m es c p):=by
 unfold isNext at E;split at E;rename_i N' W;split at E;rename_i v Y;split at E;rename_i i' hi;split at E;rename_i m' c' H;split at E;rename_i es' c2 hm;obtain⟨J,h1⟩:=Qaa E;clear E;have J:=Qk J;subst J;simp only[Qg,Qt]at h1;obtain⟨rfl,rfl,rfl,rfl,rfl⟩:=h1;refine⟨W,by rw[Y,V.it?_eq hi],?_,Qfm hm⟩;unfold freshAt at H;split at H;rename_i hg;simp only[Qg,Qt]at H;obtain⟨rfl,rfl⟩:=H;exact hg;cases H;cases E;cases E;cases E;cases E;cases E
def o_bl (hC:OKC P C)(hi:Sd P C ih){b:Code}{N:Nx}{g:Nat}{u:Value}{x:X}(hN:Qge b=some N)(hx:a.eval N.x=.pointer (some ⟨g,0,none⟩))(hn: ∀ty,(Instr.next (.pointer (some ⟨g,0,none⟩)) false ty).run P w=.ok u w')
  (W:round0 C ih N s v=some (.code x s')) (hu:cv ρ v=some u) (H:St P w0 ρ n s a w') (E:okD n b=true) (J:r.isSome=s.rd):WP r P b (λe a' w2=>e=exOf x/\To P w0 ρ n s w' s' a' w2) a w:=by
 obtain⟨id,ops,T,pos,af,rfl,hops,hall⟩:=nextIt_eq hN;have E:((ops.toList.all λo=>match o.dst with|some d=>Nat.blt d n|none=>true)&&okD n N.c)=true:=E;rw[Qd]at E;have hdst: ∀o∈ops.toList,∀d,o.dst=some d->d<n:=λo Y d hod=>by
  have:=Q5.1 E.1 o Y;rw[hod]at this;exact Qm this
 unfold round0 roundC at W;split at W
 ·rename_i s1 h1
  rw[hall]at h1;refine seqn λQ' hnm _=>?_;have:=Z.reg (r:=r) (P:=P) (id:=id) (lo:=ops.toList) (Q:=Q') (a:=a) (w:=w);rw[Q9]at this;refine this ?_;rw[hops];unfold WL wpListIn;rw[show Region.wanted ⟨some N.d,.next N.x false,T,pos,af,none⟩ (yielded ops a.tmps)=true from rfl,Qc rfl];refine Qbo (x:=.value u) (w':=w') ?_ (λ_ h=>by cases h) ?_;simp only[execOp,hx,Qp,hn,Qi,Qs];have hd:N.d<n:=hdst _ (by rw[hops];exact Qh ..) N.d rfl;have hst1:St P w0 ρ n (s.up N.d v) (a.put (some N.d) u) w':=⟨H.fe.put hd hu,H.ds,H.hr,H.fl⟩;refine o_aU hC hi N.r h1 (λo Y=>hdst o (by rw[hops];exact Qf _ Y)) J hst1 λa1 w1 ⟨ρ1,q1,q2,q3,q4⟩=>hnm _ _ ?_;exact wpIn_mono (hi.code W E.2 (by rw[q3];exact J) q1) λe a2 w2 ⟨he,hto⟩=>⟨he,To.trans q2 q3 q4 hto⟩
 cases W
def left_eq {o:Option Rs}{x:X}(E:left o=some (.code x s')):o=some (.code x s')/\exOf x≠ .normal:=by
 unfold left at E;split at E;rename_i x' s1;split at E;cases E;rename_i hx;simp only[Qg,Rs.code.injEq]at E;obtain⟨rfl,rfl⟩:=E;refine⟨rfl,?_⟩;cases x' with
 |n=>exact absurd rfl hx
 |r=>simp[exOf]
 |e j=>simp[exOf]
 cases E
def o_bm (hC:OKC P C)(hi:Sd P C ih){b:Code}{N:Nx}{i g:Nat}{x:X}(hN:Qge b=some N)(hx:a.eval N.x=.pointer (some ⟨g,0,none⟩))(hn: ∀ty,(Instr.next (.pointer (some ⟨g,0,none⟩)) false ty).run P w=.ok (.tuple #[.bool false]) w)
  (hl:finL C ih N s i=some (.code x s')) (E:St P w0 ρ n (s.seth (s.h.del i)) a w) (H:okD n b=true) (J:r.isSome=s.rd):LP r P b (λe a' Y=>e=exOf x/\To P w0 ρ n (s.seth (s.h.del i)) w s' a' Y) a w:=by
 obtain⟨h1,h2⟩:=left_eq hl;have hu:cv ρ (.t [bo false])=some (.tuple #[.bool false]):=cv_t_mk (Qae (Qaz false) (by unfold cvl;rfl));exact LP.step (wpIn_mono (o_bl hC hi hN hx hn h1 hu E H J) λe a' Y ⟨he,W⟩=>.inr ⟨by rw[he];exact h2,he,W⟩)
end
section
variable {P:QR}{C:Cx}{ih:Job->Option Rs}{w0:World}{ρ:Rho}{n:Nat}{s s':S}{a:Act}{w w':World}{r:QN}{v:V}{h:T O}{nx fl:Nat}
def vB_refl {u:Value}(h:Qkj u=true):vB u u=true:=by cases u<;>first|(cases h;done)|simp[vB]
def o_c5 {x y:V}{u v:Value}(h:ne0 x y=true)(E:cv ρ x=some u)(H:cv ρ y=some v):u≠v:=by
 unfold ne0 at h;split at h;rename_i p q;rw[Qd,Qd]at h;rw[cv_k E,cv_k H];rintro rfl;rw[vB_refl h.1.1]at h;cases h.2;cases h
def o_c6: ∀{x y:List V} {us vs:QL},neL x y=true->cvc ρ x=some us->cvc ρ y=some vs->us≠vs
 | [],_,_,_,h,_,_=>by cases h
 |_::_,[],_,_,h,_,_=>by cases h
 |a::x,b::y,us,vs,h,J,W=>by
  obtain⟨p,us',rfl,_,h1,h2⟩:=Qao J;obtain⟨q,vs',rfl,_,Y,h4⟩:=Qao W;have h:(ne0 a b||neL x y)=true:=h;rw[Xs]at h;rcases h with h|h
  intro e;injection e with E H;exact o_c5 h h1 Y E
  intro e;injection e with E H;exact o_c6 h h2 h4 H
def o_eb {x y:V}{u v:Value}(h:neK x y=true)(E:cv ρ x=some u)(H:cv ρ y=some v):u≠v:=by
 unfold neK at h;split at h;obtain⟨us,h1,rfl⟩:=cv_g E;obtain⟨vs,h2,rfl⟩:=cv_g H;intro e;injection e with e
 exact o_c6 h h1 h2 (List.toArray_inj e);exact o_c5 h E H
def o_dx: ∀{es:List (V×V)} {ks:List (Value×Value)},dk es=true->cvp ρ es=some ks->(ks.map (·.1)).Nodup
 | [],ks,_,h=>by rw[Qck h];exact Je
 |(k,v)::es,ks,E,h=>by
  obtain⟨a,b,m,rfl,h1,_,J⟩:=Qaw h;have E:(es.all (λy=>neK k y.1)&&dk es)=true:=E;rw[Qd]at E;rw[Wc,Xb];refine⟨λW=>?_,o_dx E.2 J⟩;obtain⟨p,hp,H⟩:=W5.1 W;obtain⟨y,Y,g1,_⟩:=cvp_mem J p hp;exact o_eb (Q5.1 E.1 y Y) h1 g1 H.symm
def key_born {arr:List MapEntry}(h:(arr.map (·.key)).Nodup){e e':MapEntry}(Y:e∈arr)(he':e'∈arr)(hk:e'.key=e.key):e'=e:=by
 obtain⟨i,H⟩:=Xm.1 Y;obtain⟨j,E⟩:=Xm.1 he';have J:=(Qe.1 H).1;have W:=(Qe.1 E).1;have:=(J7 h (i:=j) (j:=i) (h₀:=by simpa using W) (h₁:=by simpa using J)).1 (by
  simp only[J5];rw[(Qe.1 E).2,(Qe.1 H).2];exact hk)
 subst this;rw[H]at E;injection E with E;exact E.symm
def o_dp {x y:Option V}{v:V}(h:sameO x y=true)(hx:x=some v):y=some v:=by
 subst hx;unfold sameO at h;split at h;rename_i a E;injection E with E;subst E
 split at h;rw[Qex _ _ h];cases h;rename_i E;cases E
def o_bX {H J:Env}: ∀{e:Env},envLe H J e=true->∀d v,e.get d=some v->sameO (H.get d) (J.get d)=true
 | .o,_,d,v,h=>by cases h
 | .c t u e,E,d,v,h=>by
  have E:(sameO (H.get t) (J.get t)&&envLe H J e)=true:=E;rw[Qd]at E;rw[Env.get_c]at h;split at h;rename_i W;subst W;exact E.1;exact o_bX E.2 d v h
def HR.at (E:HR P w0 ρ h nx w){i:Nat}{o o':O}{x:Pl}(W:h.get i=some o)(hx:ρ i=some x)(hs:w.heap.size<=w'.heap.size)(Y: ∀k,k<w.heap.size->k≠x.b->w'.heap[k]?=w.heap[k]?)(h1:w'.os=w.os)(h2:w'.tape=w.tape)(h3:w'.output=w.output)
  (hben:Ben w w' x.b) (ho:OR P ρ w' x o'):HR P w0 ρ (h.set i o') nx w':=by
 obtain⟨hin,x',hx',hlo,hhi,_⟩:=E.live i o W;rw[hx]at hx';injection hx' with hx'
 subst hx';have hbenAll: ∀b,b<w.heap.size->Ben w w' b:=λb hb2=>by
  by_cases hb:b=x.b;subst hb;exact hben;exact Ben.of_eq (Y b hb2 hb)
 refine⟨λj p H=>?_,λj k p q y z H hk hy hz J=>?_,E.top,λk hk=>(Y k (by have:=E.size;omega) (by omega)).trans (E.base k hk),by have:=E.size;omega,h1.trans E.os,h2.trans E.tape,h3.trans E.output⟩;rw[T.get_set]at H;split at H;rename_i J;subst J;injection H with H
 subst H;exact⟨hin,x,hx,hlo,by omega,ho⟩;rename_i J;obtain⟨g1,y,g2,g3,g4,g5⟩:=E.live j p H;refine⟨g1,y,g2,g3,by omega,OR.keep (Le.refl _) (by omega) (Y y.b g4 λe2=>J (E.inj j i p o y x H W g2 hx e2)) hbenAll g5⟩;have real: ∀{l r},(h.set i o').get l=some r->∃r',h.get l=some r':=λ{l r} hl=>by
  rw[T.get_set]at hl;split at hl;rename_i e2;subst e2;exact⟨o,W⟩;exact⟨r,hl⟩
 obtain⟨p',hj'⟩:=real H;obtain⟨q',hk'⟩:=real hk;exact E.inj j k p' q' y z hj' hk' hy hz J
structure Wk (w:World) (g b c:Nat) (sb:Array Nat) (W:World):Prop where
 size:w.heap.size<=W.heap.size
 same: ∀k,k<w.heap.size->k≠g->W.heap[k]?=w.heap[k]?
 it:W.heap[g]?=some (.mapIter (some b) c sb c)
 os:W.os=w.os
 tape:W.tape=w.tape
 output:W.output=w.output
def Wk.ben {g b c:Nat}{sb:Array Nat}{W:World}(hk:Wk w g b c sb W): ∀k,k<w.heap.size->Ben w W k:=λk H=>by
 by_cases J:k=g;subst J;intro arr' c' E;rw[hk.it]at E;injection E with E;cases E
 exact Ben.of_eq (hk.same k H J)
def Wk.del {g b c:Nat}{sb:Array Nat}{W:World}(hk:Wk w g b c sb W)(E:HR P w0 ρ h nx w){i:Nat}{o:O}{x:Pl}(Y:h.get i=some o)(hx:ρ i=some x)(hg:x.b=g):HR P w0 ρ (h.del i) nx W:=by
 obtain⟨_,x',hx',hlo,hhi,_⟩:=E.live i o Y;rw[hx]at hx';injection hx' with hx';subst hx'
 refine(E.del i).grow hk.size (λj p y H hy=>?_) hk.ben (λk hk2=>hk.same k (by have:=E.size;omega) (by omega)) hk.os hk.tape hk.output;rw[T.get_del]at H;split at H;cases H;rename_i J;obtain⟨_,y',hy',_,g4,_⟩:=E.live j p H;rw[hy]at hy';injection hy' with hy';subst hy'
 exact hk.same _ g4 λe=>J (E.inj j i p o y x H Y hy hx (e.trans hg.symm))
def Wk.trDel {g b c:Nat}{sb:Array Nat}{W:World}(hk:Wk w g b c sb W)(J:HR P w0 ρ h nx w){i:Nat}{o:O}{x:Pl}(Y:h.get i=some o)(hx:ρ i=some x)(hg:x.b=g)(hfl:fl<=i):Tr ρ h nx w ρ (h.del i) nx W fl:=
 ⟨Le.refl _,Qr _,hk.size,λk H hn=>hk.same k H λe=>hn i o x Y hx (hg.trans e.symm),λj p y E hy _=>by
  rw[T.get_del]at E;split at E;cases E;exact⟨j,p,y,E,hy,rfl⟩,λj E=>by rw[T.get_del,Qb (by omega)],λj p y E h1 h2=>by
  obtain⟨_,y',hy',_,g4,_⟩:=J.live j p h1;rw[h2]at hy';injection hy' with hy';subst hy'
  exact hk.same _ g4 λe=>by have:=J.inj j i p o y x h1 Y h2 hx (e.trans hg.symm);omega,λ_ _ h=>h⟩
def Wk.cur {c:Nat}{sb:Array Nat}{W:World}{i m:Nat}{o:O}{x y:Pl}{k:V}{al:Bool}{e:MapEntry}{arr:Array MapEntry}(hk:Wk w x.b y.b c (sb.push e.born) W)(hr:HR P w0 ρ h nx w)(hi:h.get i=some o)(hx:ρ i=some x)(hy:ρ m=some y)(E:y.b<w.heap.size)(J:y.b≠x.b)
  (harr:w.heap[y.b]?=some (.map arr c)) (Y:cv ρ k=some e.key) (hd: ∀e'∈arr.toList,e'.key=e.key->e'.born=e.born) (hal:al=true->∀e'∈arr.toList,e'.born∈(sb.push e.born).toList) (hxl:x.b<w.heap.size):
  HR P w0 ρ (h.set i (.q m c (.cur k al))) nx W:=by
 refine hr.at hi hx hk.size hk.same hk.os hk.tape hk.output (hk.ben x.b hxl) ⟨y,c,sb.push e.born,hy,Qw E hk.size,hk.it,(λh=>by cases h),λk' al' e1=>?_⟩;injection e1 with e1 e2
 subst e1;subst e2;refine⟨e.born,e.key,by simp,Y,λarr2 c2 H=>?_⟩;rw[hk.same _ E J,harr]at H;injection H with H
 injection H with ha1 ha2
 subst ha1;subst ha2;exact⟨Qr _,λ_=>⟨hd,hal⟩⟩
def Wk.trCur {g b c:Nat}{sb:Array Nat}{W:World}(hk:Wk w g b c sb W)(Y:HR P w0 ρ h nx w){i:Nat}{o o':O}{x:Pl}(H:h.get i=some o)(hx:ρ i=some x)(hg:x.b=g)(hfl:fl<=i):Tr ρ h nx w ρ (h.set i o') nx W fl:=
 ⟨Le.refl _,Qr _,hk.size,λk J hn=>hk.same k J λe=>hn i o x H hx (hg.trans e.symm),λj p y E hy _=>by
  rw[T.get_set]at E;split at E;rename_i e2;subst e2;exact⟨j,o,y,H,hy,rfl⟩;exact⟨j,p,y,E,hy,rfl⟩,λj E=>T.get_set_other h o' (by omega),λj p y E h1 h2=>by
  obtain⟨_,y',hy',_,g4,_⟩:=Y.live j p h1;rw[h2]at hy';injection hy' with hy';subst hy'
  exact hk.same _ g4 λe=>by have:=Y.inj j i p o y x h1 H h2 hx (e.trans hg.symm);omega,λ_ _ h=>h⟩
def Tr.all {W W':World}{ρ':Rho}{h':T O}{nx':Nat}(H:Tr ρ h nx W ρ' h' nx' W' nx)(J:HR P w0 ρ h nx W): ∀k,k<W.heap.size->W'.heap[k]?=W.heap[k]?:=λk hk=>by
 by_cases E: ∃i o x,h.get i=some o/\ρ i=some x/\x.b=k;obtain⟨i,o,x,h1,h2,rfl⟩:=E;exact H.old i o x (J.live i o h1).1 h1 h2;exact H.keep k hk λi o x h1 h2 e=>E ⟨i,o,x,h1,h2,e⟩
end
section
variable {P:QR}{C:Cx}{ih:Job->Option Rs}{w0:World}{ρ:Rho}{n:Nat}{s s':S}{a:Act}{w w':World}{r:QN}{v:V}{h:T O}{nx fl:Nat}
def itOf_eq {N:Nx}{i:Nat}(E:itOf N s=some i):opd s.env N.x=some (.q i):=by
 unfold itOf at E;split at E;rename_i v H;rw[H,V.it?_eq E];cases E
def Qjj {o:Option Rs}{H:S}(E:roundR o=some H):o=some (.code .n H):=by
 unfold roundR at E;split at E;injection E with E;subst E;rfl
 cases E
def lastQ_eq {i m c:Nat}(E:lastQ h i=some (m,c)): ∃k,h.get i=some (.q m c (.cur k true)):=by
 unfold lastQ at E;split at E;rename_i m' c' k H;simp only[Qg,Qt]at E;obtain⟨rfl,rfl⟩:=E;exact⟨k,H⟩;cases E
def Qgh: ∀(l:QM) (e:Env) (d:Nat) (v:V),(delAll e l).get d=some v->e.get d=some v
 | [],_,_,_,h=>h
 |t::l,e,d,v,h=>(Env.get_del t e d v (Qgh l (e.del t) d v h)).1
def filter_lt {α:Type}{p q:α->Bool}: ∀{l:List α},(∀x∈l,p x=true->q x=true)->(∃x∈l,q x=true/\p x=false)->(l.filter p).length <(l.filter q).length
 | [],_,⟨x,hx,_⟩=>by cases hx
 |y::l,h1,⟨x,hx,hq,hp⟩=>by
  have J: ∀{m:List α},(∀x∈m,p x=true->q x=true)->(m.filter p).length<=(m.filter q).length:=λ{m}=>by
   induction m with
   |nil=>intro _;simp
   |cons z m ih=>
    intro hz;have h2:=ih λx hx=>hz x (Qf _ hx);have W:=hz z (Qh ..);cases E:p z with
    |true=>simp[E,W E,h2]
    |false=>cases Y:q z<;>simp[E,Y]<;>omega
  have ht:=J (m:=l) λx hx=>h1 x (Qf _ hx);rcases Qn.1 hx with rfl|hx
  simp[hq,hp];omega;have h2:=filter_lt (l:=l) (λx hx=>h1 x (Qf _ hx)) ⟨x,hx,hq,hp⟩;have W:=h1 y (Qh ..);cases H:p y with
  |true=>simp[H,W H];omega
  |false=>cases hqy:q y<;>simp[H,hqy]<;>omega
def o_bw {N:Nx}{i m c:Nat}: ∀{es:List (V×V)},rounds C ih N s i m c es=true->∀y∈es,∃E,round1 C ih N ⟨s.env,s.ds,s.h,s.nx,s.rd,s.nx⟩ i m c false y.1 y.2=some (.code .n E)/\s.ds=[]/\E.ds=[]/\envLe s.env E.env s.env=true
 | [],_,_,H=>by cases H
 |(k,v)::es,J,y,H=>by
  unfold rounds at J;split at J;rename_i E h1;rw[Qd,Qd,Qd]at J;obtain⟨⟨⟨W,Y⟩,g3⟩,g4⟩:=J;rcases Qn.1 H with rfl|H
  exact⟨E,Qjj h1,J6.1 W,J6.1 Y,g3⟩;exact o_bw g4 y H;cases J
def Wk.step {g b c:Nat}{sb:Array Nat}{W E:World}(hk:Wk w g b c sb W)(h1:E.heap=W.heap)(h2:E.os=W.os)(Y:E.tape=W.tape)(h4:E.output=W.output)(e:MapEntry):Wk w g b c (sb.push e.born) (E.putObj g (.mapIter (some b) c (sb.push e.born) c)):=by
 have hg:=(Qv.1 hk.it).1;refine⟨by simp[h1];exact hk.size,λk H J=>?_,Wm (by rw[h1];exact hg),h2.trans hk.os,Y.trans hk.tape,h4.trans hk.output⟩;rw[Wy J,h1];exact hk.same k H J
def cv3 {k v:V}{x y:Value}(h1:cv ρ k=some x)(h2:cv ρ v=some y):cv ρ (.t [bo true,k,v])=some (.tuple #[.bool true,x,y]):=cv_t_mk (Qae (Qaz true) (Qae h1 (Qae h2 (by unfold cvl;rfl))))
def mlOk (hC:OKC P C)(hi:Sd P C ih):MlOk P C ih:=by
 intro b s s' x N i m c es hN hfl H w0 ρ n a w r hok hrd E;obtain⟨hnx,hx,hq,p,hm⟩:=isNext_eq hN;have hfi:=Qat hfl;obtain⟨_,xi,hxi,_,hxb,y,since,seen,hy,hyb,hit,hfr,_⟩:=E.hr.live i _ hq;obtain⟨rfl,rfl⟩:=hfr rfl;obtain⟨_,y',hy',_,_,ks,arr,hks,harr,hperm,hnod,hborn,_⟩:=E.hr.live m _ hm;rw[hy]at hy';injection hy' with hy';subst hy'
 have hne:y.b≠xi.b:=λe=>by rw[e,hit]at harr;injection harr with harr;cases harr
 have evx: ∀{e:Env} {a:Act},Fe ρ e n a->opd e N.x=some (.q i)->a.eval N.x=.pointer (some ⟨xi.b,0,none⟩):=λhf ho=>by
  obtain⟨u,h1,h2⟩:=o_b hf ho;obtain⟨x',h3,rfl⟩:=cv_q h1;rw[hxi]at h3;injection h3 with h3;subst h3
  exact h2
 have hk0:Wk w xi.b y.b since #[] w:=⟨Qr _,λ_ _ _=>rfl,hit,rfl,rfl,rfl⟩;have memk: ∀e∈arr.toList,∃z∈es,cv ρ z.1=some e.key/\cv ρ z.2=some e.val:=λe Y=>
  cvp_mem hks (e.key,e.val) (hperm.mem_iff.2 (List.mem_map_of_mem (f:=λe:MapEntry=>(e.key,e.val)) Y))
 have hlen:arr.toList.length=es.length:=by rw[<-Qef hks,hperm.length_eq,W6]
 have dist:dk es=true->∀e∈arr.toList,∀e'∈arr.toList,e'.key=e.key->e'.born=e.born:=λhd e Y e' he' hk=>by
  have h1:=o_dx hd hks;have h2:(arr.toList.map (·.key)).Nodup:=by
   have h3:=(hperm.map (·.1)).nodup_iff.1 h1;rwa[Ve]at h3
  rw[key_born h2 Y he' hk]
 unfold Qlb at H;split at H;have hnil:arr.toList=[]:=Wz hlen;have hov:=run_over (P:=P) hit harr hborn (λe Y=>by rw[hnil]at Y;cases Y);exact(o_bm hC hi hnx (evx E.fe hx) hov H ⟨E.fe,E.ds,E.hr.del i,E.fl⟩ hok hrd).mono λe a2 w2 ⟨Y,hto⟩=>⟨Y,To.trans (s1:=s.seth (s.h.del i)) (Tr.del ρ s.h s.nx w hfi) rfl rfl hto⟩;rename_i k v;obtain⟨e0,he0⟩: ∃e0,arr.toList=[e0]:=List.length_eq_one_iff.1 hlen;unfold one1 at H;split at H;rename_i s1 hr1;have hr1:=Qjj hr1;split at H;rename_i i1 hi1;have hi1:=itOf_eq hi1;cases hb1:Nat.blt i1 s1.fl with
 |true=>rw[hb1]at H;cases H
 |false=>
  rw[hb1,cond_false]at H;have hf1:=Qat hb1;unfold one2 at H;split at H;rename_i m1 c1 hlq;obtain⟨k1,hq1⟩:=lastQ_eq hlq;split at H;rename_i es1 c1' hmc;obtain⟨p1,hm1⟩:=Qfm hmc;obtain⟨hbc,hl9⟩:=Qaa H;clear H;have hbc:=Qk hbc;subst hbc;rcases run_step (P:=P) hit harr hborn 0 with⟨hall,_⟩|⟨e,w1,Y,hen,g1,g2,g3,g4,hnext⟩
  have:=hall e0 (by rw[he0];exact Qh ..);simp at this;have J:=hk0.step g1 g2 g3 g4 e;obtain⟨z,hz,hz1,hz2⟩:=memk e Y;obtain rfl:z=(k,v):=by simpa using hz
  have hee:e=e0:=by rw[he0]at Y;simpa using Y
  have hh:=J.cur (al:=true) E.hr hq hxi hy hyb hne harr hz1 (dist rfl e Y) (λ_ e' he'=>by
   rw[he0]at he';have:e'=e:=by rw[hee];simpa using he'
   rw[this];simp) hxb
  refine LP.step (wpIn_mono (o_bl (s:=s.seth (s.h.set i (.q m since (.cur k true)))) hC hi hnx (evx E.fe hx) (λ_=>hnext) hr1 (cv3 hz1 hz2) ⟨E.fe,E.ds,hh,E.fl⟩ hok hrd) ?_);rintro e2 a1 w2 ⟨he2,ρ1,q1,q2,q3,q4⟩;refine .inl ⟨he2,?_⟩;obtain⟨_,x1,hx1,_,_,y1,since1,seen1,hy1,hyb1,hit1,_,hcu1⟩:=q1.hr.live i1 _ hq1;obtain⟨_,y1',hy1',_,_,ks1,arr1,_,harr1,_,_,hborn1,_⟩:=q1.hr.live m1 _ hm1;rw[hy1]at hy1';injection hy1' with hy1';subst hy1'
  obtain⟨st,kv,_,_,hcc⟩:=hcu1 k1 true rfl;have hov:=run_over (P:=P) hit1 harr1 hborn1 (((hcc arr1 _ harr1).2 rfl).2 rfl);have hev1:a1.eval N.x=.pointer (some ⟨x1.b,0,none⟩):=by
   obtain⟨u,h1,h2⟩:=o_b q1.fe hi1;obtain⟨x',h3,rfl⟩:=cv_q h1;rw[hx1]at h3;injection h3 with h3;subst h3
   exact h2
  have htr:=J.trCur (o':=.q m since (.cur k true)) E.hr hq hxi rfl hfi;refine(o_bm hC hi hnx hev1 hov hl9 ⟨q1.fe,q1.ds,q1.hr.del i1,q1.fl⟩ hok (by show r.isSome=s1.rd;rw[q3];exact hrd)).mono λe3 a3 w3 ⟨he3,hto⟩=>⟨he3,?_⟩;have h1:To P w0 ρ1 n s1 w2 s' a3 w3:=To.trans (s1:=s1.seth (s1.h.del i1)) (Tr.del ρ1 s1.h s1.nx w2 hf1) rfl rfl hto;have h2:To P w0 ρ n (s.seth (s.h.set i (.q m since (.cur k true)))) _ s' a3 w3:=To.trans q2 q3 q4 h1;exact To.trans (s1:=s.seth (s.h.set i (.q m since (.cur k true)))) htr rfl rfl h2;cases H;cases H
 cases H;cases H;unfold many at H;split at H;rename_i j hj;obtain⟨hb,hl9⟩:=Qaa H;clear H;rw[Qd,Qd]at hb;obtain⟨⟨hji,hdk⟩,hrs⟩:=hb;have hji:=Qk hji;subst hji;have hj:=itOf_eq hj;have hrs:=o_bw hrs;have key: ∀(k:Nat) (sb:Array Nat) (a':Act) (W:World),(arr.toList.filter λe=> !sb.toList.contains e.born).length=k->Wk w xi.b y.b since sb W->Fe ρ (bare s b).env n a'->dcl ρ s.ds a'.defers->
   LP r P b (λe a2 w2=>e=exOf x/\To P w0 ρ n s w s' a2 w2) a' W:=by
  intro k;induction k using Nat.strongRecOn with
  |_ k IH=>
   intro sb a' W hk hkw hf hds;have harrW:W.heap[y.b]?=some (.map arr since):=(hkw.same _ hyb hne).trans harr;rcases run_step (P:=P) hkw.it harrW hborn 0 with⟨_,hov⟩|⟨e,w1,Y,hen,g1,g2,g3,g4,hnext⟩
   refine(o_bm (s:=bare s b) hC hi hnx (evx hf hj) (λ_=>hov) hl9 ⟨hf,hds,hkw.del E.hr hq hxi rfl,E.fl⟩ hok hrd).mono λe3 a3 w3 ⟨he3,hto⟩=>⟨he3,?_⟩;exact To.trans (s1:=(bare s b).seth ((bare s b).h.del j)) (hkw.trDel E.hr hq hxi rfl hfi) rfl rfl hto;have J:=hkw.step g1 g2 g3 g4 e;obtain⟨z,hz,hz1,hz2⟩:=memk e Y;obtain⟨s2,hr2,hd0,hd2,hle⟩:=hrs z hz;have hh:=J.cur (al:=false) E.hr hq hxi hy hyb hne harr hz1 (dist hdk e Y) (λh=>by cases h) hxb;refine LP.step (wpIn_mono (o_bl (s:=(⟨(bare s b).env,(bare s b).ds,(bare s b).h,(bare s b).nx,(bare s b).rd,(bare s b).nx⟩:S).seth ((bare s b).h.set j (.q m since (.cur z.1 false)))) hC hi hnx (evx hf hj) (λ_=>hnext) hr2 (cv3 hz1 hz2) ⟨hf,hds,hh,Qr _⟩ hok hrd) ?_);rintro e2 a1 w2 ⟨he2,ρ1,q1,q2,q3,q4⟩;refine .inl ⟨he2,?_⟩;have hall:=Tr.all q2 hh;have hd0:s.ds=[]:=hd0;refine IH _ ?_ (sb.push e.born) a1 w2 rfl ⟨Wb J.size q2.size,λk' hk' hn=>(hall k' (Qw hk' J.size)).trans (J.same k' hk' hn),(hall _ (Qv.1 J.it).1).trans J.it,
    q1.hr.os.trans E.hr.os.symm,q1.hr.tape.trans E.hr.tape.symm,q1.hr.output.trans E.hr.output.symm⟩ ⟨q1.fe.size,λd v hd=>?_⟩ ?_
   rw[<-hk];refine filter_lt (λx hx h=>?_) ⟨e,Y,?_,?_⟩;simp at h ⊢;exact h.1;simpa using hen;simp;obtain⟨u,h1,h2⟩:=hf.get d v hd;have h3:=o_dp (o_bX hle d v hd) hd;obtain⟨u2,h4,h5⟩:=q1.fe.get d v h3;rw[Qaj q2.le _ _ h1]at h4;injection h4 with h4;subst h4
   exact⟨u,h1,h5⟩;have h1:=q1.ds;rw[hd2]at h1;rw[hd0];cases hdd:a1.defers with
   |nil=>trivial
   |cons _ _=>rw[hdd]at h1;exact h1.elim
 exact key _ #[] a w rfl hk0 ⟨E.fe.size,λd v hd=>E.fe.get d v (Qgh _ _ d v hd)⟩ E.ds;cases H
end
section
variable {C:Cx}{e e':Env}{h h':T O}
def Ag (e e':Env)(l:List Operand):Prop:=∀x∈l,opd e x=opd e' x
def opds_cg: ∀{l:List Operand},Ag e e' l->opds e l=opds e' l
 | [],_=>rfl
 |x::r,h=>by unfold opds;rw[h x (Qh ..),opds_cg λy E=>h y (Qf _ E)]
def Qht: ∀{l:List (Nat×Operand)},Ag e e' (l.map (·.2))->parts e l=parts e' l
 | [],_=>rfl
 |(i,x)::r,h=>by unfold parts;rw[h x (Qh ..),Qht λy E=>h y (Qf _ E)]
def Qee {x:Operand}(h:opd e x=opd e' x):natAt e x=natAt e' x:=by unfold natAt;rw[h]
def optInt_cg {d:Nat}{x:Option Operand}(h: ∀y∈x.toList,opd e y=opd e' y):optInt e d x=optInt e' d x:=by
 cases x with
 |none=>rfl
 |some y=>exact Qee (h y (by simp))
def optMx_cg {x:Option Operand}(h: ∀y∈x.toList,opd e y=opd e' y):optMx e x=optMx e' x:=by
 cases x with
 |none=>rfl
 |some y=>show(match natAt e y with|some m=>some (some m)|none=>none)=(match natAt e' y with|some m=>some (some m)|none=>none);rw[Qee (h y (by simp))]
def slV_cg {t:QQ}{v:V}{lo E mx:Option Operand}(h1: ∀y∈lo.toList,opd e y=opd e' y)(h2: ∀y∈E.toList,opd e y=opd e' y)(H: ∀y∈mx.toList,opd e y=opd e' y):slV C e t v lo E mx=slV C e' t v lo E mx:=by
 unfold slV slSl slArr slStr slNil;simp only[λd=>optInt_cg (d:=d) h1,λd=>optInt_cg (d:=d) h2,λd=>optInt_cg (d:=d) H,optMx_cg H]
def Ag.of_call {c:Call}(h:Ag e e' c.operands.toList):opds e c.args.toList=opds e' c.args.toList:=
 opds_cg λx hx=>h x (by unfold Call.operands;rw[Array.toList_append];exact Q6 _ hx)
def pure1_cg {o:Op}(h:Ag e e' o.operands.toList):pure1 C e o=pure1 C e' o:=by
 have g: ∀x,x∈o.operands.toList->opd e x=opd e' x:=h;cases o with
 |move x=>exact g x (by simp[Op.operands])
 |assign x=>exact g x (by simp[Op.operands])
 |pick c x y=>show pPick e c x y=pPick e' c x y;unfold pPick;rw[g c (by simp[Op.operands]),g x (by simp[Op.operands]),g y (by simp[Op.operands])]
 |binOp op t x y ty=>show pBin C e op t x y=pBin C e' op t x y;unfold pBin;rw[g x (by simp[Op.operands]),g y (by simp[Op.operands])]
 |unOp op t x=>show pUn e op x=pUn e' op x;unfold pUn;rw[g x (by simp[Op.operands])]
 |extract x i=>show pExt e x i=pExt e' x i;unfold pExt;rw[g x (by simp[Op.operands])]
 |nilCheck x=>show pNil e x=pNil e' x;unfold pNil;rw[g x (by simp[Op.operands])]
 |makeFunc fn xs ys=>show pFunc e fn xs.toList ys.toList=pFunc e' fn xs.toList ys.toList;unfold pFunc;rw[opds_cg (l:=xs.toList) λx hx=>g x (by simp[Op.operands]at hx ⊢;exact .inl hx),opds_cg (l:=ys.toList) λx hx=>g x (by simp[Op.operands]at hx ⊢;exact .inr hx)]
 |convert s d x=>show pConv C e s d x=pConv C e' s d x;unfold pConv;rw[g x (by simp[Op.operands])]
 |fieldAddr t x i=>show pFa C e t x i=pFa C e' t x i;unfold pFa;rw[g x (by simp[Op.operands])]
 |field t x i=>show pFld C e t x i=pFld C e' t x i;unfold pFld;rw[g x (by simp[Op.operands])]
 |indexAddr t x i=>show pIxA C e t x i=pIxA C e' t x i;unfold pIxA;rw[g x (by simp[Op.operands]),Qee (g i (by simp[Op.operands]))]
 |index t x i=>show pIx C e t x i=pIx C e' t x i;unfold pIx;rw[g x (by simp[Op.operands]),Qee (g i (by simp[Op.operands]))]
 |slice t x lo H mx=>
  show pSl C e t x lo H mx=pSl C e' t x lo H mx;unfold pSl;rw[g x (by simp[Op.operands])];split;exact slV_cg (λy E=>g y (by simp[Op.operands]at E ⊢;simp[E])) (λy E=>g y (by simp[Op.operands]at E ⊢;simp[E])) (λy E=>g y (by simp[Op.operands]at E ⊢;simp[E]));rfl
 |build t ps=>show pBuild C e t ps.toList=pBuild C e' t ps.toList;unfold pBuild;rw[Qht (l:=ps.toList) λx hx=>g x (by simpa[Op.operands] using hx)]
 |makeInterface t x=>show pMki C e t x=pMki C e' t x;unfold pMki;rw[g x (by simp[Op.operands])]
 |typeAssert x s ty2_ ok=>show pTas C e x ty2_ ok=pTas C e' x ty2_ ok;unfold pTas;rw[g x (by simp[Op.operands])]
 |call c=>show pCall C e c=pCall C e' c;unfold pCall pBi;rw[Ag.of_call h]
 |_=>rfl
def read1_cg {o:Op}(h:Ag e e' o.operands.toList){m:T O}:read1 C e m o=read1 C e' m o:=by
 have g: ∀x,x∈o.operands.toList->opd e x=opd e' x:=h;cases o with
 |load t x=>show rLoad C e m t x=rLoad C e' m t x;unfold rLoad;rw[g x (by simp[Op.operands])]
 |lookup t x k ok=>show rLook C e m t x k ok=rLook C e' m t x k ok;unfold rLook;rw[g x (by simp[Op.operands]),g k (by simp[Op.operands])]
 |entry x=>show rEnt e m x=rEnt e' m x;unfold rEnt;rw[g x (by simp[Op.operands])]
 |convert s d x=>show rConv C e m s d x=rConv C e' m s d x;unfold rConv;rw[g x (by simp[Op.operands])]
 |call c=>show rCall C e m c=rCall C e' m c;unfold rCall;rw[Ag.of_call h]
 |_=>rfl
def look1_cg {o:Op}(h:Ag e e' o.operands.toList){m:T O}{k:Nat}:look1 C e m o k=look1 C e' m o k:=by
 unfold look1;rw[pure1_cg h,read1_cg h]
def alloc1_cg {o:Op}(h:Ag e e' o.operands.toList){m m':T O}{i:Nat}{v:V}{x:O}(E:Qbw C e m i o=some (v,x))(hq:noQ x=true):Qbw C e' m' i o=some (v,x):=by
 have g: ∀x,x∈o.operands.toList->opd e x=opd e' x:=h;cases o with
 |alloc t=>exact E
 |box t y=>rw[<-E];show aBox C e' i t y=aBox C e i t y;unfold aBox;rw[g y (by simp[Op.operands])]
 |buildSlice t n ps=>rw[<-E];show aBs C e' i t n ps.toList=aBs C e i t n ps.toList;unfold aBs;rw[Qht (l:=ps.toList) λx hx=>g x (by simpa[Op.operands] using hx)]
 |makeMap t r=>exact E
 |range t y=>
  have E:aRg C e m i t y=some (v,x):=E;show aRg C e' m' i t y=some (v,x);unfold aRg at E ⊢;rw[<-g y (by simp[Op.operands])];split at E;unfold rgV at E ⊢;split at E;obtain⟨_,h1⟩:=Qaa E;split at h1;injection h1 with h1;injection h1 with h1 h2;rw[<-h2]at hq;cases hq
  cases h1;exact E;cases E
 |_=>cases E
def Ef.to (e:Env)(rd:Bool)(fl:Nat):Ef->Ef:=Option.map λp=>(p.1,⟨e,p.2.ds,p.2.h,p.2.nx,rd,fl⟩)
def to_some {rd:Bool}{fl:Nat}{v:V}{s:S}:Ef.to e rd fl (some (v,s))=some (v,⟨e,s.ds,s.h,s.nx,rd,fl⟩):=rfl
section
variable {ih:Job->Option Rs}{ds:List (Option (V×List V)×Nat)}{nx fl:Nat}{rd:Bool}
def putM_to {i c:Nat}{es:List (V×V)}{k v:V}{q:Option (Option (Nat×V×V))}:putM ⟨e,ds,h,nx,rd,fl⟩ i es c k v q=Ef.to e rd fl (putM ⟨e',ds,h,nx,rd,fl⟩ i es c k v q):=by
 cases q with
 |none=>rfl
 |some q=>(try dsimp only);cases q with
  |none=>rfl
  |some q=>
   obtain⟨p,x,y⟩:=q;unfold putM;dsimp only;cases beq k x&&flKy k<;>rfl
def entM_to {J:Ti}{i c:Nat}{es:List (V×V)}{k:V}{q:Option (Option (Nat×V×V))}:entM ⟨e,ds,h,nx,rd,fl⟩ J i es c k q=Ef.to e rd fl (entM ⟨e',ds,h,nx,rd,fl⟩ J i es c k q):=by
 cases q with
 |none=>rfl
 |some q=>(try dsimp only);cases q with
  |none=>rfl
  |some q=>
   obtain⟨p,x,y⟩:=q;unfold entM;dsimp only;cases beq k x&&flKy k<;>rfl
def eNext_to {o:O}{i:Nat}{str:Bool}:(bif str then nxStr ⟨e,ds,h,nx,rd,fl⟩ i o else nxQ ⟨e,ds,h,nx,rd,fl⟩ o)=Ef.to e rd fl (bif str then nxStr ⟨e',ds,h,nx,rd,fl⟩ i o else nxQ ⟨e',ds,h,nx,rd,fl⟩ o):=by
 cases str with
 |false=>cases o<;>rfl
 |true=>
  cases o with
  |st b pos=>
   dsimp only[cond_true];unfold nxStr;dsimp only;cases Nat.blt pos b.size with
   |false=>rfl
   |true=>cases Nat.blt i fl<;>rfl
  |_=>rfl
def eClr_to {t:QQ}{x:V}:eClr C ⟨e,ds,h,nx,rd,fl⟩ t x=Ef.to e rd fl (eClr C ⟨e',ds,h,nx,rd,fl⟩ t x):=by
 unfold eClr;cases Qcm C t with
 |none=>rfl
 |some J=>
  dsimp only;cases x.sl? with
  |none=>dsimp only;cases x.nilS<;>rfl
  |some q=>
   dsimp only;cases Nat.beq q.2.2.1 0 with
   |true=>rfl
   |false=>
    dsimp only[cond_false];unfold storeAt;dsimp only;cases Nat.blt q.1 fl with
    |true=>rfl
    |false=>
     dsimp only[cond_false];cases Qfs h q.1 with
     |none=>rfl
     |some r=>
      dsimp only;cases Qdp r.2 q.2.1 (rep J.z q.2.2.1)<;>rfl
def eApp_to {t:QQ}{x y:V}:eApp C ⟨e,ds,h,nx,rd,fl⟩ t x y=Ef.to e rd fl (eApp C ⟨e',ds,h,nx,rd,fl⟩ t x y):=by
 unfold eApp;dsimp only;cases Qbl C t with
 |none=>rfl
 |some el=>(try dsimp only);cases C.ty.get el with
  |none=>rfl
  |some J=>dsimp only;cases Qhs J el h nx fl x y<;>rfl
end
def eff_to {ih:Job->Option Rs}{o:Op}{ds:List (Option (V×List V)×Nat)}{nx fl:Nat}{rd:Bool}(H:Ag e e' o.operands.toList):
  eff C ih ⟨e,ds,h,nx,rd,fl⟩ o=Ef.to e rd fl (eff C ih ⟨e',ds,h,nx,rd,fl⟩ o):=by
 have g: ∀x,x∈o.operands.toList->opd e x=opd e' x:=H;have Y: ∀i,mapW ⟨e,ds,h,nx,rd,fl⟩ i=mapW ⟨e',ds,h,nx,rd,fl⟩ i:=λ_=>rfl;have mu: ∀{t:QQ} {m:QN} {k x:Option V},(match m with
   |some i=>match k with
    |some k=>match x with
     |some v=>match Qdu C t with
      |some (kt,_)=>match mapW ⟨e,ds,h,nx,rd,fl⟩ i with
       |some (es,c)=>putM ⟨e,ds,h,nx,rd,fl⟩ i es c k v (Qdv C kt k es)
       |none=>none
      |none=>none
     |none=>none
    |none=>none
   |none=>none)=Ef.to e rd fl (match m with
   |some i=>match k with
    |some k=>match x with
     |some v=>match Qdu C t with
      |some (kt,_)=>match mapW ⟨e',ds,h,nx,rd,fl⟩ i with
       |some (es,c)=>putM ⟨e',ds,h,nx,rd,fl⟩ i es c k v (Qdv C kt k es)
       |none=>none
      |none=>none
     |none=>none
    |none=>none
   |none=>none):=by
  intro t m k x;cases m with
  |none=>rfl
  |some i=>(try dsimp only);cases k with
   |none=>rfl
   |some k=>(try dsimp only);cases x with
    |none=>rfl
    |some v=>(try dsimp only);cases Qdu C t with
     |none=>rfl
     |some q=>
      dsimp only;rw[Y i];cases mapW ⟨e',ds,h,nx,rd,fl⟩ i with
      |none=>rfl
      |some r=>exact putM_to
 cases o with
 |store t a x=>
  show Qfy C _ t a x=Ef.to e rd fl (Qfy C _ t a x);unfold Qfy storeAt;dsimp only;rw[g a (by simp[Op.operands]),g x (by simp[Op.operands])];cases opd e' a with
  |none=>rfl
  |some p=>(try dsimp only);cases p.ptr? with
   |none=>rfl
   |some q=>(try dsimp only);cases opd e' x with
    |none=>rfl
    |some u=>(try dsimp only);cases C.ty.get t with
     |none=>rfl
     |some J=>
      dsimp only;cases Nat.beq u.cells.length J.n&& !tupV u with
      |false=>rfl
      |true=>(try dsimp only);cases Nat.blt q.1 fl with
       |true=>rfl
       |false=>
        dsimp only[cond_true,cond_false];cases Qfs h q.1 with
        |none=>rfl
        |some r=>
         dsimp only;cases Qdp r.2 q.2 u.cells<;>rfl
 |mapUpdate t m k x=>
  show eUpd C _ t m k x=Ef.to e rd fl (eUpd C _ t m k x);unfold eUpd;dsimp only;rw[show mapI e m=mapI e' m by unfold mapI;rw[g m (by simp[Op.operands])],g k (by simp[Op.operands]),g x (by simp[Op.operands])];exact mu
 |insert t m k x=>
  show eUpd C _ t m k x=Ef.to e rd fl (eUpd C _ t m k x);unfold eUpd;dsimp only;rw[show mapI e m=mapI e' m by unfold mapI;rw[g m (by simp[Op.operands])],g k (by simp[Op.operands]),g x (by simp[Op.operands])];exact mu
 |mapEntry t m k=>
  show eEnt C _ t m k=Ef.to e rd fl (eEnt C _ t m k);unfold eEnt;dsimp only;rw[show mapI e m=mapI e' m by unfold mapI;rw[g m (by simp[Op.operands])],g k (by simp[Op.operands])];cases mapI e' m with
  |none=>rfl
  |some i=>(try dsimp only);cases opd e' k with
   |none=>rfl
   |some u=>(try dsimp only);cases Qdu C t with
    |none=>rfl
    |some q=>
     dsimp only;rw[Y i];cases mapW ⟨e',ds,h,nx,rd,fl⟩ i with
     |none=>rfl
     |some r=>exact entM_to
 |entryStore t m w x=>
  show eEst _ m w x=Ef.to e rd fl (eEst _ m w x);unfold eEst;dsimp only;rw[show mapI e m=mapI e' m by unfold mapI;rw[g m (by simp[Op.operands])],g w (by simp[Op.operands]),g x (by simp[Op.operands])];cases mapI e' m with
  |none=>rfl
  |some i=>(try dsimp only);cases opd e' w with
   |none=>rfl
   |some u=>
    dsimp only;cases u.w? with
    |none=>rfl
    |some j=>(try dsimp only);cases opd e' x with
     |none=>rfl
     |some z=>
      dsimp only;rw[show Qje ⟨e,ds,h,nx,rd,fl⟩ i=Qje ⟨e',ds,h,nx,rd,fl⟩ i from rfl];cases Qje ⟨e',ds,h,nx,rd,fl⟩ i with
      |none=>rfl
      |some r=>
       dsimp only;cases Nat.beq j r.2.2.1<;>rfl
 |next x b=>
  show eNext _ x b=Ef.to e rd fl (eNext _ x b);unfold eNext;dsimp only;rw[g x (by simp[Op.operands])];cases opd e' x with
  |none=>rfl
  |some u=>
   dsimp only;cases u.it? with
   |none=>rfl
   |some i=>
    dsimp only;cases h.get i with
    |none=>rfl
    |some o=>exact eNext_to
 |call c=>
  have E:=Ag.of_call (c:=c) H;show eCall C ih _ c=Ef.to e rd fl (eCall C ih _ c);unfold eCall;cases W:c.callee with
  |value f=>
   show eCv ih _ f c.args.toList=Ef.to e rd fl (eCv ih _ f c.args.toList);unfold eCv;dsimp only;rw[E,g f (by simp[Op.operands,Call.operands,W])];cases opds e' c.args.toList with
   |none=>rfl
   |some vs=>(try dsimp only);cases opd e' f with
    |none=>rfl
    |some u=>
     dsimp only;unfold callR;cases ih (.call u vs h nx fl)with
     |none=>rfl
     |some r=>cases r<;>rfl
  |builtin b=>
   show eBi C _ c.args.toList c.argTypes.toList b=Ef.to e rd fl (eBi C _ c.args.toList c.argTypes.toList b);unfold eBi;dsimp only;rw[E];cases b with
   |append=>
    dsimp only;unfold ty2 arg2;split
    ·rename_i t u hts
     cases Nat.beq t u with
     |false=>rfl
     |true=>
      dsimp only[cond_true];cases opds e' c.args.toList with
      |none=>rfl
      |some vs=>(try dsimp only);cases vs with
       |nil=>rfl
       |cons x r=>(try dsimp only);cases r with
        |nil=>rfl
        |cons y r=>(try dsimp only);cases r with
         |nil=>exact eApp_to
         |cons _ _=>rfl
    rfl
   |clear=>
    dsimp only;unfold ty1 arg1;split;cases opds e' c.args.toList with
    |none=>rfl
    |some vs=>cases vs with
     |nil=>rfl
     |cons x r=>cases r with
      |nil=>exact eClr_to
      |cons _ _=>rfl
    rfl
   |_=>rfl
  |invoke _ _=>rfl
 |defer c=>
  show eDef _ c=Ef.to e rd fl (eDef _ c);have E:=Ag.of_call (c:=c) H;unfold eDef;cases W:c.callee with
  |value f=>
   dsimp only;rw[E,g f (by simp[Op.operands,Call.operands,W])];cases opds e' c.args.toList with
   |none=>rfl
   |some vs=>(try dsimp only);cases opd e' f with
    |none=>rfl
    |some u=>
     dsimp only;cases rd|| !isF u<;>rfl
  |builtin b=>rfl
  |invoke _ _=>rfl
 |_=>rfl
def eff_cg {ih:Job->Option Rs}{o:Op}{ds:List (Option (V×List V)×Nat)}{nx fl:Nat}{rd:Bool}{v:V}{s1:S}(E:eff C ih ⟨e,ds,h,nx,rd,fl⟩ o=some (v,s1)):
  s1=⟨e,s1.ds,s1.h,s1.nx,rd,fl⟩/\(Ag e e' o.operands.toList->eff C ih ⟨e',ds,h,nx,rd,fl⟩ o=some (v,⟨e',s1.ds,s1.h,s1.nx,rd,fl⟩)):=by
 constructor;have:=eff_to (C:=C) (e:=e) (e':=e) (h:=h) (ih:=ih) (o:=o) (ds:=ds) (nx:=nx) (fl:=fl) (rd:=rd) λ_ _=>rfl;rw[E,to_some]at this;injection this with this
 injection this;intro H;rw[eff_to (e:=e') (e':=e) λx hx=>(H x hx).symm,E,to_some]
end
def Qjc (b i:Nat):tst b i=b.testBit i:=by
 unfold tst;rw[Nat.testBit_eq_decide_div_mod_eq];have h1:Nat.land (b / 2^i) 1=b / 2^i%2:=Nat.and_one_is_mod _;rw[h1];cases h:Nat.beq (b / 2^i%2) 1 with
 |true=>exact(Q4 (Qk h)).symm
 |false=>exact(Wu (Nat.ne_of_beq_eq_false h)).symm
def tst_or (a b i:Nat):tst (Nat.lor a b) i=(tst a i||tst b i):=by rw[Qjc,Qjc,Qjc];exact Yd a b i
def tst_pow (k i:Nat):tst (2^k) i=decide (k=i):=by rw[Qjc];exact Yz
def tst_0 (i:Nat):tst 0 i=false:=by rw[Qjc];exact Nat.zero_testBit i
def bitF (bs:QM)(s:Nat)(e:Edge):Nat:=bif Region.binds .any e then Nat.lor s (Nat.lor (2^e.on) (bs.getD e.on 0))else s
def Qiu (bs:QM)(j:Nat): ∀(l:List Edge) (s:Nat),tst (l.foldl (bitF bs) s) j=true↔tst s j=true\/∃e∈l,Region.binds .any e=true/\(e.on=j\/tst (bs.getD e.on 0) j=true)
 | [],s=>by simp
 |e::l,s=>by
  rw[Vb,Qiu bs j l];unfold bitF;cases H:Region.binds .any e with
  |false=>
   rw[cond_false];constructor;rintro(h|⟨e',h1,h2⟩);exact .inl h;exact .inr ⟨e',Qf _ h1,h2⟩;rintro(h|⟨e',h1,h2,E⟩);exact .inl h;rcases Qn.1 h1 with rfl|h1
   rw[H]at h2;cases h2;exact .inr ⟨e',h1,h2,E⟩
  |true=>
   rw[cond_true,tst_or,tst_or,tst_pow,Xs,Xs,Qy];constructor;rintro((h|h)|⟨e',h1,h2⟩);exact .inl h;exact .inr ⟨e,Qh ..,H,h⟩;exact .inr ⟨e',Qf _ h1,h2⟩;rintro(h|⟨e',h1,h2,E⟩);exact .inl (.inl h);rcases Qn.1 h1 with rfl|h1
   exact .inl (.inr E);exact .inr ⟨e',h1,h2,E⟩
def bits_iff (bs:QM)(j:Nat)(l:List Edge):tst (bits bs l) j=true↔∃e∈l,Region.binds .any e=true/\(e.on=j\/tst (bs.getD e.on 0) j=true):=by
 have:=Qiu bs j l 0;rw[tst_0]at this;show tst (List.foldl (bitF bs) 0 l) j=true↔_;simpa using this
def Qcn: ∀(r:QT) (bs:QM),∃t,Qau r bs=bs++t/\t.length=r.length
 | [],bs=>⟨[],by simp[Qau],rfl⟩
 |o::r,bs=>by
  obtain⟨t,h1,h2⟩:=Qcn r (bs++[bits bs o.after.toList]);exact⟨bits bs o.after.toList::t,by unfold Qau;rw[h1];simp,by simp[h2]⟩
def Qgo: ∀(r:QT) (bs:QM) (k:Nat) (o:Oper),r[k]?=some o->(Qau r bs)[bs.length+k]?=some (bits ((Qau r bs).take (bs.length+k)) o.after.toList)
 | [],bs,k,o,h=>by simp at h
 |p::r,bs,0,o,h=>by
  simp only[Wp,Qg]at h;subst h;obtain⟨t,h1,_⟩:=Qcn r (bs++[bits bs p.after.toList]);unfold Qau;rw[h1];simp
 |p::r,bs,k+1,o,h=>by
  have:=Qgo r (bs++[bits bs p.after.toList]) k o (by simpa using h);unfold Qau;rw[Qz]at this;have e:bs.length+(k+1)=bs.length+[bits bs p.after.toList].length+k:=by simp;omega
  rw[e];exact this
def Qeq: ∀(r:QT) (i k:Nat) (o:Oper),Qcs r i=true->r[k]?=some o->∀e∈o.after,Region.binds .any e=true->e.on<i+k
 | [],_,_,_,_,h=>by simp at h
 |p::r,i,0,o,h,E=>by
  simp only[Wp,Qg]at E;subst E;unfold Qcs at h;rw[Qd]at h;intro e H J;have:=Q5.1 h.1 e (by simpa using H);rw[J]at this;exact Qm this
 |p::r,i,k+1,o,h,E=>by
  unfold Qcs at h;rw[Qd]at h;intro e H J;have:=Qeq r (i+1) k o h.2 (by simpa using E) e H J;omega
def Near (ops:QT)(p o:Oper):Prop:=near p.dst (sees ops p) o.dst (sees ops o)=true
def Qgk {d':QN}{l':QM}{b:Nat}: ∀(acc:List (QN×QM)) (i k:Nat) (x:QN×QM),Qek d' l' b acc i=true->acc[k]?=some x->near x.1 x.2 d' l'=true->tst b (i+k)=true
 | [],_,_,_,_,h,_=>by simp at h
 |(d,l)::r,i,0,x,h,hx,E=>by
  simp only[Wp,Qg]at hx;subst hx;unfold Qek at h;rw[Qd]at h;simpa[E] using h.1
 |(d,l)::r,i,k+1,x,h,hx,E=>by
  unfold Qek at h;rw[Qd]at h;have:=Qgk r (i+1) k x h.2 (by simpa using hx) E;have e:i+(k+1)=i+1+k:=by omega
  rw[e];exact this
def Qeg {ops:QT}{bs:QM}: ∀(r:QT) (acc:List (QN×QM)) (all:QT),Qdw ops bs r acc=true->acc=(all.take acc.length).map (λo=>(o.dst,sees ops o))->all.drop acc.length=r->
  ∀(k i:Nat) (p o:Oper),acc.length<=i->k<i->all[k]?=some p->all[i]?=some o->Near ops p o->tst (bs.getD i 0) k=true
 | [],acc,all,_,J,H,k,i,p,o,h1,h2,hp,E,_=>by
  have:all.length<=acc.length:=by have:=Wq List.length H;simp at this;omega
  have:=(Qe.1 E).1;omega
 |q::r,acc,all,h,J,H,k,i,p,o,h1,h2,hp,E,W=>by
  unfold Qdw at h;rw[Qd]at h;have hq:all[acc.length]?=some q:=by
   have:=Wq (λl=>l[0]?) H;simpa using this
  by_cases Y:i=acc.length;subst Y;rw[hq]at E;injection E with E;subst E
  have hk:acc[k]?=some (p.dst,sees ops p):=by
   rw[J];simp[W8,h2,hp]
  have:=Qgk acc 0 k _ h.1 hk W;simpa using this;refine Qeg r (acc++[(q.dst,sees ops q)]) all h.2 ?_ ?_ k i p o (by simp;omega) h2 hp E W;rw[Qz,Y8,X2,hq,Xc,<-J];rfl;rw[Qz,Y8,<-Yq,H];rfl
structure Stat (ops:QT) (bs:QM):Prop where
 len:bs.length=ops.length
 mem: ∀i o j,ops[i]?=some o->tst (bs.getD i 0) j=true->∃e∈o.after,Region.binds .any e=true/\e.on<i/\(e.on=j\/tst (bs.getD e.on 0) j=true)
 inc: ∀i o e j,ops[i]?=some o->e∈o.after->Region.binds .any e=true->(e.on=j\/tst (bs.getD e.on 0) j=true)->tst (bs.getD i 0) j=true
 edge: ∀i o e,ops[i]?=some o->e∈o.after->Region.binds .any e=true->e.on<i
 pair: ∀k i p o,k<i->ops[k]?=some p->ops[i]?=some o->Near ops p o->tst (bs.getD i 0) k=true
def o_dU {ops:QT}{bs:QM}(h:stat ops=some bs):Stat ops bs:=by
 unfold stat at h;obtain⟨hb,h1⟩:=Qaa h;injection h1 with h1
 subst h1;rw[Qd]at hb;obtain⟨t,ht,hl⟩:=Qcn ops [];have W: ∀i o,ops[i]?=some o->(Qau ops []).getD i 0=bits ((Qau ops []).take i) o.after.toList:=λi o E=>by
  have:=Qgo ops [] i o E;rw[Wx,Wl]at this;rw[List.getD_eq_getElem?_getD,this];rfl
 have J: ∀i o e,ops[i]?=some o->e∈o.after->Region.binds .any e=true->e.on<i:=λi o e E he H=>by
  have:=Qeq ops 0 i o hb.1 E e he H;omega
 have Y: ∀(l:QM) i k,k<i->(l.take i).getD k 0=l.getD k 0:=λl i k hk=>by simp[List.getD_eq_getElem?_getD,W8,hk]
 refine⟨by rw[ht];simpa using hl,λi o j E hj=>?_,λi o e j E he H hj=>?_,J,λk i p o hk hp E hn=>Qeg ops [] ops hb.2 (by simp) (by simp) k i p o (Ya _) hk hp E hn⟩;rw[W i o E,bits_iff]at hj;obtain⟨e,h1,h2,h3⟩:=hj;have h1:e∈o.after:=by simpa using h1
 have h4:=J i o e E h1 h2;rw[Y _ _ _ h4]at h3;exact⟨e,h1,h2,h4,h3⟩;rw[W i o E,bits_iff];exact⟨e,by simpa using he,H,by rw[Y _ _ _ (J i o e E he H)];exact hj⟩
section
variable {ops:QT}{bs:QM}
def Stat.lt (h:Stat ops bs): ∀(i j:Nat),i<ops.length->tst (bs.getD i 0) j=true->j<i:=λi=>by
 induction i using Nat.strongRecOn with
 |_ i ih=>
  intro j J W;have Y:ops[i]?=some ops[i]:=Qj J;obtain⟨e,_,_,E,H⟩:=h.mem i _ j Y W;rcases H with rfl|H
  exact E;exact Nat.lt_trans (ih _ E j (by omega) H) E
def Stat.tr (h:Stat ops bs): ∀(i c j:Nat),i<ops.length->tst (bs.getD i 0) c=true->tst (bs.getD c 0) j=true->tst (bs.getD i 0) j=true:=λi=>by
 induction i using Nat.strongRecOn with
 |_ i ih=>
  intro c j W Y J;have E:ops[i]?=some ops[i]:=Qj W;obtain⟨e,h1,h2,h3,H⟩:=h.mem i _ c E Y;rcases H with rfl|H
  exact h.inc i _ e j E h1 h2 (.inr J);exact h.inc i _ e j E h1 h2 (.inr (ih _ h3 c j (by omega) H J))
def Stat.cl (h:Stat ops bs){L:Nat->Bool}(Y: ∀i o,L i=true->ops[i]?=some o->∀e∈o.after,Region.binds .any e=true->L e.on=true):
  ∀(i:Nat) (o:Oper),ops[i]?=some o->(∀e∈o.after,Region.binds .any e=true->L e.on=true)->∀j,tst (bs.getD i 0) j=true->L j=true:=λi=>by
 induction i using Nat.strongRecOn with
 |_ i ih=>
  intro o H J j hj;obtain⟨e,h1,h2,h3,E⟩:=h.mem i o j H hj;rcases E with rfl|E
  exact J e h1 h2;have hi:=(Qe.1 H).1;have W:ops[e.on]?=some ops[e.on]:=Qj (by omega);exact ih _ h3 _ W (Y _ _ (J e h1 h2) W) j E
def has_mem {l:QM}{t:Nat}(h:t∈l):has l (some t)=true:=Jh.2 ⟨t,h,Y7 t⟩
def Stat.cmp (h:Stat ops bs){k i t:Nat}{p o:Oper}(hp:ops[k]?=some p)(H:ops[i]?=some o)(J:p.dst=some t)(E:t∈sees ops o\/o.dst=some t)(W:k≠i):
  (k<i/\tst (bs.getD i 0) k=true)\/(i<k/\tst (bs.getD k 0) i=true):=by
 rcases Yh k i with hk|hk
 refine .inl ⟨hk,h.pair k i p o hk hp H ?_⟩;unfold Near near;rw[J];rcases E with E|E
 rw[has_mem E];rfl;rw[E];simp[optL,has];have hk:i<k:=by omega
 refine .inr ⟨hk,h.pair i k o p hk H hp ?_⟩;unfold Near near;rw[J];rcases E with E|E
 rw[has_mem E];simp;rw[E];simp[optL,has]
end
section
variable {C:Cx}{ih:Job->Option Rs}{ops:QT}{bs:QM}
inductive Ran (C:Cx) (ih:Job->Option Rs) (ops:QT) (i b:Nat) (o:Oper) (d:D):D->Prop
 |off:wantedV ops d.s.env o.guard=some false->Ran C ih ops i b o d ⟨d.s.upo o.dst un,d.cs,d.xs,d.rs,d.q⟩
 |made {v:V} {x:O}:wantedV ops d.s.env o.guard=some true->Qbw C d.s.env d.s.h d.q o.op=some (v,x)->noQ x=true->Ran C ih ops i b o d ⟨d.s.upo o.dst v,d.cs,(i,d.q,x)::d.xs,d.rs,d.q+1⟩
 |look {v:V}:wantedV ops d.s.env o.guard=some true->look1 C d.s.env (lay d.s.h (tst b) d.xs) o.op (cls o.op)=some v->Ran C ih ops i b o d ⟨d.s.upo o.dst v,d.cs,d.xs,(i,o.op,d.s.env,v)::d.rs,d.q⟩
 |eff {v:V} {s1:S}:wantedV ops d.s.env o.guard=some true->(∀c∈d.cs,tst b c.1=true)->Go.M.eff C ih (d.s.seth (lay d.s.h (tst b) d.xs)) o.op=some (v,s1)->(∀x∈d.xs,tst b x.1=true->(s1.h.get x.2.1).isSome=true)->Ran C ih ops i b o d ⟨s1.upo o.dst v,(i,s1)::d.cs,d.xs,d.rs,d.q⟩
def Qjb {i b:Nat}{o:Oper}{d d':D}(E:wantedV ops d.s.env o.guard=some true)(h:dMade d i o.dst (Qbw C d.s.env d.s.h d.q o.op)=some d'):Ran C ih ops i b o d d':=by
 unfold dMade at h;split at h;rename_i v x hx;obtain⟨h1,h2⟩:=Qaa h;injection h2 with h2;subst h2
 exact .made E hx h1;cases h
def dOne_ran {i b:Nat}{o:Oper}{d d':D}(h:dOne C ih ops d i b o=some d'):Ran C ih ops i b o d d':=by
 unfold dOne at h;split at h;rename_i E;unfold dStep at h;split at h;obtain⟨h1,h2⟩:=Qaa h;unfold dEff at h2;split at h2;rename_i v s1 J;obtain⟨W,H⟩:=Qaa h2;injection H with H;subst H
 refine .eff E (λc Y=>Q5.1 h1 c Y) J λx hx hb=>?_;have:=Q5.1 W x hx;unfold there at this;rw[hb]at this;simpa using this;cases h2;exact Qjb E h;unfold dLook at h;split at h;rename_i v hv;injection h with h;subst h
 exact .look E hv;exact Qjb E h;rename_i E;injection h with h;subst h
 exact .off E;cases h
def Qjn: ∀(r:QT) (i:Nat) (d d':D),dGo C ih ops bs r i d=some d'->∃st:Nat->D,st i=d/\st (i+r.length)=d'/\∀k o,r[k]?=some o->Ran C ih ops (i+k) (bs.getD (i+k) 0) o (st (i+k)) (st (i+k+1))
 | [],i,d,d',h=>by
  injection h with h;subst h
  exact⟨λ_=>d,rfl,rfl,λk o h=>by simp at h⟩
 |p::r,i,d,d',h=>by
  unfold dGo at h;split at h;rename_i d1 h1;obtain⟨st,E,H,J⟩:=Qjn r (i+1) d1 d' h;refine⟨λj=>if j=i then d else st j,Qc rfl,?_,λk o hk=>?_⟩;show(if i+(p::r).length=i then d else st (i+(p::r).length))=d';rw[Qb (by simp),<-H];congr 1;simp;omega;cases k with
  |zero=>
   simp only[Wp,Qg]at hk;subst hk;show Ran C ih ops i (bs.getD i 0) p (if i=i then d else st i) (if i+1=i then d else st (i+1));rw[Qc rfl,Qb (by omega),E];exact dOne_ran h1
  |succ k=>
   have:=J k o (by simpa using hk);show Ran C ih ops (i+(k+1)) (bs.getD (i+(k+1)) 0) o (if i+(k+1)=i then d else st (i+(k+1))) (if i+(k+1)+1=i then d else st (i+(k+1)+1));rw[Qb (by omega),Qb (by omega)];have e:i+(k+1)=i+1+k:=by omega
   rw[e];exact this
  cases h
def Env.opt (e:Env)(d:QN)(v:V):Env:=match d with
 |some d=>e.set d v
 |none=>e
def Qbv (s:S)(d:QN)(v:V):(s.upo d v).env=s.env.opt d v:=by cases d<;>rfl
def Env.get_set (e:Env)(d:Nat)(v:V)(t:Nat):(e.set d v).get t=if d=t then some v else e.get t:=Env.get_c d v e t
structure Tc (C:Cx) (ih:Job->Option Rs) (ops:QT) (bs:QM) (s0:S) (q0:Nat) (st:Nat->D):Prop where
 ran: ∀i o,ops[i]?=some o->Ran C ih ops i (bs.getD i 0) o (st i) (st (i+1))
 beg:st 0=⟨s0,[],[],[],q0⟩
section
variable {s0:S}{q0:Nat}{st:Nat->D}
def Tc.env (h:Tc C ih ops bs s0 q0 st){i:Nat}{o:Oper}(E:ops[i]?=some o): ∃v,(st (i+1)).s.env=(st i).s.env.opt o.dst v:=by
 have h1:=h.ran i o E;generalize st (i+1)=d' at h1;cases h1 with
 |off _=>exact⟨_,Qbv _ _ _⟩
 |made _ _ _=>exact⟨_,Qbv _ _ _⟩
 |look _ _=>exact⟨_,Qbv _ _ _⟩
 | @eff v s1 _ _ H _=>
  refine⟨v,?_⟩;rw[Qbv,(eff_cg (e':=.o) H).1]
def Tc.still (h:Tc C ih ops bs s0 q0 st){t:Nat}: ∀(k i:Nat),i+k<=ops.length->(∀j o,i<=j->j<i+k->ops[j]?=some o->o.dst≠some t)->(st (i+k)).s.env.get t=(st i).s.env.get t
 |0,i,_,_=>rfl
 |k+1,i,hk,J=>by
  have E:i+k<ops.length:=by omega
  obtain⟨v,W⟩:=h.env (Qj E);have Y:=J (i+k) _ (by omega) (by omega) (Qj E);have e:i+(k+1)=i+k+1:=by omega
  rw[e,W,<-h.still k i (by omega) λj o h1 h2 h3=>J j o h1 (by omega) h3];unfold Env.opt;split;rename_i d H;rw[Env.get_set,Qb (by intro e2;subst e2;exact Y H)];rfl
def Tc.cs (h:Tc C ih ops bs s0 q0 st): ∀(k i:Nat),i+k<=ops.length->∃A,(st (i+k)).cs=A++(st i).cs/\∀c∈A,i<=c.1/\c.1<i+k
 |0,i,_=>⟨[],rfl,λ_ h=>by cases h⟩
 |k+1,i,hk=>by
  have H:i+k<ops.length:=by omega
  obtain⟨A,h1,h2⟩:=h.cs k i (by omega);have J:=h.ran _ _ (Qj H);have e:i+(k+1)=i+k+1:=by omega
  rw[e];have keep: ∀{l},l=(st (i+k)).cs->∃A,l=A++(st i).cs/\∀c∈A,i<=c.1/\c.1<i+k+1:=λW=>⟨A,W.trans h1,λc E=>⟨(h2 c E).1,by have:=(h2 c E).2;omega⟩⟩;generalize st (i+k+1)=d' at J;cases J with
  |off _=>exact keep rfl
  |made _ _ _=>exact keep rfl
  |look _ _=>exact keep rfl
  | @eff v s1 _ _ _ _=>
   refine⟨(i+k,s1)::A,by show(i+k,s1)::(st (i+k)).cs=_;rw[h1];rfl,λc E=>?_⟩;rcases Qn.1 E with rfl|E
   exact⟨by show i<=i+k;omega,by show i+k<i+k+1;omega⟩;exact⟨(h2 c E).1,by have:=(h2 c E).2;omega⟩
def Tc.xs (h:Tc C ih ops bs s0 q0 st): ∀(k i:Nat),i+k<=ops.length->(∃A,(st (i+k)).xs=A++(st i).xs/\(∀x∈A,i<=x.1/\x.1<i+k/\(st i).q<=x.2.1/\x.2.1<(st (i+k)).q)/\A.Pairwise (λx y=>x.2.1≠y.2.1))/\(st i).q<=(st (i+k)).q/\(st (i+k)).q<=(st i).q+k
 |0,i,_=>⟨⟨[],rfl,(λ_ h=>by cases h),List.Pairwise.nil⟩,Qr _,Qr _⟩
 |k+1,i,hk=>by
  have H:i+k<ops.length:=by omega
  obtain⟨⟨A,h1,h2,J⟩,h6,h7⟩:=h.xs k i (by omega);have W:=h.ran _ _ (Qj H);have e:i+(k+1)=i+k+1:=by omega
  rw[e];have keep: ∀{l q},l=(st (i+k)).xs->q=(st (i+k)).q->(∃A,l=A++(st i).xs/\(∀x∈A,i<=x.1/\x.1<i+k+1/\(st i).q<=x.2.1/\x.2.1<q)/\A.Pairwise (λx y=>x.2.1≠y.2.1))/\(st i).q<=q/\q<=(st i).q+(k+1):=λY hq=>by
   subst hq;exact⟨⟨A,Y.trans h1,λx hx=>⟨(h2 x hx).1,by have:=(h2 x hx).2.1;omega,(h2 x hx).2.2.1,(h2 x hx).2.2.2⟩,J⟩,h6,by omega⟩
  generalize st (i+k+1)=d' at W;cases W with
  |off _=>exact keep rfl rfl
  | @made v x _ _ _=>
   refine⟨⟨(i+k,(st (i+k)).q,x)::A,by show(i+k,(st (i+k)).q,x)::(st (i+k)).xs=_;rw[h1];rfl,λy E=>?_,List.Pairwise.cons (λy E=>?_) J⟩,by show(st i).q<=(st (i+k)).q+1;omega,by show(st (i+k)).q+1<=(st i).q+(k+1);omega⟩;rcases Qn.1 E with rfl|E
   exact⟨by show i<=i+k;omega,by show i+k<i+k+1;omega,h6,by show(st (i+k)).q <(st (i+k)).q+1;omega⟩;obtain⟨g1,g2,g3,g4⟩:=h2 y E;exact⟨g1,by omega,g3,by show y.2.1<(st (i+k)).q+1;omega⟩;have:=(h2 y E).2.2.2;show(st (i+k)).q≠y.2.1;omega
  |look _ _=>exact keep rfl rfl
  |eff _ _ _ _=>exact keep rfl rfl
def Tc.rs (h:Tc C ih ops bs s0 q0 st): ∀(k i:Nat),i+k<=ops.length->∃A,(st (i+k)).rs=A++(st i).rs
 |0,i,_=>⟨[],rfl⟩
 |k+1,i,hk=>by
  have E:i+k<ops.length:=by omega
  obtain⟨A,h1⟩:=h.rs k i (by omega);have H:=h.ran _ _ (Qj E);have e:i+(k+1)=i+k+1:=by omega
  rw[e];generalize st (i+k+1)=d' at H;cases H with
  |off _=>exact⟨A,h1⟩
  |made _ _ _=>exact⟨A,h1⟩
  |look _ _=>exact⟨_::A,by show _::(st (i+k)).rs=_;rw[h1];rfl⟩
  |eff _ _ _ _=>exact⟨A,h1⟩
def Tc.mem (h:Tc C ih ops bs s0 q0 st): ∀(i:Nat),i<=ops.length->(st i).s=⟨(st i).s.env,(behind s0 (st i).cs).ds,(behind s0 (st i).cs).h,(behind s0 (st i).cs).nx,s0.rd,s0.fl⟩
 |0,_=>by rw[h.beg];rfl
 |i+1,hi=>by
  have E:i<ops.length:=by omega
  have h1:=h.mem i (by omega);have H:=h.ran _ _ (Qj E);have up: ∀(s:S) (dst:QN) (v:V) (z:S),s=⟨s.env,z.ds,z.h,z.nx,s0.rd,s0.fl⟩->s.upo dst v=⟨(s.upo dst v).env,z.ds,z.h,z.nx,s0.rd,s0.fl⟩:=λs dst v z W=>by
   obtain⟨Y,e2,e3,e4,e5⟩:=upo_eq s dst v;rw[show s.upo dst v=⟨(s.upo dst v).env,(s.upo dst v).ds,(s.upo dst v).h,(s.upo dst v).nx,(s.upo dst v).rd,(s.upo dst v).fl⟩from rfl,Y,e2,e3,e4,e5,W]
  generalize st (i+1)=d' at H;cases H with
  |off _=>exact up _ _ _ _ h1
  |made _ _ _=>exact up _ _ _ _ h1
  |look _ _=>exact up _ _ _ _ h1
  | @eff v s1 _ _ he _=>
   have J:=(eff_cg (e':=.o) he).1;rw[h1]at J;exact up s1 _ _ s1 (by rw[J])
end
def Qct (h:T O)(i:Nat)(x:O)(k:Nat):(layIf h i x).get k=if k=i/\h.get i=none then some x else h.get k:=by
 unfold layIf;split;rename_i o E;rw[Qb (by rw[E];simp)];rename_i E;rw[T.get_set];by_cases hk:k=i;rw[Qc hk,Qc ⟨hk,E⟩];rw[Qb hk,Qb (by simp[hk])]
def Qbx {h:T O}{p:Nat->Bool}: ∀(xs:List (Nat×Nat×O)) {k:Nat} {o:O},h.get k=some o->(lay h p xs).get k=some o
 | [],_,_,hk=>hk
 |(j,i,x)::r,k,o,hk=>by
  unfold lay;cases p j with
  |false=>exact Qbx r hk
  |true=>
   rw[cond_true,Qct,Qb,Qbx r hk];rintro⟨rfl,h2⟩;rw[Qbx r hk]at h2;cases h2
def Qah {h:T O}{p:Nat->Bool}: ∀(xs:List (Nat×Nat×O)) {k:Nat} {o:O},(lay h p xs).get k=some o->h.get k=some o\/(h.get k=none/\∃j,(j,k,o)∈xs/\p j=true)
 | [],_,_,hk=>.inl hk
 |(j,i,x)::r,k,o,hk=>by
  have up:(h.get k=some o\/(h.get k=none/\∃j,(j,k,o)∈r/\p j=true))->h.get k=some o\/(h.get k=none/\∃j',(j',k,o)∈(j,i,x)::r/\p j'=true):=by
   rintro(h1|⟨h1,j',h2,E⟩);exact .inl h1;exact .inr ⟨h1,j',Qf _ h2,E⟩
  unfold lay at hk;cases hp:p j with
  |false=>rw[hp,cond_false]at hk;exact up (Qah r hk)
  |true=>
   rw[hp,cond_true,Qct]at hk;split at hk;rename_i H;obtain⟨rfl,h2⟩:=H;injection hk with hk;subst hk
   refine .inr ⟨?_,j,Qh ..,hp⟩;cases J:h.get k with
   |none=>rfl
   |some o'=>rw[Qbx r J]at h2;cases h2
   exact up (Qah r hk)
def Qcl {h:T O}{p:Nat->Bool}: ∀(xs:List (Nat×Nat×O)),xs.Pairwise (λx y=>x.2.1≠y.2.1)->∀{j k:Nat} {o:O},h.get k=none->(j,k,o)∈xs->p j=true->(lay h p xs).get k=some o
 | [],_,_,_,_,_,J,_=>by cases J
 |(j',i,x)::r,hp,j,k,o,hk,J,hj=>by
  have none_of: ∀{i'},h.get i'=none->(∀y∈r,i'≠y.2.1)->(lay h p r).get i'=none:=λ{i'} hi hn=>by
   cases hg:(lay h p r).get i' with
   |none=>rfl
   |some o'=>
    rcases Qah r hg with h1|⟨_,j2,h2,_⟩
    rw[hi]at h1;cases h1;exact absurd rfl (hn _ h2)
  obtain⟨E,W⟩:=Wa.1 hp;unfold lay;rcases Qn.1 J with Y|H
  injection Y with Y e2
  injection e2 with e2 e3
  subst Y;subst e2;subst e3;rw[hj,cond_true,Qct,Qc ⟨rfl,none_of hk E⟩];have h1:=Qcl r W hk H hj;cases p j' with
  |false=>exact h1
  |true=>
   rw[cond_true,Qct,Qb,h1];rintro⟨rfl,_⟩;exact E _ H rfl
def Qep {h:T O}{p q:Nat->Bool}: ∀(xs:List (Nat×Nat×O)),(∀x∈xs,p x.1=q x.1)->lay h p xs=lay h q xs
 | [],_=>rfl
 |(j,i,x)::r,hx=>by
  unfold lay;rw[hx _ (Qh ..),Qep r λy E=>hx y (Qf _ E)]
def lay_skip {h:T O}{p:Nat->Bool}: ∀(A xs:List (Nat×Nat×O)),(∀x∈A,p x.1=false)->lay h p (A++xs)=lay h p xs
 | [],_,_=>rfl
 |(j,i,x)::r,xs,hx=>by
  rw[Yc];conv=>lhs;unfold lay
  rw[hx _ (Qh ..),cond_false,lay_skip r xs λy E=>hx y (Qf _ E)]
noncomputable def restr (e:Env):QM->Env
 | []=>.o
 |t::r=>match e.get t with
  |some v=>(restr e r).set t v
  |none=>restr e r
def Qca (e:Env): ∀(l:QM) (t:Nat),(restr e l).get t=if t∈l then e.get t else none
 | [],t=>by simp[restr,Env.get_o]
 |u::r,t=>by
  unfold restr;split;rename_i v H;rw[Env.get_set];by_cases J:u=t;subst J;rw[Qc rfl,Qc (Qh ..),H];rw[Qb J,Qca e r t];by_cases E:t∈r;rw[Qc E,Qc (Qf _ E)];rw[Qb E,Qb];intro h1;rcases Qn.1 h1 with h1|h1
  exact J h1.symm;exact E h1;rename_i H;rw[Qca e r t];by_cases E:t∈r;rw[Qc E,Qc (Qf _ E)];rw[Qb E];split;rename_i h1;rcases Qn.1 h1 with h1|h1
  rw[h1,H];exact absurd h1 E;rfl
def sees_ag (e:Env)(o:Oper):Ag e (restr e (sees ops o)) o.op.operands.toList:=λx hx=>by
 cases x with
 |tmp t=>
  show e.get t=(restr e (sees ops o)).get t;rw[Qca,Qc];unfold sees;exact Ws _ (List.mem_filterMap.2 ⟨.tmp t,hx,rfl⟩)
 |const _=>rfl
 |global _=>rfl
 |func _=>rfl
def sees_want (e:Env)(o:Oper):wantedV ops e o.guard=wantedV ops (restr e (sees ops o)) o.guard:=by
 unfold wantedV;cases E:o.guard with
 |none=>rfl
 |some q=>
  obtain⟨j,want⟩:=q;dsimp only;cases H:ops[j]? with
  |none=>rfl
  |some p=>
   dsimp only;unfold wantB;cases J:p.dst with
   |none=>rfl
   |some d=>
    dsimp only;rw[Qca,Qc];unfold sees gdOf;rw[E];dsimp only;rw[H];dsimp only;rw[J];exact Q6 _ (Qq.2 rfl)
end
section
variable {P:QR}{w0:World}{ρ ρ':Rho}{h h1 h2 h':T O}{nx nx' m:Nat}{w w':World}{fl:Nat}
def HR.sub (E:HR P w0 ρ h nx w)(H: ∀k o,h1.get k=some o->h.get k=some o):HR P w0 ρ h1 nx w:=
 ⟨λi o J=>E.live i o (H _ _ J),λi j o p x y J W=>E.inj i j o p x y (H _ _ J) (H _ _ W),E.top,E.base,E.size,E.os,E.tape,E.output⟩
def HR.up (E:HR P w0 ρ h nx w)(J:nx<=m):HR P w0 ρ h m w:=
 ⟨λi o H=>⟨Qw (E.live i o H).1 J,(E.live i o H).2⟩,E.inj,λi H=>E.top i (Wb J H),E.base,E.size,E.os,E.tape,E.output⟩
def OR.keepQ {x:Pl}{o:O}(W:Le ρ ρ')(E:w'.heap[x.b]?=w.heap[x.b]?)(hq:noQ o=true)(H:OR P ρ w x o):OR P ρ' w' x o:=by
 cases o with
 |c T xs=>obtain⟨vs,arr,h1,h2,J⟩:=H;exact⟨vs,arr,Qbn W _ _ h1,E.trans h2,J⟩
 |m es clk pend=>
  obtain⟨ks,arr,h1,h2,J,Y,h5,h6⟩:=H;refine⟨ks,arr,Qcu W h1,E.trans h2,J,Y,h5,λj k e1=>?_⟩;obtain⟨y,A,ent,B,ka,kb,g1,g2⟩:=h6 j k e1;exact⟨y,A,ent,B,ka,kb,W _ _ g1,g2⟩
 |q m clk p=>cases hq
 |qn=>obtain⟨s,t,c,h1⟩:=H;exact⟨s,t,c,E.trans h1⟩
 |st b pos=>exact E.trans H
 |lp env ps asg body st pend=>
  obtain⟨lp,n,h1,h2,J,Y,h5,h6,h8,h9⟩:=H;exact⟨lp,n,E.trans h1,h2,J,Y,h5,h6,h8.mono W,h9⟩
 |df=>exact E.trans H
def HR.spread (hr:HR P w0 ρ h nx w)(hs: ∀k o,h1.get k=some o->h.get k=some o)(hr':HR P w0 ρ' h' nx' w')(E:Tr ρ h1 nx w ρ' h' nx' w' fl)
  (hc: ∀k o,h2.get k=some o->h'.get k=some o\/(h.get k=some o/\h1.get k=none/\noQ o=true)) (hf: ∀k,k<fl->h2.get k=h'.get k/\h1.get k=h.get k):
  HR P w0 ρ' h2 nx' w'/\Tr ρ h nx w ρ' h2 nx' w' fl:=by
 have apart: ∀{k o x},h.get k=some o->h1.get k=none->ρ k=some x->∀i p y,h1.get i=some p->ρ i=some y->y.b≠x.b:=λ{k o x} hk hk1 hx i p y W hy e=>by
  have:=hr.inj i k p o y x (hs _ _ W) hk hy hx e;subst this;rw[hk1]at W;cases W
 have mixed: ∀{i j o p y z},h'.get i=some o->h.get j=some p->h1.get j=none->ρ' i=some y->ρ j=some z->z.b<w.heap.size->y.b≠z.b:=λ{i j o p y z} W hj hj1 hy hz hlt e=>by
  obtain⟨k,q,u,g1,J,g3⟩:=E.own i o y W hy (by omega);exact apart hj hj1 hz k q u g1 J (g3.trans e)
 refine⟨⟨λk o hk=>?_,λi j o p y z W hj hy hz e=>?_,hr'.top,hr'.base,hr'.size,hr'.os,hr'.tape,hr'.output⟩,⟨E.le,E.nx,E.size,λb hb hn=>E.keep b hb λi o x W hx=>hn i o x (hs _ _ W) hx,λi o x W hx hb=>?_,λk hk=>?_,λi o x W H h4=>E.old i o x W ((hf i W).2.trans H) h4,E.new⟩⟩;rcases hc k o hk with H|⟨H,h4,Y⟩
 exact hr'.live k o H;obtain⟨g1,x,J,g3,g4,g5⟩:=hr.live k o H;exact⟨Qw g1 E.nx,x,E.le _ _ J,g3,Qw g4 E.size,OR.keepQ E.le (E.keep x.b g4 (apart H h4 J)) Y g5⟩;rcases hc i o W with H|⟨H,h4,_⟩
 rcases hc j p hj with Y|⟨Y,h6,_⟩
 exact hr'.inj i j o p y z H Y hy hz e;obtain⟨_,x,J,_,g4,_⟩:=hr.live j p Y;have:=E.le _ _ J;rw[hz]at this;injection this with this;subst this
 exact absurd e (mixed H Y h6 hy J g4);obtain⟨_,x,J,_,g4,_⟩:=hr.live i o H;have:=E.le _ _ J;rw[hy]at this;injection this with this;subst this
 rcases hc j p hj with Y|⟨Y,h6,_⟩
 exact absurd e.symm (mixed Y H h4 hz J g4);obtain⟨_,x,g6,_,g7,_⟩:=hr.live j p Y;have:=E.le _ _ g6;rw[hz]at this;injection this with this;subst this
 exact hr.inj i j o p _ _ H Y J g6 e;rcases hc i o W with H|⟨H,_,_⟩
 obtain⟨j,p,y,g1,J,g3⟩:=E.own i o x H hx hb;exact⟨j,p,y,hs _ _ g1,J,g3⟩;obtain⟨_,y,J,_⟩:=hr.live i o H;have:=E.le _ _ J;rw[hx]at this;injection this with this;subst this
 exact⟨i,o,_,H,J,rfl⟩;rw[(hf k hk).1,E.flo k hk,(hf k hk).2]
def HR.allocAt (E:HR P w0 ρ h nx w){q:Nat}(hq:ρ q=none)(hlt:q<nx)(ob:Obj)(o:O)(x:Pl)(hx:x.b=w.heap.size)(ho:OR P (ρ.add q x) (w.alloc ob) x o)
  (hc: ∀k p,h2.get k=some p->(k=q/\p=o)\/(k≠q/\h.get k=some p)):HR P w0 (ρ.add q x) h2 nx (w.alloc ob):=by
 have hl:Le ρ (ρ.add q x):=Rho.le_add hq;have hs:(w.alloc ob).heap.size=w.heap.size+1:=by simp
 have old: ∀k,k<w.heap.size->(w.alloc ob).heap[k]?=w.heap[k]?:=λk hk=>Below.heap_alloc w ob k hk;have fresh: ∀{k p y},h.get k=some p->(ρ.add q x) k=some y->y.b<w.heap.size/\ρ k=some y:=λ{k p y} hk H=>by
  obtain⟨g1,y',g2,_,g4,_⟩:=E.live k p hk;rw[hl _ _ g2]at H;injection H with H
  subst H;exact⟨g4,g2⟩
 refine⟨λi p W=>?_,λi j p p2 y z W hj H J e1=>?_,λi W=>?_,λk hk=>(old k (Qw hk E.size)).trans (E.base k hk),by rw[hs];have:=E.size;omega,E.os,E.tape,E.output⟩;rcases hc i p W with⟨rfl,rfl⟩|⟨_,Y⟩
 exact⟨hlt,x,Rho.add_same _ _ _,by rw[hx];exact E.size,by rw[hs,hx];omega,ho⟩;obtain⟨g1,y,g2,g3,g4,g5⟩:=E.live i p Y;exact⟨g1,y,hl _ _ g2,g3,by omega,OR.keep hl (by omega) (old _ g4) (λb hb=>Ben.of_eq (old b hb)) g5⟩;rcases hc i p W with⟨rfl,rfl⟩|⟨_,Y⟩
 rw[Rho.add_same]at H;injection H with H;subst H
 rcases hc j p2 hj with⟨rfl,rfl⟩|⟨_,h5⟩
 rfl;have:=(fresh h5 J).1;omega;rcases hc j p2 hj with⟨rfl,rfl⟩|⟨_,h5⟩
 rw[Rho.add_same]at J;injection J with J;subst J
 have:=(fresh Y H).1;omega;exact E.inj i j p p2 y z Y h5 (fresh Y H).2 (fresh h5 J).2 e1;rw[Rho.add_other (by omega)];exact E.top i W
def Tr.allocAt (hr:HR P w0 ρ h nx w){q W:Nat}(hq:ρ q=none)(hn:W<=q)(Y:W<=nx)(hfl:fl<=q)(ob:Obj)(o:O)(x:Pl)(hx:x.b=w.heap.size)
  (hc: ∀k p,h2.get k=some p->(k=q/\p=o)\/(k≠q/\h.get k=some p)) (hk: ∀k,k≠q->h2.get k=h.get k):Tr ρ h W w (ρ.add q x) h2 nx (w.alloc ob) fl:=
 ⟨Rho.le_add hq,Y,by simp,λb hb _=>Below.heap_alloc w ob b hb,λi p y hi E hb=>by
  rcases hc i p hi with⟨rfl,rfl⟩|⟨hne,H⟩
  rw[Rho.add_same]at E;injection E with E;subst E
  omega;rw[Rho.add_other hne]at E;exact⟨i,p,y,H,E,rfl⟩,λi hi=>hk i (by omega),λi o y _ H h4=>by
  obtain⟨_,y',J,_,g4,_⟩:=hr.live i o H;rw[h4]at J;injection J with J;subst J
  exact Below.heap_alloc w ob _ g4,λi hi H=>by rw[Rho.add_other (by omega)];exact H⟩
def Tr.then {ρ'':Rho}{h'':T O}{n0 n1 n2:Nat}{w'':World}(a:Tr ρ h n0 w ρ' h' n1 w' fl)(b:Tr ρ' h' n0 w' ρ'' h'' n2 w'' fl):Tr ρ h n0 w ρ'' h'' n2 w'' fl where
 le:=a.le.trans b.le
 nx:=b.nx
 size:=Wb a.size b.size
 keep k hk hn:=by
  have h1:=a.keep k hk hn;rw[<-h1];refine b.keep k (Qw hk a.size) λi o x hi hx e1=>?_;obtain⟨j,p,y,h2,h3,h4⟩:=a.own i o x hi hx (by omega);exact hn j p y h2 h3 (h4.trans e1)
 own i o x hi hx hb:=by
  obtain⟨j,p,y,h2,h3,h4⟩:=b.own i o x hi hx (Qw hb a.size);obtain⟨j',p',y',h5,h6,h7⟩:=a.own j p y h2 h3 (by omega);exact⟨j',p',y',h5,h6,h7.trans h4⟩
 flo i hi:=(b.flo i hi).trans (a.flo i hi);old i o x hi h1 h2:=(b.old i o x hi ((a.flo i hi).trans h1) (a.le _ _ h2)).trans (a.old i o x hi h1 h2);new i hi h1:=b.new i hi (a.new i hi h1)
def Tr.low {E H:Nat}(a:Tr ρ h H w ρ' h' nx' w' fl)(J:E<=H):Tr ρ h E w ρ' h' nx' w' fl:=
 ⟨a.le,Wb J a.nx,a.size,a.keep,a.own,a.flo,a.old,λi W=>a.new i (Qw W J)⟩
end
def Qfh {α:Type}: ∀l:List α,cnt l=l.length
 | []=>rfl
 |_::r=>by show Nat.add (cnt r) 1=_;rw[Qfh r];rfl
def split_one {α:Type}{f:α->Nat}{x y:α}: ∀{A X B Z:List α},A++x::B=X++y::Z->f x=f y->(∀a∈A,f a≠f x)->(∀b∈B,f b≠f x)->A=X/\x=y/\B=Z
 | [],[],B,Z,h,_,_,_=>by injection h with h1 h2;exact⟨rfl,h1,h2⟩
 | [],x'::X,B,Z,h,E,_,H=>by
  injection h with h1 h2
  exact absurd E.symm (H y (by rw[h2];simp))
 |a::A,[],B,Z,h,E,J,_=>by
  injection h with h1 h2
  exact absurd (by rw[h1];exact E.symm) (J a (Qh ..))
 |a::A,x'::X,B,Z,h,E,J,H=>by
  injection h with h1 h2
  obtain⟨W,Y,h5⟩:=split_one h2 E (λb hb=>J b (Qf _ hb)) H;exact⟨by rw[h1,W],Y,h5⟩
def Qlh {α:Type}{p:α->Bool}{A B:List α}(h: ∀a∈A,p a=false):((A++B).filter p).length<=B.length:=by
 rw[List.filter_append,J2.2 (λa E=>by rw[h a E];simp),X8];exact J4 ..
def filter_right {α:Type}{p:α->Bool}{A B:List α}(h: ∀a∈B,p a=false):((A++B).filter p).length<=A.length:=by
 rw[List.filter_append,J2 (l:=B) |>.2 (λa E=>by rw[h a E];simp),Xy];exact J4 ..
def Ls (L:Array Bool)(i:Nat):Bool:=L.getD i false
def Ls_set {L:Array Bool}{i:Nat}(E:i<L.size)(k:Nat):Ls (L.setIfInBounds i true) k=if k=i then true else Ls L k:=by
 unfold Ls;by_cases hk:k=i;subst hk;rw[Qc rfl];simp[E];rw[Qb hk,Q1,Q1,Xh (Ne.symm hk)]
def drop_left {α:Type}(A B:List α):(A++B).drop A.length=B:=by simp
section
variable {P:QR}{C:Cx}{ih:Job->Option Rs}{w0:World}{ops:QT}{bs:QM}{s0:S}{q0:Nat}{st:Nat->D}{n:Nat}
structure Good (C:Cx) (ih:Job->Option Rs) (ops:QT) (bs:QM) (s0:S) (q0:Nat) (st:Nat->D) (n:Nat):Prop where
 stat:Stat ops bs
 tc:Tc C ih ops bs s0 q0 st
 re: ∀x∈(st ops.length).rs,reread C s0 bs (st ops.length) x=true
 dst: ∀o∈ops,∀d,o.dst=some d->d<n
 lo:s0.fl<=q0
 rm:q0+ops.length<=s0.nx
structure Inv (P:QR) (w0:World) (ops:QT) (bs:QM) (s0:S) (q0:Nat) (st:Nat->D) (n:Nat) (ρ0:Rho) (h0:T O) (w00:World) (L:Array Bool) (ρ:Rho) (cs1 cs2:List (Nat×S)) (a:Act) (w:World):Prop where
 size:L.size=ops.length
 down: ∀i o,Ls L i=true->ops[i]?=some o->∀e∈o.after,Region.binds .any e=true->Ls L e.on=true
 split:(st ops.length).cs=cs1++cs2
 no: ∀c∈cs1,Ls L c.1=false
 yes: ∀c∈cs2,Ls L c.1=true
 hr:HR P w0 ρ (lay (behind s0 cs2).h (Ls L) (st ops.length).xs) (behind s0 cs2).nx w
 nx:s0.nx<=(behind s0 cs2).nx
 ds:dcl ρ (behind s0 cs2).ds a.defers
 sz:a.tmps.size=n
 env: ∀t j,j<=ops.length->(∀i o,ops[i]?=some o->o.dst=some t->(Ls L i=true↔i<j))->∀x,(st j).s.env.get t=some x->∃v,cv ρ x=some v/\a.tmps[t]?=some v
 fut: ∀x∈(st ops.length).xs,Ls L x.1=false->ρ x.2.1=none
 hid: ∀x∈(st ops.length).xs,(∀c∈cs2,tst (bs.getD c.1 0) x.1=false)->(behind s0 cs2).h.get x.2.1=none
 shown: ∀x∈(st ops.length).xs,∀c∈cs2,tst (bs.getD c.1 0) x.1=true->((behind s0 cs2).h.get x.2.1).isSome=true
 tr:Tr ρ0 h0 q0 w00 ρ (lay (behind s0 cs2).h (Ls L) (st ops.length).xs) (behind s0 cs2).nx w s0.fl
section
variable {ρ0:Rho}{h0:T O}{w00:World}{L:Array Bool}{ρ ρ':Rho}{cs1 cs2:List (Nat×S)}{a:Act}{w w':World}{i:Nat}{o:Oper}
def Good.names (G:Good C ih ops bs s0 q0 st n):(∀x∈(st ops.length).xs,x.1<ops.length/\q0<=x.2.1/\x.2.1<s0.nx)/\(st ops.length).xs.Pairwise (λx y=>x.2.1≠y.2.1):=by
 obtain⟨⟨A,h1,h2,J⟩,H,E⟩:=G.tc.xs ops.length 0 (by omega);rw[Wl]at h1 h2 H E;rw[G.tc.beg]at h1 h2 H E;have h1:(st ops.length).xs=A:=by rw[h1];exact Xy A
 rw[h1];refine⟨λx hx=>?_,J⟩;obtain⟨_,Y,W,g4⟩:=h2 x hx;have E:(st ops.length).q<=q0+ops.length:=E;have:=G.rm;exact⟨by omega,W,by omega⟩
def Good.xsAt (G:Good C ih ops bs s0 q0 st n)(J:i<=ops.length): ∃A,(st ops.length).xs=A++(st i).xs/\(∀x∈A,i<=x.1)/\∀x∈(st i).xs,x.1<i:=by
 obtain⟨k,hk⟩: ∃k,ops.length=i+k:=⟨ops.length-i,by omega⟩;obtain⟨⟨A,h1,h2,_⟩,_⟩:=G.tc.xs k i (by omega);obtain⟨⟨B,E,H,_⟩,_⟩:=G.tc.xs i 0 (by omega);rw[Wl]at E H;rw[G.tc.beg]at E;refine⟨A,by rw[hk];exact h1,λx hx=>(h2 x hx).1,λx hx=>?_⟩;rw[E,Xy]at hx;exact(H x hx).2.1
def Good.csAt (G:Good C ih ops bs s0 q0 st n)(J:i<=ops.length): ∃A,(st ops.length).cs=A++(st i).cs/\(∀x∈A,i<=x.1/\x.1<ops.length)/\∀x∈(st i).cs,x.1<i:=by
 obtain⟨k,hk⟩: ∃k,ops.length=i+k:=⟨ops.length-i,by omega⟩;obtain⟨A,h1,h2⟩:=G.tc.cs k i (by omega);obtain⟨B,E,H⟩:=G.tc.cs i 0 (by omega);rw[Wl]at E H;rw[G.tc.beg]at E;refine⟨A,by rw[hk];exact h1,λx hx=>⟨(h2 x hx).1,by have:=(h2 x hx).2;omega⟩,λx hx=>?_⟩;rw[E,Xy]at hx;exact(H x hx).2
structure Next (ops:QT) (L:Array Bool) (i:Nat) (o:Oper):Prop where
 at':ops[i]?=some o
 un:Ls L i=false
 pre: ∀e∈o.after,Region.binds .any e=true->Ls L e.on=true
variable (G:Good C ih ops bs s0 q0 st n)(I:Inv P w0 ops bs s0 q0 st n ρ0 h0 w00 L ρ cs1 cs2 a w)(N:Next ops L i o)
include G I N
theorem Inv.lt:i<ops.length:=(Qe.1 N.at').1
theorem Inv.pre: ∀j,tst (bs.getD i 0) j=true->Ls L j=true:=G.stat.cl I.down i o N.at' N.pre
theorem Inv.ahead: ∀k,Ls L k=true->k<ops.length->tst (bs.getD k 0) i=false:=λk hk E=>by
 cases J:tst (bs.getD k 0) i with
 |false=>rfl
 |true=>
  have H:ops[k]?=some ops[k]:=Qj E;have:=G.stat.cl I.down k _ H (I.down k _ hk H) i J;rw[N.un]at this;cases this
theorem Inv.setL: ∀k,Ls (L.setIfInBounds i true) k=if k=i then true else Ls L k:=Ls_set (by rw[I.size];exact Inv.lt G I N)
theorem Inv.downS: ∀k p,Ls (L.setIfInBounds i true) k=true->ops[k]?=some p->∀e∈p.after,Region.binds .any e=true->Ls (L.setIfInBounds i true) e.on=true:=λk p hk hp e E H=>by
 rw[Inv.setL G I N]at hk ⊢;split;rfl;split at hk;rename_i h1;subst h1;rw[N.at']at hp;injection hp with hp;subst hp
 exact N.pre e E H;exact I.down k p hk hp e E H
theorem Inv.fe:Fe ρ (restr (st i).s.env (sees ops o)) n a:=⟨I.sz,λt x hx=>by
 rw[Qca]at hx;split at hx;rename_i H;refine I.env t i (Xu (Inv.lt G I N)) (λk p hp J=>?_) x hx;by_cases hk:k=i;subst hk;rw[N.un];exact⟨λh=>(by cases h),λh=>absurd h (Nat.lt_irrefl _)⟩;rcases G.stat.cmp hp N.at' J (.inl H) hk with⟨h1,h2⟩|⟨h1,h2⟩
 exact⟨λ_=>h1,λ_=>Inv.pre G I N k h2⟩;refine⟨λE=>?_,λE=>by omega⟩;rw[Inv.ahead G I N k E (Qe.1 hp).1]at h2;cases h2;cases hx⟩
theorem Inv.want {b:Bool}(E:wantedV ops (st i).s.env o.guard=some b):Region.wanted o (yielded ops.toArray a.tmps)=b:=by
 rw[sees_want]at E;have:=o_aI (ops:=ops.toArray) (Inv.fe G I N) (o:=o) (b:=b) (by simpa using E);exact this
theorem Inv.envS {v:V}{u:Value}(hE:(st (i+1)).s.env=(st i).s.env.opt o.dst v)(hl:Le ρ ρ')(hu:cv ρ' v=some u)(ds:List Deferred):
  (({a with defers:=ds}:Act).put o.dst u).tmps.size=n/\∀t j,j<=ops.length->(∀k p,ops[k]?=some p->p.dst=some t->(Ls (L.setIfInBounds i true) k=true↔k<j))->∀x,(st j).s.env.get t=some x->∃v,cv ρ' x=some v/\(({a with defers:=ds}:Act).put o.dst u).tmps[t]?=some v:=by
 have hlt:=Inv.lt G I N;have other: ∀t,o.dst≠some t->(({a with defers:=ds}:Act).put o.dst u).tmps[t]?=a.tmps[t]?:=λt E=>by
  cases H:o.dst with
  |none=>rfl
  |some d=>
   show(a.tmps.setIfInBounds d u)[t]?=a.tmps[t]?;exact Xh (by rintro rfl;exact E H)
 refine⟨by cases H:o.dst with|none=>exact I.sz|some d=>show(a.tmps.setIfInBounds d u).size=n;rw[Yy];exact I.sz,λt j W J x hx=>?_⟩;by_cases E:o.dst=some t;have hij:i<j:=(J i o N.at' E).1 (by rw[Inv.setL G I N,Qc rfl]);obtain⟨k,hk⟩: ∃k,j=i+1+k:=⟨j-(i+1),by omega⟩;subst hk;rw[G.tc.still k (i+1) W λm p h1 h2 hp H=>?_,hE,E]at hx;have hx:((st i).s.env.set t v).get t=some x:=hx;rw[Env.get_set,Qc rfl]at hx;injection hx with hx;subst hx
 refine⟨u,hu,?_⟩;rw[E];show(a.tmps.setIfInBounds t u)[t]?=some u;have:=G.dst o (Qu N.at') t E;simp[I.sz,this];have Y:=(J m p hp H).2 h2;rw[Inv.setL G I N,Qb (by omega)]at Y;rcases G.stat.cmp hp N.at' H (.inr E) (by omega)with⟨h4,_⟩|⟨_,h5⟩
 omega;rw[Inv.ahead G I N m Y (by omega)]at h5;cases h5;obtain⟨v',h1,h2⟩:=I.env t j W (λk p hp H=>by
  have hk:k≠i:=by rintro rfl;rw[N.at']at hp;injection hp with hp;subst hp;exact E H
  rw[<-J k p hp H,Inv.setL G I N,Qb hk]) x hx
 exact⟨v',Qaj hl _ _ h1,by rw[other t E];exact h2⟩
theorem Inv.quiet {v:V}{u:Value}(hE:(st (i+1)).s.env=(st i).s.env.opt o.dst v)(W:(st (i+1)).cs=(st i).cs)(Y:(st (i+1)).xs=(st i).xs)(hu:cv ρ v=some u):
  Inv P w0 ops bs s0 q0 st n ρ0 h0 w00 (L.setIfInBounds i true) ρ cs1 cs2 (a.put o.dst u) w:=by
 have E:=Inv.lt G I N;obtain⟨A,hA,hA1,_⟩:=G.csAt (i:=i+1) E;obtain⟨_,_,_,hA2⟩:=G.csAt (i:=i) (Xu E);obtain⟨X,hX,hX1,_⟩:=G.xsAt (i:=i+1) E;obtain⟨_,_,_,hX2⟩:=G.xsAt (i:=i) (Xu E);have H: ∀c∈(st ops.length).cs,c.1≠i:=λc H=>by
  rw[hA,W]at H;rcases Q8.1 H with H|H
  have:=(hA1 c H).1;omega;have:=hA2 c H;omega
 have hx: ∀x∈(st ops.length).xs,x.1≠i:=λx hx=>by
  rw[hX,Y]at hx;rcases Q8.1 hx with hx|hx
  have:=hX1 x hx;omega;have:=hX2 x hx;omega
 have J:=Inv.setL G I N;have hlay:lay (behind s0 cs2).h (Ls (L.setIfInBounds i true)) (st ops.length).xs=lay (behind s0 cs2).h (Ls L) (st ops.length).xs:=Qep _ λx h1=>by rw[J,Qb (hx x h1)]
 obtain⟨e1,e2⟩:=Inv.envS G I N hE (Le.refl ρ) hu a.defers;exact {
     size:=by rw[Yy];exact I.size,down:=Inv.downS G I N,split:=I.split
     no:=λc h1=>by rw[J,Qb (H c (by rw[I.split];exact Ws _ h1))];exact I.no c h1
     yes:=λc h1=>by rw[J];split<;>first|rfl|exact I.yes c h1
     hr:=by rw[hlay];exact I.hr
     nx:=I.nx
     ds:=by cases hd:o.dst with|none=>exact I.ds|some d=>exact I.ds
     sz:=e1,env:=e2
     fut:=λx h1 h2=>I.fut x h1 (by rw[J,Qb (hx x h1)]at h2;exact h2)
     hid:=I.hid,shown:=I.shown
     tr:=by rw[hlay];exact I.tr}
theorem Inv.make {v:V}{u:Value}{ob:O}{obj:Obj}{x:Pl}(hE:(st (i+1)).s.env=(st i).s.env.opt o.dst v)(hcs:(st (i+1)).cs=(st i).cs)(hxs:(st (i+1)).xs=(i,(st i).q,ob)::(st i).xs)
  (hx:x.b=w.heap.size) (ho:OR P (ρ.add (st i).q x) (w.alloc obj) x ob) (hu:cv (ρ.add (st i).q x) v=some u):
  Inv P w0 ops bs s0 q0 st n ρ0 h0 w00 (L.setIfInBounds i true) (ρ.add (st i).q x) cs1 cs2 (a.put o.dst u) (w.alloc obj):=by
 have W:=Inv.lt G I N;obtain⟨A,hA,hA1,_⟩:=G.csAt (i:=i+1) W;obtain⟨_,_,_,hA2⟩:=G.csAt (i:=i) (Xu W);obtain⟨X,hX,hX1,_⟩:=G.xsAt (i:=i+1) W;obtain⟨_,_,_,hX2⟩:=G.xsAt (i:=i) (Xu W);rw[hxs]at hX;have H: ∀c∈(st ops.length).cs,c.1≠i:=λc H=>by
  rw[hA,hcs]at H;rcases Q8.1 H with H|H
  have:=(hA1 c H).1;omega;have:=hA2 c H;omega
 have Y:(i,(st i).q,ob)∈(st ops.length).xs:=by rw[hX];simp
 have hone: ∀y∈(st ops.length).xs,y.1=i->y=(i,(st i).q,ob):=λy E h1=>by
  rw[hX]at E;rcases Q8.1 E with E|E
  have:=hX1 y E;omega;rcases Qn.1 E with E|E
  exact E;have:=hX2 y E;omega
 obtain⟨hnm,J⟩:=G.names;obtain⟨_,hq1,hq2⟩:=hnm _ Y;have hname: ∀y∈(st ops.length).xs,y.2.1=(st i).q->y=(i,(st i).q,ob):=λy E h1=>by
  rw[hX]at E J;obtain⟨_,h2,h3⟩:=List.pairwise_append.1 J;rcases Q8.1 E with E|E
  exact absurd h1 (h3 y E _ (Qh ..));rcases Qn.1 E with E|E
  exact E;exact absurd h1.symm ((Wa.1 h2).1 y E)
 have hS:=Inv.setL G I N;have hq:ρ (st i).q=none:=I.fut _ Y N.un;have hhid:(behind s0 cs2).h.get (st i).q=none:=I.hid _ Y λc H=>by
  have hcc:c∈(st ops.length).cs:=by rw[I.split];exact Q6 _ H
  rw[hA]at hcc;refine Inv.ahead G I N c.1 (I.yes c H) ?_;rcases Q8.1 hcc with h1|h1
  exact(hA1 c h1).2;rw[hcs]at h1;have:=hA2 c h1;omega
 have hgone:(lay (behind s0 cs2).h (Ls L) (st ops.length).xs).get (st i).q=none:=by
  cases hg:(lay (behind s0 cs2).h (Ls L) (st ops.length).xs).get (st i).q with
  |none=>rfl
  |some p=>
   rcases Qah _ hg with h1|⟨_,j,h1,h2⟩
   rw[hhid]at h1;cases h1;have:=hname _ h1 rfl;injection this with h3 _
   rw[h3,N.un]at h2;cases h2
 have hsome:(lay (behind s0 cs2).h (Ls (L.setIfInBounds i true)) (st ops.length).xs).get (st i).q=some ob:=Qcl _ J hhid Y (by rw[hS,Qc rfl]);have hsame: ∀k,k≠(st i).q->(lay (behind s0 cs2).h (Ls (L.setIfInBounds i true)) (st ops.length).xs).get k=(lay (behind s0 cs2).h (Ls L) (st ops.length).xs).get k:=λk hk=>by
  cases hg:(lay (behind s0 cs2).h (Ls L) (st ops.length).xs).get k with
  |some p=>
   rcases Qah _ hg with h1|⟨h0,j,h1,h2⟩
   exact Qbx _ h1;exact Qcl _ J h0 h1 (by rw[hS];split<;>first|rfl|exact h2)
  |none=>
   cases hg':(lay (behind s0 cs2).h (Ls (L.setIfInBounds i true)) (st ops.length).xs).get k with
   |none=>rfl
   |some p=>
    rcases Qah _ hg' with h1|⟨h0,j,h1,h2⟩
    rw[Qbx _ h1]at hg;cases hg;rw[hS]at h2;split at h2;rename_i hj;have:=hone _ h1 hj;injection this with _ h3
    injection h3 with h3 _
    exact absurd h3 hk;rw[Qcl _ J h0 h1 h2]at hg;cases hg
 have hcase: ∀k p,(lay (behind s0 cs2).h (Ls (L.setIfInBounds i true)) (st ops.length).xs).get k=some p->(k=(st i).q/\p=ob)\/(k≠(st i).q/\(lay (behind s0 cs2).h (Ls L) (st ops.length).xs).get k=some p):=λk p hk=>by
  by_cases h1:k=(st i).q;subst h1;rw[hsome]at hk;injection hk with hk;exact .inl ⟨rfl,hk.symm⟩
  rw[hsame k h1]at hk;exact .inr ⟨h1,hk⟩
 have hle:Le ρ (ρ.add (st i).q x):=Rho.le_add hq;obtain⟨e1,e2⟩:=Inv.envS G I N hE hle hu a.defers;exact {
     size:=by rw[Yy];exact I.size,down:=Inv.downS G I N,split:=I.split
     no:=λc h1=>by rw[hS,Qb (H c (by rw[I.split];exact Ws _ h1))];exact I.no c h1
     yes:=λc h1=>by rw[hS];split<;>first|rfl|exact I.yes c h1
     hr:=I.hr.allocAt hq (Qw hq2 I.nx) obj ob x hx ho hcase
     nx:=I.nx
     ds:=Qbk hle (by cases hd:o.dst with|none=>exact I.ds|some d=>exact I.ds)
     sz:=e1,env:=e2
     fut:=λy h1 h2=>by
      rw[hS]at h2
      split at h2
      cases h2
      rename_i hj
      rw[Rho.add_other (λh3=>hj (by rw[hname y h1 h3]))]
      exact I.fut y h1 h2
     hid:=I.hid,shown:=I.shown
     tr:=I.tr.then (Tr.allocAt I.hr hq hq1 (Wb hq1 (Wb (Xu hq2) I.nx)) (Wb G.lo hq1) obj ob x hx hcase hsame)}
end
end
def lay_low {h:T O}{p:Nat->Bool}{xs:List (Nat×Nat×O)}{k:Nat}(hk: ∀x∈xs,x.2.1≠k):(lay h p xs).get k=h.get k:=by
 cases E:(lay h p xs).get k with
 |some o=>
  rcases Qah _ E with h1|⟨_,j,h1,_⟩
  exact h1.symm;exact absurd rfl (hk _ h1)
 |none=>
  cases hg':h.get k with
  |none=>rfl
  |some o=>rw[Qbx _ hg']at E;cases E
section
variable {P:QR}{C:Cx}{ih:Job->Option Rs}{w0:World}{ops:QT}{bs:QM}{s0:S}{q0:Nat}{st:Nat->D}{n:Nat}
def Tc.noQ (h:Tc C ih ops bs s0 q0 st): ∀(i:Nat),i<=ops.length->∀x∈(st i).xs,Go.M.noQ x.2.2=true
 |0,_,x,hx=>by rw[h.beg]at hx;cases hx
 |i+1,J,x,hx=>by
  have E:i<ops.length:=by omega
  have h1:=h.noQ i (by omega);have H:=h.ran _ _ (Qj E);generalize st (i+1)=d' at H hx;cases H with
  |off _=>exact h1 x hx
  |look _ _=>exact h1 x hx
  |eff _ _ _ _=>exact h1 x hx
  |made _ _ hq=>
   rcases Qn.1 hx with rfl|hx
   exact hq;exact h1 x hx
section
variable {ρ0:Rho}{h0:T O}{w00:World}{L:Array Bool}{ρ ρ':Rho}{cs1 cs2:List (Nat×S)}{a:Act}{w w':World}{i:Nat}{o:Oper}
variable (G:Good C ih ops bs s0 q0 st n)(I:Inv P w0 ops bs s0 q0 st n ρ0 h0 w00 L ρ cs1 cs2 a w)(N:Next ops L i o)
include G I N
theorem Inv.small {xs:List (Nat×Nat×O)}(hx: ∀x∈xs,x∈(st ops.length).xs): ∀k p,(lay (behind s0 cs2).h (tst (bs.getD i 0)) xs).get k=some p->(lay (behind s0 cs2).h (Ls L) (st ops.length).xs).get k=some p:=λk p hk=>by
 rcases Qah _ hk with h1|⟨h1,j,h2,E⟩
 exact Qbx _ h1;exact Qcl _ G.names.2 h1 (hx _ h2) (Inv.pre G I N j E)
theorem Inv.cs2lt: ∀c∈cs2,c.1<ops.length:=λc H=>by
 obtain⟨A,J,E,_⟩:=G.csAt (i:=0) (Ya _);have h1:c∈(st ops.length).cs:=by rw[I.split];exact Q6 _ H
 rw[J,G.tc.beg]at h1;exact(E c (by simpa using h1)).2
theorem Inv.look {v:V}(Y:(i,o.op,(st i).s.env,v)∈(st ops.length).rs)(hl:look1 C (st i).s.env (lay (st i).s.h (tst (bs.getD i 0)) (st i).xs) o.op (cls o.op)=some v):
  look1 C (st i).s.env (lay (behind s0 cs2).h (tst (bs.getD i 0)) (st ops.length).xs) o.op (cls o.op)=some v:=by
 have H:=Inv.lt G I N;have E:=G.re _ Y;unfold reread at E;dsimp only at E;cases J:Nat.beq (cls o.op) 0 with
 |true=>
  rw[Qk J]at hl ⊢;exact hl
 |false=>
  rw[J,cond_false]at E;unfold reread2 at E;rw[Qfh,Qfh,Qfh]at E;have bnd: ∀{A B:List (Nat×S)},(st ops.length).cs=A++B->(∀c∈A,tst (bs.getD i 0) c.1=false)->(∀c∈B,tst (bs.getD c.1 0) i=false)->
    ((st ops.length).cs.filter λc=>tst (bs.getD i 0) c.1).length<=B.length/\B.length<=(st ops.length).cs.length -((st ops.length).cs.filter λc=>tst (bs.getD c.1 0) i).length:=λ{A B} hs h1 h2=>by
   rw[hs];refine⟨Qlh h1,?_⟩;have:=filter_right (A:=A) (B:=B) (p:=λc=>tst (bs.getD c.1 0) i) h2;rw[Qz];omega
  obtain⟨b1,b2⟩:=bnd I.split (λc J=>by
   cases W:tst (bs.getD i 0) c.1 with
   |false=>rfl
   |true=>have:=Inv.pre G I N c.1 W;rw[I.no c J]at this;cases this) (λc J=>Inv.ahead G I N c.1 (I.yes c J) (Inv.cs2lt G I N c J))
  obtain⟨A,hA,hA1,hA2⟩:=G.csAt (i:=i) (Xu H);obtain⟨X,hX,hX1,hX2⟩:=G.xsAt (i:=i) (Xu H);cases he:Nat.beq ((st ops.length).cs.filter λc=>tst (bs.getD i 0) c.1).length ((st ops.length).cs.length -((st ops.length).cs.filter λc=>tst (bs.getD c.1 0) i).length)with
  |true=>
   have he:=Qk he;obtain⟨b3,b4⟩:=bnd hA (λc J=>by
    cases W:tst (bs.getD i 0) c.1 with
    |false=>rfl
    |true=>have:=G.stat.lt i c.1 H W;have:=(hA1 c J).1;omega) (λc J=>by
    cases W:tst (bs.getD c.1 0) i with
    |false=>rfl
    |true=>have h1:=hA2 c J;have:=G.stat.lt c.1 i (by omega) W;omega)
   have e1:cs2=(st i).cs:=(List.append_inj' (I.split.symm.trans hA) (by omega)).2;have e2:(st i).s.h=(behind s0 cs2).h:=by
    have:=G.tc.mem i (Xu H);rw[e1,this]
   rw[hX,lay_skip _ _ λx hx=>?_,<-e2];exact hl;cases W:tst (bs.getD i 0) x.1 with
   |false=>rfl
   |true=>have:=G.stat.lt i x.1 H W;have:=hX1 x hx;omega
  |false=>
   rw[he,cond_false]at E;have h1:=Q5.1 E (cs2.length-((st ops.length).cs.filter λc=>tst (bs.getD i 0) c.1).length) (Yj.2 (by omega));have e1:(st ops.length).cs.length -(((st ops.length).cs.filter λc=>tst (bs.getD i 0) c.1).length+(cs2.length-((st ops.length).cs.filter λc=>tst (bs.getD i 0) c.1).length))=cs1.length:=by
    have:=Wq List.length I.split;rw[Qz]at this;omega
   rw[e1,I.split,drop_left]at h1;unfold same1 at h1;split at h1;rename_i u hu;rw[hu,<-Qex _ _ h1];cases h1
theorem Inv.chg {v:V}{s1:S}(hE:(st (i+1)).s.env=(st i).s.env.opt o.dst v)(hcs:(st (i+1)).cs=(i,s1)::(st i).cs)(hxs:(st (i+1)).xs=(st i).xs)
  (hall: ∀c∈(st i).cs,tst (bs.getD i 0) c.1=true) (hth: ∀x∈(st i).xs,tst (bs.getD i 0) x.1=true->(s1.h.get x.2.1).isSome=true):cs2=(st i).cs/\
  ∀{ρ':Rho} {w':World} {u:Value} {ds':List Deferred},cv ρ' v=some u->HR P w0 ρ' s1.h s1.nx w'->dcl ρ' s1.ds ds'->Tr ρ (lay (behind s0 cs2).h (tst (bs.getD i 0)) (st i).xs) (behind s0 cs2).nx w ρ' s1.h s1.nx w' s0.fl->
   ∃A,Inv P w0 ops bs s0 q0 st n ρ0 h0 w00 (L.setIfInBounds i true) ρ' A ((i,s1)::cs2) (({a with defers:=ds'}:Act).put o.dst u) w':=by
 have E:=Inv.lt G I N;obtain⟨A,hA,hA1,_⟩:=G.csAt (i:=i+1) E;obtain⟨_,_,_,hA2⟩:=G.csAt (i:=i) (Xu E);obtain⟨X,hX,hX1,_⟩:=G.xsAt (i:=i+1) E;obtain⟨_,_,_,hX2⟩:=G.xsAt (i:=i) (Xu E);rw[hcs]at hA;rw[hxs]at hX;have hin1:(i,s1)∈cs1:=by
  have:(i,s1)∈(st ops.length).cs:=by rw[hA];simp
  rw[I.split]at this;rcases Q8.1 this with h1|h1
  exact h1;have:=I.yes _ h1;rw[N.un]at this;cases this
 obtain⟨X1,Y,hXY⟩:=Jq hin1;have hsp:A++(i,s1)::(st i).cs=X1++(i,s1)::(Y++cs2):=by rw[<-hA,I.split,hXY];simp
 obtain⟨k1,_,k2⟩:=split_one (f:=Prod.fst) hsp rfl (λc hc=>by have:=(hA1 c hc).1;show c.1≠i;omega) (λc hc=>by have:=hA2 c hc;show c.1≠i;omega);have hY:Y=[]:=by
  cases hY:Y with
  |nil=>rfl
  |cons y r=>
   have h1:y∈(st i).cs:=by rw[k2,hY];simp
   have h2:=Inv.pre G I N y.1 (hall y h1);rw[I.no y (by rw[hXY,hY];simp)]at h2;cases h2
 have k3:cs2=(st i).cs:=by rw[k2,hY];rfl
 refine⟨k3,λ{ρ' w' u ds'} hcv hr' hds W=>⟨A,?_⟩⟩;have hS:=Inv.setL G I N;have hx: ∀x∈(st ops.length).xs,x.1≠i:=λx hx=>by
  rw[hX]at hx;rcases Q8.1 hx with hx|hx
  have:=hX1 x hx;omega;have:=hX2 x hx;omega
 have hsub: ∀x∈(st i).xs,x∈(st ops.length).xs:=λx h1=>by rw[hX];exact Q6 _ h1
 have hback: ∀x∈(st ops.length).xs,tst (bs.getD i 0) x.1=true->x∈(st i).xs:=λx h1 h2=>by
  rw[hX]at h1;rcases Q8.1 h1 with h1|h1
  have:=hX1 x h1;have:=G.stat.lt i x.1 E h2;omega;exact h1
 obtain⟨hnm,hpw⟩:=G.names;have hone: ∀x∈(st ops.length).xs,∀y∈(st ops.length).xs,x.2.1=y.2.1->x=y:=λx h1 y h2 H=>by
  have key: ∀{l:List (Nat×Nat×O)},l.Pairwise (λx y=>x.2.1≠y.2.1)->x∈l->y∈l->x=y:=λ{l}=>by
   induction l with
   |nil=>intro _ h;cases h
   |cons z r ihr=>
    intro hp hx hy;obtain⟨p1,p2⟩:=Wa.1 hp;rcases Qn.1 hx with e1|hx1
    rcases Qn.1 hy with e2|hy1
    exact e1.trans e2.symm;subst e1;exact absurd H (p1 y hy1);rcases Qn.1 hy with e2|hy1
    subst e2;exact absurd H.symm (p1 x hx1);exact ihr p2 hx1 hy1
  exact key hpw h1 h2
 have far: ∀x∈(st ops.length).xs,tst (bs.getD i 0) x.1=false->∀c∈cs2,tst (bs.getD c.1 0) x.1=false:=λx h1 h2 c hc=>by
  cases J:tst (bs.getD c.1 0) x.1 with
  |false=>rfl
  |true=>rw[G.stat.tr i c.1 x.1 E (hall c (by rw[<-k3];exact hc)) J]at h2;cases h2
 have hsn: ∀x∈(st ops.length).xs,tst (bs.getD i 0) x.1=false->(lay (behind s0 cs2).h (tst (bs.getD i 0)) (st i).xs).get x.2.1=none:=λx h1 h2=>by
  cases hg:(lay (behind s0 cs2).h (tst (bs.getD i 0)) (st i).xs).get x.2.1 with
  |none=>rfl
  |some p=>
   rcases Qah _ hg with H|⟨_,j,H,h4⟩
   rw[I.hid x h1 (far x h1 h2)]at H;cases H;have:=hone _ (hsub _ H) x h1 rfl;rw[<-this]at h2;have h2:tst (bs.getD i 0) j=false:=h2;rw[h4]at h2;cases h2
 have hfl: ∀{h:T O} {p:Nat->Bool} {xs:List (Nat×Nat×O)} {k:Nat},(∀x∈xs,x∈(st ops.length).xs)->k<s0.fl->(lay h p xs).get k=h.get k:=λ{h p xs k} hx hk=>lay_low λx h1=>by
  have:=(hnm x (hx x h1)).2.1;have:=G.lo;omega
 obtain⟨g1,g2⟩:=HR.spread (h2:=lay s1.h (Ls (L.setIfInBounds i true)) (st ops.length).xs) I.hr (Inv.small G I N hsub) hr' W (λk p hk=>by
  rcases Qah _ hk with h1|⟨h1,j,h2,H⟩
  exact .inl h1;have hji:j≠i:=hx _ h2;rw[hS,Qb hji]at H;have J:tst (bs.getD i 0) j=false:=by
   cases J:tst (bs.getD i 0) j with
   |false=>rfl
   |true=>
    have h4:=hth _ (hback _ h2 J) J;have h4:(s1.h.get k).isSome=true:=h4;rw[h1]at h4;cases h4
  exact .inr ⟨Qcl _ hpw (I.hid _ h2 (far _ h2 J)) h2 H,hsn _ h2 J,G.tc.noQ _ (Qr _) _ h2⟩) (λk hk=>⟨hfl (λ_ h=>h) hk,by rw[hfl hsub hk,hfl (λ_ h=>h) hk]⟩)
 obtain⟨e1,e2⟩:=Inv.envS G I N hE W.le hcv ds';have hnx0:q0<=(behind s0 cs2).nx:=by have:=G.rm;have:=I.nx;omega
 exact {
     size:=by rw[Yy];exact I.size,down:=Inv.downS G I N,split:=by rw[hA,k3]
     no:=λc h1=>by rw[hS,Qb (by have:=(hA1 c h1).1;omega)];exact I.no c (by rw[hXY,<-k1];exact Ws _ h1)
     yes:=λc h1=>by
      rw[hS]
      rcases Qn.1 h1 with rfl|h1
      rw[Qc rfl]
      (split)
      rfl
      exact I.yes c h1
     hr:=g1
     nx:=Wb I.nx W.nx
     ds:=by cases hd:o.dst with|none=>exact hds|some d=>exact hds
     sz:=e1,env:=e2
     fut:=λx h1 h2=>by
      rw[hS,Qb (hx x h1)]at h2
      exact W.new _ (Qw (hnm x h1).2.2 I.nx) (I.fut x h1 h2)
     hid:=λx h1 h2=>by
      have J:tst (bs.getD i 0) x.1=false:=h2 (i,s1) (Qh ..)
      show s1.h.get x.2.1=none
      cases hg:s1.h.get x.2.1 with
      |none=>rfl
      |some p=>
       obtain⟨_,y,hy,_⟩:=hr'.live _ p hg
       cases hL:Ls L x.1 with
       |false=>rw[W.new _ (Qw (hnm x h1).2.2 I.nx) (I.fut x h1 hL)]at hy;cases hy
       |true=>
        have hbig:(lay (behind s0 cs2).h (Ls L) (st ops.length).xs).get x.2.1=some x.2.2:=Qcl _ hpw (I.hid x h1 (far x h1 J)) h1 hL
        obtain⟨_,y',hy',_,hlt',_⟩:=I.hr.live _ _ hbig
        have:=W.le _ _ hy'
        rw[hy]at this;injection this with this;subst this
        obtain⟨j,p',z,j1,j2,j3⟩:=W.own _ p y hg hy hlt'
        have:=I.hr.inj j x.2.1 p' x.2.2 z y (Inv.small G I N hsub _ _ j1) hbig j2 hy' j3
        rw[this,hsn x h1 J]at j1
        cases j1
     shown:=λx h1 c h2 H=>by
      have J:tst (bs.getD i 0) x.1=true:=by
       rcases Qn.1 h2 with rfl|h2
       exact H
       exact G.stat.tr i c.1 x.1 E (hall c (by rw[<-k3];exact h2)) H
      exact hth x (hback x h1 J) J
     tr:=I.tr.then (g2.low hnx0)}
end
end
def cntF:List Bool->Nat
 | []=>0
 |b::r=>(if b=true then 0 else 1)+cntF r
def cntF_set: ∀(l:List Bool) (i:Nat),l[i]?=some false->cntF (l.set i true)+1=cntF l
 | [],_,h=>by simp at h
 |b::r,0,h=>by
  simp only[Wp,Qg]at h;subst h;simp[cntF];omega
 |b::r,i+1,h=>by
  have:=cntF_set r i (by simpa using h);simp only[List.set_cons_succ,cntF];omega
def cntF_0: ∀(l:List Bool),cntF l=0->∀i:Nat,l[i]?≠some false
 | [],_,i=>by simp
 |b::r,h,i=>by
  unfold cntF at h;cases i with
  |zero=>intro h1;simp only[Wp,Qg]at h1;subst h1;simp at h
  |succ i=>intro h1;exact cntF_0 r (by omega) i (by simpa using h1)
def cntF_rep: ∀n,cntF (List.replicate n false)=n
 |0=>rfl
 |n+1=>by rw[List.replicate_succ];unfold cntF;rw[cntF_rep n];simp;omega
section
variable {P:QR}{C:Cx}{ih:Job->Option Rs}{w0:World}{ops:QT}{bs:QM}{s0:S}{q0:Nat}{st:Nat->D}{n:Nat}{r:QN}{Q:QG}
variable {ρ0:Rho}{h0:T O}{w00:World}{L:Array Bool}{ρ ρ':Rho}{cs1 cs2:List (Nat×S)}{a:Act}{w w':World}{i:Nat}{o:Oper}
def Inv' (P:QR)(w0:World)(ops:QT)(bs:QM)(s0:S)(q0:Nat)(st:Nat->D)(n:Nat)(ρ0:Rho)(h0:T O)(w00:World)(L:Array Bool)(a:Act)(w:World):Prop:=∃ρ cs1 cs2,Inv P w0 ops bs s0 q0 st n ρ0 h0 w00 L ρ cs1 cs2 a w
def Inv.one (hC:OKC P C)(hi:Sd P C ih)(hrd:r.isSome=s0.rd)(G:Good C ih ops bs s0 q0 st n)(I:Inv P w0 ops bs s0 q0 st n ρ0 h0 w00 L ρ cs1 cs2 a w)(N:Next ops L i o):
  wpOpIn (FW r) 0 P ops.toArray Q i (λa' w'=>Inv' P w0 ops bs s0 q0 st n ρ0 h0 w00 (L.setIfInBounds i true) a' w') a w:=by
 have E:=Inv.lt G I N;have hran:=G.tc.ran i o N.at';have H:=Inv.fe G I N;have hsub: ∀x∈(st i).xs,x∈(st ops.length).xs:=λx h1=>by
  obtain⟨A,Y,_⟩:=G.xsAt (i:=i) (Xu E);rw[Y];exact Q6 _ h1
 have J:=sees_ag (ops:=ops) (st i).s.env o;unfold wpOpIn;rw[show ops.toArray[i]?=some o by simpa using N.at'];dsimp only;obtain⟨d',hd'⟩: ∃d',d'=st (i+1):=⟨_,rfl⟩;rw[<-hd']at hran;cases hran with
 |off W=>
  rw[Inv.want G I N W,Qb (by decide)];refine⟨λ_ _=>trivial,ρ,cs1,cs2,Inv.quiet G I N (v:=un) ?_ ?_ ?_ Qft⟩;rw[<-hd'];exact Qbv _ _ _;rw[<-hd'];rw[<-hd']
 | @made v x W hl hq=>
  rw[Inv.want G I N W,Qc rfl];have hin:(i,(st i).q,x)∈(st ops.length).xs:=by
   obtain⟨A,Y,_⟩:=G.xsAt (i:=i+1) E;rw[Y,<-hd'];simp
  obtain⟨obj,pl,u,h1,h2,h3,h4⟩:=o_bu hC I.hr (I.fut _ hin N.un) H (alloc1_cg (m':=lay (behind s0 cs2).h (Ls L) (st ops.length).xs) J hl hq);obtain⟨dst,op,T,pos,af,gd⟩:=o;refine Qbo (h4 dst T pos af gd) (λ_ h=>by cases h) ⟨_,cs1,cs2,Inv.make G I N (v:=v) ?_ ?_ ?_ h1 h2 h3⟩;rw[<-hd'];exact Qbv _ _ _;rw[<-hd'];rw[<-hd']
 | @look v W hl=>
  rw[Inv.want G I N W,Qc rfl];have hrs:(i,o.op,(st i).s.env,v)∈(st ops.length).rs:=by
   obtain⟨k,hk⟩: ∃k,ops.length=i+1+k:=⟨ops.length-(i+1),by omega⟩;obtain⟨A,Y⟩:=G.tc.rs k (i+1) (by omega);rw[hk,Y,<-hd'];simp
  have h5:=Inv.look G I N hrs hl;rw[look1_cg J]at h5;obtain⟨u,h1,h2⟩:=o_bT hC (I.hr.sub (Inv.small G I N (λ_ h=>h))) H h5;obtain⟨dst,op,T,pos,af,gd⟩:=o;refine Qbo (h2 dst T pos af gd) (λ_ h=>by cases h) ⟨ρ,cs1,cs2,Inv.quiet G I N (v:=v) ?_ ?_ ?_ h1⟩;rw[<-hd'];exact Qbv _ _ _;rw[<-hd'];rw[<-hd']
 | @eff v s1 W hall he hth=>
  rw[Inv.want G I N W,Qc rfl];have hm:=G.tc.mem i (Xu E);have hs1:s1.env=(st i).s.env:=by rw[hm]at he;rw[(eff_cg (e':=.o) he).1]
  obtain⟨k3,hgo⟩:=Inv.chg G I N (v:=v) (s1:=s1) (by rw[<-hd'];show(s1.upo o.dst v).env=_;rw[Qbv,hs1]) (by rw[<-hd']) (by rw[<-hd']) hall hth;rw[<-k3]at hm;have he2:eff C ih ⟨(st i).s.env,(behind s0 cs2).ds,lay (behind s0 cs2).h (tst (bs.getD i 0)) (st i).xs,(behind s0 cs2).nx,s0.rd,s0.fl⟩ o.op=some (v,s1):=by rw[hm]at he;exact he
  have he3:=(eff_cg he2).2 J;have hfl:s0.fl<=(behind s0 cs2).nx:=by have:=G.lo;have:=G.rm;have:=I.nx;omega
  have hst:St P w0 ρ n ⟨restr (st i).s.env (sees ops o),(behind s0 cs2).ds,lay (behind s0 cs2).h (tst (bs.getD i 0)) (st i).xs,(behind s0 cs2).nx,s0.rd,s0.fl⟩ a w:=⟨H,I.ds,I.hr.sub (Inv.small G I N hsub),hfl⟩;obtain⟨dst,op,T,pos,af,gd⟩:=o;refine o_c3 hC hi hst hrd he3 λρ' w' u ds' h1 h2 h3 h4 h5=>?_;obtain⟨A,hI⟩:=hgo h1 h2.hr h2.ds h3;exact⟨ρ',A,_,hI⟩
def Inv.hel (hC:OKC P C)(hi:Sd P C ih)(hrd:r.isSome=s0.rd)(G:Good C ih ops bs s0 q0 st n)(hQ: ∀L a w,(∀i,i<ops.length->Ls L i=true)->Inv' P w0 ops bs s0 q0 st n ρ0 h0 w00 L a w->Q .normal a w):
  ∀(f:Nat) (L:Array Bool) (a:Act) (w:World),cntF L.toList=f->Inv' P w0 ops bs s0 q0 st n ρ0 h0 w00 L a w->Hel r P ops.toArray Q (λ_=>True) f L a w:=by
 have next: ∀{L:Array Bool} {i:Nat},i∈Region.ready .any ops.toArray L->∃o,Next ops L i o:=λ{L i} hi=>by
  obtain⟨h1,o,h2,h3⟩:=mem_ready.1 hi;refine⟨o,by simpa using h2,?_,h3⟩;unfold Ls;rw[Q1]at h1 ⊢;cases hg:L[i]? with
  |none=>rw[hg]at h1;cases h1
  |some b=>rw[hg]at h1;exact h1
 have all: ∀{L:Array Bool} {a:Act} {w:World},Inv' P w0 ops bs s0 q0 st n ρ0 h0 w00 L a w->Region.ready .any ops.toArray L=[]->∀i,i<ops.length->Ls L i=true:=λ{L a w} H J i=>by
  obtain⟨ρ,cs1,cs2,I⟩:=H;induction i using Nat.strongRecOn with
  |_ i ihi=>
   intro E;cases Y:Ls L i with
   |true=>rfl
   |false=>
    have W:i∈Region.ready .any ops.toArray L:=mem_ready.2 ⟨by
     unfold Ls at Y;rw[Q1]at Y ⊢;have:i<L.size:=by rw[I.size];exact E
     rw[Wg this]at Y ⊢;exact Y,ops[i],by simp[E],λe he hb=>by
     have h1:=G.stat.edge i _ e (Qj E) he hb;exact ihi e.on h1 (by omega)⟩
    rw[J]at W;cases W
 intro f;induction f with
 |zero=>
  intro L a w hf H;have J:Region.ready .any ops.toArray L=[]:=by
   cases J:Region.ready .any ops.toArray L with
   |nil=>rfl
   |cons i l=>
    obtain⟨o,N⟩:=next (L:=L) (i:=i) (by rw[J];exact Qh ..)
    obtain⟨_,_,_,I⟩:=H;have E:i<L.size:=by rw[I.size];exact(Qe.1 N.at').1
    have h1:=N.un;unfold Ls at h1;rw[Q1,Wg E]at h1;exact absurd (by rw[Wi,Wg E];exact Wq some h1) (cntF_0 _ hf i)
  exact⟨J,hQ L a w (all H J) H⟩
 |succ f ihf=>
  intro L a w hf H;refine⟨λJ=>hQ L a w (all H J) H,λi hi'=>?_⟩;obtain⟨o,N⟩:=next hi'
  obtain⟨ρ,cs1,cs2,I⟩:=H;refine wpOpIn_mono (λa' w' hI'=>⟨trivial,ihf _ a' w' ?_ hI'⟩) (Inv.one hC hi hrd G I N);have E:i<L.size:=by rw[I.size];exact(Qe.1 N.at').1
  have h1:=N.un;unfold Ls at h1;rw[Q1,Wg E]at h1;have:=cntF_set L.toList i (by rw[Wi,Wg E];exact Wq some h1);rw[Array.toList_setIfInBounds];omega
end
def drOk {P:QR}{C:Cx}{ih:Job->Option Rs}(hC:OKC P C)(hi:Sd P C ih):DrOk P C ih:=by
 intro ops s s' H w0 ρ n id a w r J hrd E;unfold drawn at H;split at H
 ·rename_i bs hbs
  unfold dRun0 dEnd at H;split at H
  ·rename_i d hd
   obtain⟨hre,h1⟩:=Qaa H;injection h1 with h1
   subst h1;obtain⟨st,g1,W,g3⟩:=Qjn _ 0 _ _ hd;rw[Wl]at W;have J:(ops.toList.all λo=>match o.dst with|some d=>Nat.blt d n|none=>true)=true:=J;have hlen:ops.size=ops.toList.length:=by simp
   have G:Good C ih ops.toList bs (s.sethn s.h (s.nx+cnt ops.toList)) s.nx st n:=by
    refine⟨o_dU hbs,⟨λi o Y=>by have:=g3 i o Y;rwa[Wl]at this,g1⟩,λx hx=>?_,λo Y d hod=>?_,E.fl,by show s.nx+ops.toList.length<=s.nx+cnt ops.toList;rw[Qfh];exact Qr _⟩;rw[W]at hx ⊢;exact Q5.1 hre x hx;have:=Q5.1 J o Y;rw[hod]at this;exact Qm this
   have hLs: ∀k,Ls (Array.replicate ops.toList.length false) k=false:=λk=>by
    unfold Ls;rw[Q1];rw[Array.getElem?_replicate];split<;>rfl
   refine wpIn_region_any hC.mixed (Hel.any (S:=λ_=>True) _ _ _ _ ?_);have hw:HR P w0 ρ s.h s.nx ({w with drawn:=w.drawn+1}:World):=E.hr.heap rfl rfl rfl rfl;have key:Hel r P ops.toList.toArray (λe a' w'=>e=.normal/\To P w0 ρ n s w (d.s.seth (lay d.s.h (λ_=>true) d.xs)) a' w') (λ_=>True) ops.size (Array.replicate ops.toList.length false) a {w with drawn:=w.drawn+1}:=by
    refine Inv.hel (s0:=s.sethn s.h (s.nx+cnt ops.toList)) (w0:=w0) (ρ0:=ρ) (h0:=s.h) (w00:=w) hC hi hrd G (λL a' w' hall hI=>⟨rfl,?_⟩) _ _ _ _ (by rw[Array.toList_replicate,cntF_rep,hlen]) ?_;rotate_left;obtain⟨ρ',cs1,cs2,I⟩:=hI;have hcs1:cs1=[]:=by
     cases cs1 with
     |nil=>rfl
     |cons c l=>
      obtain⟨A,hA,hA1,_⟩:=G.csAt (i:=0) (Ya _);have h1:c∈(st ops.toList.length).cs:=by rw[I.split];simp
      rw[hA,G.tc.beg]at h1;have:=hall c.1 (hA1 c (by simpa using h1)).2;rw[I.no c (Qh ..)]at this;cases this
    subst hcs1;have hcs2:cs2=d.cs:=by rw[<-W,I.split];rfl
    have hm:=G.tc.mem _ (Qr _);rw[W,<-hcs2]at hm;have hlay:lay (behind (s.sethn s.h (s.nx+cnt ops.toList)) cs2).h (Ls L) (st ops.toList.length).xs=lay d.s.h (λ_=>true) d.xs:=by
     rw[hm,W];exact Qep _ λx hx=>hall x.1 (G.names.1 x (by rw[W];exact hx)).1
    have hnx:(behind (s.sethn s.h (s.nx+cnt ops.toList)) cs2).nx=d.s.nx:=by rw[hm]
    have hds:(behind (s.sethn s.h (s.nx+cnt ops.toList)) cs2).ds=d.s.ds:=by rw[hm]
    refine⟨ρ',⟨⟨I.sz,λt x hx=>?_⟩,?_,?_,?_⟩,?_,?_,?_⟩;refine I.env t ops.toList.length (Qr _) (λk o Y _=>?_) x (by rw[W];exact hx);have:=(Qe.1 Y).1;exact⟨λ_=>this,λ_=>hall k this⟩;have:=I.ds;rw[hds]at this;exact this;have:=I.hr;rw[hlay,hnx]at this;exact this;show d.s.fl<=d.s.nx;rw[<-hnx];have:=I.nx;have h2:d.s.fl=s.fl:=by rw[hm];rfl
    rw[h2];have h3:s.nx<=(s.sethn s.h (s.nx+cnt ops.toList)).nx:=Nat.le_add_right _ _;exact Wb E.fl (Wb h3 this);have:=I.tr;rw[hlay,hnx]at this;exact this;show d.s.rd=s.rd;rw[hm];rfl;show d.s.fl=s.fl;rw[hm];rfl;have hlay: ∀xs:List (Nat×Nat×O),lay s.h (Ls (Array.replicate ops.toList.length false)) xs=s.h:=λxs=>by
     have:=lay_skip (h:=s.h) (p:=Ls (Array.replicate ops.toList.length false)) xs [] λx _=>hLs x.1;rw[Xy]at this;rw[this];rfl
    have hup:s.nx<=s.nx+cnt ops.toList:=Nat.le_add_right _ _;refine⟨ρ,(st ops.toList.length).cs,[],?_⟩;exact {
        size:=(by simp),down:=λk o hk=>(by rw[hLs]at hk;cases hk),split:=(by simp)
        no:=λc _=>hLs c.1,yes:=λc hc=>(by cases hc)
        hr:=by show HR P w0 ρ (lay s.h _ _) (s.nx+cnt ops.toList) _;rw[hlay];exact hw.up hup
        nx:=Qr _
        ds:=E.ds
        sz:=E.fe.size
        env:=λt j hj hw x hx=>by
         have:=G.tc.still j 0 (by omega) (t:=t) λk o _ h2 Y hd=>by
          have:=(hw k o Y hd).2 (by omega)
          rw[hLs]at this;cases this
         rw[Wl]at this
         rw[this,g1]at hx
         exact E.fe.get t x hx
        fut:=λx hx _=>E.hr.top _ (G.names.1 x hx).2.1
        hid:=λx hx _=>by
         show s.h.get x.2.1=none
         cases hg:s.h.get x.2.1 with
         |none=>rfl
         |some p=>have:=(E.hr.live _ p hg).1;have:=(G.names.1 x hx).2.1;omega
        shown:=λx _ c hc=>(by cases hc)
        tr:=by
         show Tr ρ s.h s.nx w ρ (lay s.h _ _) (s.nx+cnt ops.toList) _ s.fl
         rw[hlay]
         exact⟨Le.refl _,hup,Qr _,λ_ _ _=>rfl,λi o x h1 h2 _=>⟨i,o,x,h1,h2,rfl⟩,λ_ _=>rfl,λ_ _ _ _ _ _=>rfl,λ_ _ h=>h⟩}
   rw[Q9,<-hlen]at key;exact key
  cases H
 cases H
def o_dV {P:QR}{t:Nat}{I:Ti}(h:tiOf P t=some I):TOK P t I:=by
 unfold tiOf at h;split at h
 ·rename_i u i hu hi
  split at h
  ·rename_i z pl hz Y
   obtain⟨hb,h1⟩:=Qaa h;clear h;rw[Qd,Qd]at hb;obtain⟨⟨h2,J⟩,h4⟩:=hb;have h4:=Qk h4;injection h1 with h1
   subst h1;refine⟨hu,by simp[szB,hi],?_,⟨i,z,hi,hz,rfl,h2,λE=>?_,λE=>?_,rfl,rfl,h4⟩,λfs H=>?_,λW=>?_⟩;unfold aggB;rw[hu];cases u<;>rfl
   ·have E:isAg u=true:=E
    rw[E]at J;have J:isAggV z=true:=J;cases z<;>first|(cases J;done)|rfl
   have E:isAg u=false:=E;rw[E]at J;exact J;have H:u=.struct fs:=H;subst H;exact Y;have W:(!P.stoodInHeld t&& !P.eqGuardType P.depth t)=true:=W;rw[Qd]at W;exact⟨by simpa using W.1,by simpa using W.2⟩
  cases h
 cases h
def o_c7 {P:QR}(hm:P.follows .mixedOrders=true):OKC P (mkC P .lf) where
 ty t I h:=o_dV (tb_get _ _ _ _ h)
 fn i f h:=by
  have h:fnOf P i=some f:=tb_get _ _ _ _ h;unfold fnOf at h;split at h;rename_i g hg;cases hb:(g.name== "runtime.NumGoroutine")with
  |true=>rw[hb]at h;cases h
  |false=>
   rw[hb,cond_false]at h;injection h with h
   subst h;exact⟨hg,by simpa using hb⟩
  cases h
 mixed:=hm;gv g:=rfl
def run0_ok {P:QR}{n:Nat}{f:FuncId}{v:Value}(W:P.follows .mixedOrders=true)(h:run0 (mkC P .lf) n f=some (.k v))(w:World):
  Calls P f #[] w λe w'=>e=.returned v/\Ch [] w w':=by
 have H:=o_c7 W;have Y:=Sd.ai H (λih E=>drOk H E) (λih E=>mlOk H E) n;unfold run0 at h;split at h;rename_i v' h' nx' hc;injection h with h;subst h
 have hr:HR P w (λ_=>none) .lf 0 w:=⟨(λi o E=>by rw[T.get_lf]at E;cases E),(λi j o p x y E=>by rw[T.get_lf]at E;cases E),λ_ _=>rfl,λ_ _=>rfl,Qr _,rfl,rfl,rfl⟩;have h1:=Y.call hc hr (Qr _) (Qfj (by unfold cvl;rfl) (by unfold cvl;rfl)) (by unfold cvl;rfl);obtain⟨a,c,g1,g2,_,J⟩:=h1;rw[Qbd g1,Qbd g2]at J;have g5:Calls P f #[] w (En P w (λ_=>none) .lf 0 0 w (.k v) h' nx'):=by simpa using J
 refine g5.mono λe w' ⟨u,ρ',he,hu,hr',ht⟩=>?_;rw[he,cv_k hu];exact⟨rfl,hr'.os,hr'.tape,hr'.output,ht.size,λk hk _=>hr'.base k hk⟩;cases h
def run1_ok {P:QR}{n:Nat}{f:FuncId}{args:List V}{us:QL}{v:Value}{h':T O}{nx':Nat}(W:P.follows .mixedOrders=true)(Y:ai (mkC P .lf) n (.call (.f f [] []) args .lf 0 0)=some (.call (.k v) h' nx'))(hv:cvl (λ_=>none) args=some us)(w:World):
  Calls P f us.toArray w λe w'=>e=.returned v/\Ch [] w w':=by
 have H:=o_c7 W;have hs:=Sd.ai H (λih E=>drOk H E) (λih E=>mlOk H E) n;have hr:HR P w (λ_=>none) .lf 0 w:=⟨(λi o E=>by rw[T.get_lf]at E;cases E),(λi j o p x y E=>by rw[T.get_lf]at E;cases E),λ_ _=>rfl,λ_ _=>rfl,Qr _,rfl,rfl,rfl⟩;obtain⟨a,c,g1,g2,_,J⟩:=hs.call Y hr (Qr _) (Qfj (by unfold cvl;rfl) (by unfold cvl;rfl)) hv;rw[Qbd g1,Qbd g2]at J;have g5:Calls P f us.toArray w (En P w (λ_=>none) .lf 0 0 w (.k v) h' nx'):=by simpa using J
 refine g5.mono λe w' ⟨u,ρ',he,hu,hr',ht⟩=>?_;rw[he,cv_k hu];exact⟨rfl,hr'.os,hr'.tape,hr'.output,ht.size,λk hk _=>hr'.base k hk⟩
noncomputable def resI:Option Rs->Int
 |some (.call (.k (.int _ m)) _ _)=>m
 |_=>0
noncomputable def resH:Option Rs->T O
 |some (.call _ h _)=>h
 |_=>.lf
noncomputable def resN:Option Rs->Nat
 |some (.call _ _ n)=>n
 |_=>0
end Go.M
end
section
namespace Go.A
open Go.RowKit Go.Z
def Ct.closed {P:QR}{f:FuncId}(h: ∀w,Calls P f #[] w λe w'=>e=.returned (.bool true)/\Ch [] w w')(r:Bool)(E:some true=some r):Ct P f [] [] [] (λv H'=>v=.bool r/\H'=[]):=λw F J=>by
 refine(h w).mono ?_;rintro e w' ⟨rfl,H⟩;injection E with E
 subst E;exact⟨_,[],rfl,⟨rfl,rfl⟩,H,λk r h=>(by cases h),λk b ⟨_,h,_⟩=>(by cases h),λk k' b ⟨_,h,_⟩=>(by cases h),λk r j h=>(by cases h)⟩
def Ct.ran {P:QR}{f:FuncId}{vs:QL}{v:Value}(h: ∀w,Calls P f vs.toArray w λe w'=>e=.returned v/\Ch [] w w'){R:Value->QJ->Prop}(H:R v []):Ct P f vs [] [] R:=λw F J=>by
 refine(h w).mono ?_;rintro e w' ⟨rfl,E⟩;exact⟨_,[],rfl,H,E,λk r h=>(by cases h),λk b ⟨_,h,_⟩=>(by cases h),λk k' b ⟨_,h,_⟩=>(by cases h),λk r j h=>(by cases h)⟩
end Go.A
end
section
namespace Go.Proofs.YtligcbdjiolamaaGreatDoor
def F.eb:Option Bool:=some true
theorem o_aJ (r:Bool)(f:F.eb=some r):A.Ct Tryz.prog 6 [] [] [] (λv H'=>v=.bool r/\H'=[]):=A.Ct.closed (M.run0_ok (by kernel_rfl) T6) r f
end Go.Proofs.YtligcbdjiolamaaGreatDoor
end
section
namespace Go.M
open Go.Z
def byt (n:Int)(i:Nat):Int:=IntKind.u64.wrap n / 2^(8*i)%256
def stc (h c:Int):Int:=IntKind.u64.wrap (IntKind.u64.wrap (Int.ofNat (BitVec.ofInt 64 h^^^BitVec.ofInt 64 c).toNat)*1099511628211)
def run8 (st:Int->Int->Int)(f:Nat->Int):Int:=st (st (st (st (st (st (st (st 14695981039346656037 (f 7)) (f 6)) (f 5)) (f 4)) (f 3)) (f 2)) (f 1)) (f 0)
def hashI (n:Int):Int:=run8 stc (byt n)
noncomputable def stw (h c:Int):Int:=wr .u64 (wr .u64 (Int.ofNat (BitVec.ofInt 64 h^^^BitVec.ofInt 64 c).toNat)*1099511628211)
noncomputable def hdiv (u:Int):Nat->Int
 |0=>u
 |i+1=>hdiv u i / 2^8
noncomputable def hashA (n:Int):Int:=run8 stw λi=>wr .u64 (wr .u8 (hdiv (wr .u64 n) i))
noncomputable def hashB (n:Int):Int:=run8 stw λi=>wr .u64 (Int.ofNat (BitVec.ofInt 64 (wr .u64 n / 2^(8*i))&&& BitVec.ofInt 64 255).toNat)
def stw_eq (h c:Int):stw h c=stc h c:=by unfold stw stc;rw[wr_eq,wr_eq]
def u64_b (n:Int):0<=IntKind.u64.wrap n/\IntKind.u64.wrap n<18446744073709551616:=by
 have:=Kr .u64 n;obtain⟨h1,h2⟩:=this;have E:IntKind.u64.min=0:=by decide
 have H:IntKind.u64.max=18446744073709551615:=by decide
 omega
def u64_id {x:Int}(h0:0<=x)(h1:x<18446744073709551616):IntKind.u64.wrap x=x:=by
 have e:IntKind.u64.wrap x=x%18446744073709551616:=by simp[IntKind.wrap,IntKind.signed,IntKind.bits]
 rw[e,Int.emod_eq_of_lt h0 h1]
def u8_eq (x:Int):IntKind.u8.wrap x=x%256:=by simp[IntKind.wrap,IntKind.signed,IntKind.bits]
def hdiv_eq (u:Int): ∀i,hdiv u i=u / 2^(8*i)
 |0=>by simp[hdiv]
 |i+1=>by
  unfold hdiv;rw[hdiv_eq u i,Int.ediv_ediv_of_nonneg (Int.le_of_lt (Int.pow_pos (by decide))),<-Int.pow_add];rfl
def byt_lt (x:Int):0<=x%256/\x%256<256:=⟨Int.emod_nonneg _ (by decide),Int.emod_lt_of_pos _ (by decide)⟩
def hashA_eq (n:Int):hashA n=hashI n:=by
 unfold hashA hashI run8;simp only[stw_eq];have e: ∀i,wr .u64 (wr .u8 (hdiv (wr .u64 n) i))=byt n i:=λi=>by
  rw[wr_eq,wr_eq,wr_eq,hdiv_eq,u8_eq];unfold byt;have:=byt_lt (IntKind.u64.wrap n / 2^(8*i));exact u64_id this.1 (by omega)
 simp only[e]
def hashI_has (n:Int):IntKind.u64.has (hashI n):=Kr _ _
end Go.M
end
section
namespace Go.Proofs.YtligcbdjiolamaaGreatDoor
noncomputable def hM48 (n:Int):Option M.Rs:=M.ai (M.mkC Tryz.prog .lf) 1000 (.call (.f 48 [] []) [.k (A.i n)] .lf 0 0)
def hR48 (n:Int):hM48 n=some (.call (.k (.int .u64 (M.hashA n))) (M.resH (hM48 n)) (M.resN (hM48 n))):=by kernel_rfl
def F.eu (f:Int):Option Int:=some (M.hashI f)
theorem o_bY (l:Int)(_h0:A.h6 l)(r:Int)(p:F.eu l=some r):A.Ct Tryz.prog 48 [A.i l] [] [] (λv H'=>v=.int .u64 r/\H'=[]/\IntKind.u64.has r):=by
 obtain rfl:=V8 p;refine A.Ct.ran (v:=.int .u64 (M.hashI l)) (λw=>?_) ⟨rfl,rfl,M.hashI_has l⟩;have h:=hR48 l;rw[M.hashA_eq]at h;exact M.run1_ok (us:=[A.i l]) (by kernel_rfl) h (by unfold M.cvl M.cv;unfold M.cvl;rfl) w
noncomputable def hM49 (n:Int):Option M.Rs:=M.ai (M.mkC Tryz.prog .lf) 1000 (.call (.f 49 [] []) [.k (A.i n)] .lf 0 0)
end Go.Proofs.YtligcbdjiolamaaGreatDoor
end
