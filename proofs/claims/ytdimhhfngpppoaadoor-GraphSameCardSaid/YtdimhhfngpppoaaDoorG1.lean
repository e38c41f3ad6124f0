/- Functions on data, what they tell, and that the code computes them. -/
import Derived.Test.YtdimhhfngpppoaaDoorG0
import Derived.RangeFuncSeq
import Derived.RangeFuncBound
import Derived.Shelf.Unicode.ValidAny
set_option linter.unusedVariables false
set_option linter.unusedSimpArgs false
set_option linter.unusedSectionVars false
set_option maxRecDepth 20000
set_option maxHeartbeats 8000000
set_option synthInstance.maxSize 1000000
set_option synthInstance.maxHeartbeats 400000
section
namespace Go.A
open Go.RowKit Go.Z
theorem Row.cells {t:Ty}{w:World}{F G:Nat→Prop}{A:Option Addr}{c:Nat}{xs:List t.den}(h:Row t w F G A c xs): ∃cells:List Value,cells.length=xs.length*t.size∧(∀u∈cells,u.oneCell'=true)∧(xs.length=0∨∃ad,A=some ad∧∀j u,cells[j]?=some u→w.cell? (ad.add j)=some u)∧
  ∀(i:Nat) (x:t.den),xs[i]?=some x→t.rep w F ((cells.drop (i*t.size)).take t.size) x:=by
 obtain⟨h2,h3,cells,L,E,h6⟩:=h
 refine⟨cells,L,fun u I=>?_,?_,h6⟩
 ·obtain⟨j,N,rfl⟩:=Wr I
  have O:=Qah t
  have V:j / t.size<xs.length:=Nat.div_lt_of_lt_mul (by rw[Nat.mul_comm,←L];exact N)
  have W:=h6 (j / t.size) _ (Qc V)
  refine Qcg t W _ (Qq (i:=j%t.size) ?_)
  rw[Qw (Nat.mod_lt _ O),Wh,Nat.mul_comm,Nat.div_add_mod]
  exact Qc N
 ·rcases E with E|⟨b,o,rfl,hb,hcell⟩
  ·exact .inl E
  ·exact .inr ⟨_,rfl,fun j u I=>by rw[Addr.add_lit];exact hcell j u I⟩
section
variable {P:Program}{t:Ty}{e:TypeId}{B:Nat}{w:World}{F G:Nat→Prop}{A:Option Addr}{c:Nat}{xs:List t.den}
theorem run_appendR {tt ty:TypeId}{i:TypeInfo}{z:Value}{bytes:Nat}(ht:P.underlying tt=some (.slice e))(E:P.info? e=some i)(hz:i.zero=some z)(hsize:i.size=t.size)(hby:i.bytes=bytes)
  (hzs:z.cells.size=t.size) (hown:Own t e B w F A c xs) {A2:Option Addr} {c2:Nat} {ys:List t.den} (hr:Row t w F G A2 c2 ys) (h63:(xs.length+ys.length)*bytes≤140737488355328)
  (hbp:0<bytes) (hA: ∀b,F b→b∉obl A) (hB:B≤w.heap.size):
  ∃A' c' w',(Builtin.append_ #[tt,tt] ty #[.slice A xs.length c,.slice A2 ys.length c2]).run P w=.ok (.slice A' (xs.length+ys.length) c') w'∧Own t e B w' F A' c' (xs++ys)∧Ch (obl A) w w'∧
   (∀k,k∈obl A'→k∈obl A∨k=w.heap.size):=by
 obtain⟨cells,hrow,h1,h2⟩:=hown
 obtain⟨news,hnl,O,I,hn3⟩:=hr.cells
 have hsz:=Qah t
 have hbig:xs.length+ys.length≤maxLen:=by
  have:xs.length+ys.length≤(xs.length+ys.length)*bytes:=Nat.le_mul_of_pos_right _ hbp
  simp only[maxLen];omega
 by_cases V:ys.length=0
 ·have hy:ys=[]:=Wn V
  subst hy
  have hrun:(Builtin.append_ #[tt,tt] ty #[.slice A xs.length c,.slice A2 0 c2]).run P w=.ok (.slice A xs.length c) w:=by
   rcases hrow.2 with⟨L,hn⟩|⟨g,cap,cur,L,_,_,hnc,_⟩
   ·injection L with hA' hn' hc
    subst hA';subst hc
    cases A2<;>simp[Builtin.append_,run_underlying ht,sizeOf,typeInfo,E,Builtin.lenOf,Builtin.firstCells,hn,loadCells,loadCellsFrom]
   ·injection L with hA' hn' hc
    subst hA';subst hc
    cases A2<;>simp[Builtin.append_,run_underlying ht,sizeOf,typeInfo,E,Builtin.lenOf,Builtin.firstCells,hnc,storeCells,loadCells,loadCellsFrom]
  refine⟨A,c,w,by simpa using hrun,⟨cells,by simpa using hrow,h1,by simpa using h2⟩,Ch.refl' _ _,fun k hk=>.inl hk⟩
 ·rcases I with I|⟨ad,rfl,hcell⟩
  ·exact absurd I V
  ·obtain⟨v',w',hrun,h3,h4,_,W⟩:=run_append_own_at (P:=P) w B tt ty e i z t.size bytes ht E hz hsize hby hzs hsz _ xs.length cells hrow ad ys.length c2 news hnl hcell O hbig h63 hB
   have hform: ∃A' c',v'=.slice A' (xs.length+ys.length) c':=by
    rcases h3.2 with⟨L,hn⟩|⟨g,cap,cur,L,_⟩
    ·exact⟨none,0,by rw[L,show xs.length+ys.length=0 from by omega]⟩
    ·exact⟨_,_,L⟩
   obtain⟨A',c',rfl⟩:=hform
   have N:Ch (obl A) w w':=by have:=Ch.of_grown h4;rwa[ownBlock_slice]at this
   refine⟨A',c',w',hrun,⟨cells++news,?_,?_,?_⟩,N,fun k hk=>?_⟩
   ·rw[Q5];exact h3
   ·intro u hu
    rcases Qv.1 hu with hu|hu
    ·exact h1 u hu
    ·exact O u hu
   ·exact Qce hrow.1 (fun i x E=>rep_ch N hA t (h2 i x E)) (fun i x E=>rep_ch N hA t (hn3 i x E))
   ·rcases W with W|W
    ·left
     have:obl A'=obl A:=by rw[←ownBlock_slice A' (xs.length+ys.length) c',W,ownBlock_slice]
     rwa[←this]
    ·right
     have:obl A'=[w.heap.size]:=by rw[←ownBlock_slice A' (xs.length+ys.length) c',W];rfl
     rw[this]at hk
     simpa using hk
theorem Own.take (h:Own t e B w F A c xs){k:Nat}(hk:k≤xs.length):Own t e B w F A c (xs.take k):=by
 obtain⟨cells,W,h1,h2⟩:=h
 have I:(xs.take k).length=k:=by rw[Qu];omega
 have hmul:k*t.size≤xs.length*t.size:=Qp _ hk
 refine⟨cells.take (k*t.size),⟨by rw[Qu,W.1,I];omega,?_⟩,fun u hu=>h1 u (List.mem_of_mem_take hu),fun i x hi=>?_⟩
 ·rcases W.2 with⟨L,hn⟩|⟨g,cap,cur,L,hb,hg,hnc,N,O,htake⟩
  ·left
   injection L with hA' _ V
   subst hA';subst V
   exact⟨by rw[I];congr 1;omega,by omega⟩
  ·right
   injection L with hA' _ V
   subst hA';subst V
   refine⟨g,c,cur,rfl,hb,hg,by omega,N,O,?_⟩
   rw[I,←htake,List.take_take,W7 hmul]
 ·have E:i<k:=by
   have:=(Qa.1 hi).1
   omega
  have hx:xs[i]?=some x:=by rwa[Qw E]at hi
  have:=h2 i x hx
  have hm:(i+1)*t.size≤k*t.size:=Qp _ E
  rw[Wi,Wj]at hm
  rw[List.drop_take,List.take_take,W7 (by omega)]
  exact this
end
section
variable {r:Option Nat}{P:Program}{ops:Array Oper}{Q:Exit→Act→World→Prop}{rest lst:List Oper}{C:Cx}{l:List (Nat×Value)}{H:List (Nat×Res)}{d:Nat}{op:Op}{T:TypeId}{pos:String}{af:Array Edge}
theorem AL.app {k:Nat}(js:List Nat){t:Ty}{tt e:TypeId}{x y:Operand}{i:TypeInfo}{z:Value}{bytes m n1 n2:Nat}{A A2:Option Addr}{c c2:Nat}{xs ys:List t.den}{kp':(Nat→Prop)→Prop}(hrow: ∀w,Hp C H w→∃G:Nat→Prop,Row t w (Fh C H) G A2 c2 ys∧kp' G)
  (hinf:P.info? e=some i∧i.zero=some z∧i.size=m∧i.bytes=bytes∧z.cells.size=m) (hl:(xs.length+ys.length)*bytes≤140737488355328)
  (h: ∀A' c',AL r P ops Q rest C ((d,.slice A' (xs++ys).length c')::l) ((k,.own t e A' c' (xs++ys))::ded js H))
  (I:hk H k=some (.own t e A c xs):=by rfl) (hx:ev l x=some (.slice A n1 c):=by rfl) (hy:ev l y=some (.slice A2 n2 c2):=by rfl) (hn1:n1=xs.length:=by rfl) (hn2:n2=ys.length:=by rfl) (hm:m=t.size:=by rfl) (N:Nat.ble 1 bytes=true:=by rfl)
  (ht:P.underlying tt=some (.slice e):=by rfl) (hd:Nat.ble (d+1) C.n=true:=by rfl) (hj:hng [k] js H=true:=by kernel_rfl):AL r P ops Q (⟨some d,.call {callee:=.builtin .append,args:=#[x,y],argTypes:=#[tt,tt]},T,pos,af,none⟩::rest) C l H:=fun a w hf hh=>by
 subst hn1;subst hn2;subst hm
 obtain⟨L,hz,hsize,O,V⟩:=hinf
 obtain⟨G,hR,_⟩:=hrow w hh
 have hO:Own t e 0 w (Fh C H) A c xs:=hh.hold k _ I
 obtain⟨A',c',w',hrun,h1,h2,h3⟩:=run_appendR (P:=P) (ty:=T) ht L hz hsize O V hO hR hl (Qn N) (fun b E hbA=>E.1 k ⟨_,I,hbA⟩) (W9 _)
 refine Z.valw (w':=w') (v:=.slice A' (xs++ys).length c') hf hd ?_ fun a' hf'=>h A' c' a' w' hf' (Hp.dd (hh.upd h2 (fun b E=>⟨_,I,E⟩) (fun b E=>?_) (fun j hj=>by cases hj) fun F B hF _ _ _ hB=>?_) hj)
 ·rw[Q5]
  simp only[execOp,resolve,invoke,builtin,Sem.run_bind,Sem.run_pure,Result.andThen_ok,Wv,Wa,List.map_nil,hf.eval hx,hf.eval hy,hrun]
 ·rcases h3 b E with h4|h4
  ·exact .inl ⟨_,I,h4⟩
  ·exact .inr ⟨by omega,(h1.lt b E).2⟩
 ·obtain⟨cells,o1,o2,o3⟩:=h1
  obtain⟨cells0,p1,p2,p3⟩:=hO
  obtain⟨cells2,q1,q2,q3,q4⟩:=hR.cells
  have hFo: ∀b,Fh C H b→b∉obl A:=fun b E hbA=>E.1 k ⟨_,I,hbA⟩
  have h1':Own t e 0 w' (Fh C H) A' c' (xs++ys):=⟨cells,o1,o2,o3⟩
  have hOi:Own t e 0 w (fun b=>Fh C H b∧b<w.heap.size) A c xs:=⟨cells0,p1,p2,fun i x L=>Qae t (p3 i x L)⟩
  have hRi:Row t w (fun b=>Fh C H b∧b<w.heap.size) (fun _=>True) A2 c2 ys:=by
   obtain⟨r1,r2,cs,r3,W,r5⟩:=hR
   refine⟨r1,r2,cs,r3,?_,fun i x L=>Qae t (r5 i x L)⟩
   rcases W with W|⟨b,o,W,_,r6⟩
   ·exact .inl W
   ·exact .inr ⟨b,o,W,trivial,r6⟩
  obtain⟨A3,c3,w3,hrun3,h13,h23,_⟩:=run_appendR (P:=P) (ty:=T) ht L hz hsize O V hOi hRi hl (Qn N) (fun b E=>hFo b E.1) (W9 _)
  rw[hrun]at hrun3
  injection hrun3 with e1 e2
  injection e1 with e1 _ e3
  subst e1;subst e2;subst e3
  exact h13.more fun b E=>hF b E.1 E.2
theorem AL.setel (k ke:Nat)(js:List Nat){t:Ty}{e tt:TypeId}{A:Option Addr}{c g o m:Nat}{xs:List t.den}{px py:Operand}{u:Value}{new es:List Value}{i:Int}{v:t.den}(y:t.den)(N:ix xs i=some v)(hA:A=some ⟨g,0,none⟩)
  (hD:Dat H t (es.take o++new++es.drop (o+m)) y) (h:AL r P ops Q rest C l ((k,.own t e A c (xs.set i.toNat y))::ded js H))
  (E:hk H k=some (.own t e A c xs):=by rfl) (O:hk H ke=some (.el (some k) g (i.toNat*t.size) es):=by rfl) (hx:ev l px=some (.pointer (some ⟨g,i.toNat*t.size+o,none⟩)):=by rfl) (hy:ev l py=some u:=by rfl) (hS:szB P tt=some m:=by kernel_rfl)
  (hv:u.cells=new.toArray:=by rfl) (hm:new.length=m:=by rfl) (ho:Nat.ble (o+m) t.size=true:=by rfl) (h1:new.all (fun u=>u.oneCell')=true:=by rfl) (V:es.length=t.size:=by rfl) (W:hng [k] js H=true:=by kernel_rfl):
  AL r P ops Q (⟨none,.store tt px py,T,pos,af,none⟩::rest) C l H:=fun a w hf L=>by
 obtain⟨n,rfl,hn⟩:=Qag N
 have hlt:=(Qa.1 hn).1
 have hO:Own t e 0 w (Fh C H) A c xs:=L.hold k _ E
 have hOi:Own t e 0 w (fun b=>Fh C H b∧b<w.heap.size) A c xs:=by
  obtain⟨cells0,p1,p2,p3⟩:=hO
  exact⟨cells0,p1,p2,fun i x N=>Qae t (p3 i x N)⟩
 have hc:=(L.hold ke _ O).1
 refine Z.st_setel (F:=fun b=>Fh C H b∧b<w.heap.size) hf hOi (k:=n) (o:=o) (m:=m) hlt (Qaf hS) ho hA (by rw[hx,Addr.add_lit,Addr.add_lit];simp) hy hv hm (fun u hu=>Q8.1 h1 u hu) (by rw[Addr.add_lit];simpa using hc) V (Qae t (Dat.rep L t hD)) (fun b I hbA=>I.1.1 k ⟨_,E,hbA⟩) fun w' a' hch hs hO' hf'=>
  h a' w' hf' (Hp.dd (L.upd hch (fun b I=>⟨_,E,I⟩) (fun b I=>.inl ⟨_,E,I⟩) (fun j W=>by cases W) fun F B hF _ _ _ _=>hO'.more fun b I=>hF b I.1 I.2) W)
theorem AL.cuth (k kn:Nat){t:Ty}{tt e:TypeId}{x W:Operand}{A:Option Addr}{c:Nat}{xs:List t.den}{k2:IntKind}{q:Int}{v:Nat}(hq:q=(v:Int))(h2:v≤xs.length)
  (h: ∀c',AL r P ops Q rest C ((d,.slice A (xs.take v).length c')::l) ((kn,.sh (.slice t) [.slice A (xs.take v).length c'] (xs.take v))::H))
  (I:hk H k=some (.sh (.slice t) [.slice A xs.length c] xs):=by rfl) (hx:ev l x=some (.slice A xs.length c):=by rfl) (L:ev l W=some (.int k2 q):=by rfl) (hS:szB P e=some t.size:=by kernel_rfl)
  (ht:P.underlying tt=some (.slice e):=by rfl) (hd:Nat.ble (d+1) C.n=true:=by rfl) (hn:hk H kn=none:=by kernel_rfl):AL r P ops Q (⟨some d,.slice tt x none (some W) none,T,pos,af,none⟩::rest) C l H:=fun a w N hh=>by
 have hr:(Ty.slice t).rep w (Fh C H) [.slice A xs.length c] xs:=hh.hold k _ I
 have hlen:=Qcq hr
 have E:(xs.take v).length=v:=by rw[Qu];omega
 refine Z.val (v:=.slice A v c) N hd (Qdb ht (Qaf hS) (N.eval hx) (N.eval L) hq (by omega)) fun a' hf'=>?_
 have O:=rep_take hr h2
 rw[←E]at hf'
 have V:(Ty.slice t).rep w (Fh C H) [.slice A (xs.take v).length c] (xs.take v):=by rw[E];exact O
 exact h _ a' w hf' (hh.add hn rfl (fun j hj=>by cases hj) (Qae _ V))
theorem AL.cuto (k:Nat)(js:List Nat){t:Ty}{tt e e':TypeId}{x I:Operand}{A:Option Addr}{c:Nat}{xs:List t.den}{k2:IntKind}{q:Int}{v:Nat}(hq:q=(v:Int))(h2:v≤xs.length)
  (h:AL r P ops Q rest C ((d,.slice A (xs.take v).length c)::l) ((k,.own t e' A c (xs.take v))::ded js H))
  (E:hk H k=some (.own t e' A c xs):=by rfl) (hx:ev l x=some (.slice A xs.length c):=by rfl) (L:ev l I=some (.int k2 q):=by rfl) (hS:szB P e=some t.size:=by kernel_rfl)
  (ht:P.underlying tt=some (.slice e):=by rfl) (hd:Nat.ble (d+1) C.n=true:=by rfl) (N:hng [k] js H=true:=by kernel_rfl):AL r P ops Q (⟨some d,.slice tt x none (some I) none,T,pos,af,none⟩::rest) C l H:=fun a w O hh=>by
 have hO:Own t e' 0 w (Fh C H) A c xs:=hh.hold k _ E
 have hlen:=hO.len
 have V:(xs.take v).length=v:=by rw[Qu];omega
 refine Z.val (v:=.slice A v c) O hd (Qdb ht (Qaf hS) (O.eval hx) (O.eval L) hq (by omega)) fun a' hf'=>?_
 rw[←V]at hf'
 refine h a' w hf' (Hp.dd (hh.upd (S:=[]) (Ch.refl w) (by simp) (fun b W=>.inl ⟨_,E,W⟩) (fun j N=>by cases N) fun F B hF _ _ _ _=>?_) N)
 obtain⟨cells,o1,o2,o3⟩:=Own.take hO h2
 exact⟨cells,o1,o2,fun i x I=>Qap (o3 i x I) fun b W hl=>hF b W hl⟩
theorem AL.rgs (k:Nat){tt:TypeId}{x:Operand}{s:ByteArray}(h: ∀g,AL r P ops Q rest C ((d,.pointer (some ⟨g,0,none⟩))::l) ((k,.si g s 0)::H))
  (I:P.underlying tt=some .string:=by rfl) (L:ev l x=some (.string s):=by rfl) (N:Nat.ble (d+1) C.n=true:=by rfl) (O:hk H k=none:=by kernel_rfl):AL r P ops Q (⟨some d,.range tt x,T,pos,af,none⟩::rest) C l H:=fun a w V W=>
 Z.st_rangeStr V N I L fun g w' a' hg hs hb E hf'=>h g a' w' hf' (W.new O E (fun b hb'=>by simp only[Res.bl,Qb]at hb';omega) (fun j hj=>by cases hj) fun _ _ _ _ _=>hb)
theorem AL.nxs (k:Nat)(js:List Nat){x:Operand}{s:ByteArray}{g p:Nat}{ρ:Type}{A B R:Option ρ}(I:(if p<s.size then A else B)=R)
  (h2:p<s.size→A=R→AL r P ops Q rest C ((d,.tuple #[.bool true,.int .i64 (p:Int),.int .i32 ((Utf8.decode s p).1:Int)])::l) ((k,.si g s (p+(Utf8.decode s p).2))::ded js H))
  (h1: ¬p<s.size→B=R→AL r P ops Q rest C ((d,.tuple #[.bool false])::l) H)
  (E:hk H k=some (.si g s p):=by rfl) (hx:ev l x=some (.pointer (some ⟨g,0,none⟩)):=by rfl) (hd:Nat.ble (d+1) C.n=true:=by rfl) (L:hng [k] js H=true:=by kernel_rfl):AL r P ops Q (⟨some d,.next x true,T,pos,af,none⟩::rest) C l H:=fun a w hf N=>
 Z.st_nextStr hf hd hx (N.hold k _ E) (fun hp a' hf'=>h1 hp (by rw[if_neg hp]at I;exact I) a' w hf' N) fun hp w' a' O hs V hf'=>
  h2 hp (by rw[if_pos hp]at I;exact I) a' w' hf' (Hp.dd (N.upd O (fun b W=>⟨_,E,W⟩) (fun b W=>.inl ⟨_,E,W⟩) (fun j L=>by cases L) fun _ _ _ _ _ _ _=>V) L)
section
variable {κ:Type}[DecidableEq κ]{enc:κ→Value}{kt et tt:TypeId}{t:Ty}{agg:Bool}{b:Nat}{m:List (κ×t.den)}
theorem AL.mkm (k:Nat)(κ:Type)(enc:κ→Value)(t:Ty)(agg:Bool)(h: ∀b,AL r P ops Q rest C ((d,.map (some b))::l) ((k,.mp κ enc t agg b [])::H))(L:Nat.ble (d+1) C.n=true:=by rfl)(N:hk H k=none:=by kernel_rfl):
  AL r P ops Q (⟨some d,.makeMap tt none,T,pos,af,none⟩::rest) C l H:=fun a w O V=>
 Z.st_makeMap rfl O L enc t agg no fun g w' a' hg hs E I hf'=>h g a' w' hf' (V.new N I (fun b hb'=>by simp only[Res.bl,Qb]at hb';omega) (fun j W=>by cases W) fun F B h1 _ _=>E.to (Ch.refl w') (by simp) fun b E _=>E.elim)
def asmp:Option Res→Option Res
 |some (.lmp κ enc t agg b m)=>some (.mp κ enc t agg b m)
 |r=>r
theorem Qcl {κ:Type}{enc:κ→Value}{t:Ty}{agg:Bool}{b:Nat}{m:List (κ×t.den)}{C:Cx}{H:List (Nat×Res)}{w:World}(L:Hp C H w){k:Nat}(h:asmp (hk H k)=some (.mp κ enc t agg b m)):Mt enc t agg w (Fh C H) b m:=by
 cases E:hk H k with
 |none=>rw[E]at h;cases h
 |some r=>
  rw[E]at h
  have I:=L.hold k r E
  cases r with
  |lmp κ' enc' t' agg' b' m'=>
   have h:some (Res.mp κ' enc' t' agg' b' m')=_:=h
   injection h with h;cases h;exact I.1
  |mp κ' enc' t' agg' b' m'=>
   have h:some (Res.mp κ' enc' t' agg' b' m')=_:=h
   injection h with h;cases h;exact I
  |_=>injection h with h;cases h
theorem Qcj {w:World}{x:t.den}{cs:List Value}(O:Hp C H w)(V:t.rep w (Fh C H) cs x)(kn:Nat)(W:nok H kn (lv t)=true): ∃ps:Lf,ps.length=lv t∧cs=cl t x ps∧Hp C (hcat (kx kn (rs t x ps)) H) w:=by
 obtain⟨ps,N,hc,E⟩:=rep_cl (B:=Bk H) t (Qae t V)
 exact⟨ps,N,hc,O.adds (by rw[Qbi t x ps N];exact W) fun I L=>⟨(E I L).2.1,(E I L).2.2,(E I L).1⟩⟩
theorem AL.lku (k kn:Nat){x y:Operand}{z v:t.den}{zs:List Value}(K:Ky P kt enc)(key:κ)(N: ∀w,(zeroValue et).run P w=.ok (vof agg zs) w)(O:Dat H t zs z)(V:mget z m key=v)
  (h:t.ok v→tele (lv t) fun ps=>AL r P ops Q rest C ((d,vof agg (cl t (v) ps))::l) (hcat (kx kn (rs t (v) ps)) H))
  (E:asmp (hk H k)=some (.mp κ enc t agg b m):=by rfl) (W:ev l x=some (.map (some b)):=by rfl) (hy:ev l y=some (enc key):=by rfl) (ht:P.underlying tt=some (.map kt et):=by rfl) (hd:Nat.ble (d+1) C.n=true:=by rfl) (hn:nok H kn (lv t)=true:=by kernel_rfl):
  AL r P ops Q (⟨some d,.lookup tt x y false,T,pos,af,none⟩::rest) C l H:=fun a w hf I=>by
 subst V
 exact Z.st_lookup hf hd K ht N z (Dat.rep I t O) (Qcl I E) W key hy fun cs a' L hf'=>by
  obtain⟨ps,hl,rfl,h2⟩:=Qcj I L kn hn
  exact Qak (h (rep_ok t L)) ps hl a' w hf' h2
theorem AL.lk2 (k kn:Nat){x y:Operand}{z v:t.den}{zs:List Value}(K:Ky P kt enc)(key:κ)(N: ∀w,(zeroValue et).run P w=.ok (vof agg zs) w)(O:Dat H t zs z)(V:mget z m key=v)
  (h:t.ok v→tele (lv t) fun ps=>AL r P ops Q rest C ((d,.tuple #[vof agg (cl t (v) ps),.bool (mhas m key)])::l) (hcat (kx kn (rs t (v) ps)) H))
  (E:asmp (hk H k)=some (.mp κ enc t agg b m):=by rfl) (W:ev l x=some (.map (some b)):=by rfl) (hy:ev l y=some (enc key):=by rfl) (ht:P.underlying tt=some (.map kt et):=by rfl) (hd:Nat.ble (d+1) C.n=true:=by rfl) (hn:nok H kn (lv t)=true:=by kernel_rfl):
  AL r P ops Q (⟨some d,.lookup tt x y true,T,pos,af,none⟩::rest) C l H:=fun a w hf I=>by
 subst V
 exact Z.st_lookup2 hf hd K ht N z (Dat.rep I t O) (Qcl I E) W key hy fun cs a' L hf'=>by
  obtain⟨ps,hl,rfl,h2⟩:=Qcj I L kn hn
  exact Qak (h (rep_ok t L)) ps hl a' w hf' h2
theorem AL.mup (k:Nat)(js:List Nat){x y v:Operand}{cs:List Value}{u:t.den}(K:Ky P kt enc)(key:κ)(V:Dat H t cs u)(h:AL r P ops Q rest C l ((k,.mp κ enc t agg b (mins m key u))::ded js H))
  (E:hk H k=some (.mp κ enc t agg b m):=by rfl) (W:ev l x=some (.map (some b)):=by rfl) (hy:ev l y=some (enc key):=by rfl) (hv:ev l v=some (vof agg cs):=by rfl) (ht:P.underlying tt=some (.map kt et):=by rfl) (I:hng [k] js H=true:=by kernel_rfl):
  AL r P ops Q (⟨none,.mapUpdate tt x y v,T,pos,af,none⟩::rest) C l H:=fun a w hf L=>by
 have hm:Mt enc t agg w (Fh C H) b m:=L.hold k _ E
 have hm':Mt enc t agg w (fun b=>Fh C H b∧b<w.heap.size) b m:=by
  obtain⟨es,h1,h2,h3⟩:=hm
  refine⟨es,h1,h2,fun i p hp=>?_⟩
  obtain⟨cs,h4,h5⟩:=h3 i p hp
  exact⟨cs,h4,Qae t h5⟩
 refine Z.st_mapUpdate hf K ht hm' W key hy hv (Qae t (Dat.rep L t V)) (fun b' hb' e=>hb'.1.1 k ⟨_,E,by rw[e];simp[Res.bl]⟩) fun w' a' N hs O hf'=>
  h a' w' hf' (Hp.dd (L.upd N (fun b' hb'=>⟨_,E,hb'⟩) (fun b' hb'=>.inl ⟨_,E,hb'⟩) (fun j I=>by cases I) fun F B hF _ _ _ _=>?_) I)
 exact O.to (Ch.refl w') (by simp) fun b' hb' _=>⟨by simp,hF b' hb'.1 hb'.2⟩
end
def Ct (P:Program)(f:FuncId)(vs:List Value)(H:List (Nat×Res))(S:List Nat)(R:Value→List (Nat×Res)→Prop):Prop:=
 ∀(w:World) (F:Nat→Prop),Hp ⟨0,[],w,S,F⟩ H w→Calls P f vs.toArray w fun e w'=>∃v H',e=.returned v∧R v H'∧Hp ⟨0,[],w,S,F⟩ H' w'
theorem Ct.enter {f:FuncId}{fn:Func}{c:Code}{vs:List Value}{n:Nat}{S:List Nat}{R:Value→List (Nat×Res)→Prop}(L:P.funcs[f]?=some fn)(N:fn.body=some c)(O:fn.ntmps=n)(V:Nat.ble vs.length n=true)
  (h: ∀w F,AX none P (bodyPost P fn fun e w'=>∃v H',e=.returned v∧R v H'∧Hp ⟨0,[],w,S,F⟩ H' w') [] c ⟨n,[],w,S,F⟩ (argl vs 0) H):Ct P f vs H S R:=fun w F E=>
 Z.enter L N O (Qn V) fun a I=>h w F a w I ⟨E.ch,E.hold,E.bnd,E.dis,E.ref⟩
theorem AX.ret {fn:Func}{K:List Kx}{w0:World}{S:List Nat}{F:Nat→Prop}{n:Nat}{R:Value→List (Nat×Res)→Prop}(ps:List (Nat×Nat))(v:Value)(hres: ∀a w,Fr a n [] l→Hp ⟨n,[],w0,S,F⟩ H w→(results fn a.tmps).run P w=.ok v w)(N:R v (A.ren H ps))(O:nod (ps.map (·.1))=true:=by rfl)(V:nod (ps.map (·.2))=true:=by rfl):
  AX r P (bodyPost P fn fun e w'=>∃v H',e=.returned v∧R v H'∧Hp ⟨0,[],w0,S,F⟩ H' w') K .ret ⟨n,[],w0,S,F⟩ l H:=AX.ret0 fun a w I L=>by
 have E:=L.ren ps O V
 exact Z.retv I (hres a w I L) ⟨v,_,rfl,N,⟨E.ch,E.hold,E.bnd,E.dis,E.ref⟩⟩
end
inductive Sub (H:List (Nat×Res)):List (Nat×Res)→List (Nat×Nat)→List Nat→Prop
 |nil:Sub H [] [] []
 |s (k:Nat) {k0:Nat} {r:Res} {H0:List (Nat×Res)} {ms:List (Nat×Nat)} {ls:List Nat} (h:Sub H H0 ms ls) (h1:hk H k=some r:=by rfl) (hb:r.bl=[]:=by rfl) (hr:r.ref=none:=by rfl):Sub H ((k0,r)::H0) ms ls
 |o (k:Nat) {k0:Nat} {t:Ty} {e:TypeId} {A:Option Addr} {c:Nat} {xs:List t.den} {H0:List (Nat×Res)} {ms:List (Nat×Nat)} {ls:List Nat} (h:Sub H H0 ms ls) (h1:hk H k=some (.own t e A c xs):=by rfl):Sub H ((k0,.ln t A c xs)::H0) ms (k::ls)
 |l (k:Nat) {k0:Nat} {t:Ty} {A:Option Addr} {c:Nat} {xs:List t.den} {H0:List (Nat×Res)} {ms:List (Nat×Nat)} {ls:List Nat} (h:Sub H H0 ms ls) (h1:hk H k=some (.sh (.slice t) [.slice A xs.length c] xs):=by rfl):Sub H ((k0,.ln t A c xs)::H0) ms ls
 |nl {k0:Nat} {t:Ty} {H0:List (Nat×Res)} {ms:List (Nat×Nat)} {ls:List Nat} (h:Sub H H0 ms ls):Sub H ((k0,.ln t none 0 [])::H0) ms ls
 |ns {k0:Nat} {t:Ty} {H0:List (Nat×Res)} {ms:List (Nat×Nat)} {ls:List Nat} (h:Sub H H0 ms ls):Sub H ((k0,.sh (.slice t) [.slice none 0 0] [])::H0) ms ls
 |b (k:Nat) {k0:Nat} {g:Nat} {e:TypeId} {cs:List Value} {H0:List (Nat×Res)} {ms:List (Nat×Nat)} {ls:List Nat} (h:Sub H H0 ms ls) (h1:hk H k=some (.blk g e cs):=by rfl):Sub H ((k0,.el none g 0 cs)::H0) ms (k::ls)
 |lm (k:Nat) {k0:Nat} {κ:Type} {enc:κ→Value} {t:Ty} {agg:Bool} {b:Nat} {m:List (κ×t.den)} {H0:List (Nat×Res)} {ms:List (Nat×Nat)} {ls:List Nat} (h:Sub H H0 ms ls) (h1:hk H k=some (.mp κ enc t agg b m):=by rfl):Sub H ((k0,.lmp κ enc t agg b m)::H0) ms (k::ls)
 |m (k:Nat) {k0:Nat} {r:Res} {H0:List (Nat×Res)} {ms:List (Nat×Nat)} {ls:List Nat} (h:Sub H H0 ms ls) (h1:hk H k=some r:=by rfl) (hr:r.ref=none:=by rfl):Sub H ((k0,r)::H0) ((k0,k)::ms) ls
def blks (H:List (Nat×Res)):List (Nat×Nat)→List Nat
 | []=>[]
 |(_,k)::ms=>match hk H k with
  |some r=>r.bl++blks H ms
  |none=>blks H ms
theorem Qbl {H:List (Nat×Res)}{b:Nat}: ∀{ms:List (Nat×Nat)},b∈blks H ms↔∃p,p∈ms∧Bk H p.2 b
 | []=>by simp[blks]
 |(i,k)::ms=>by
  unfold blks
  cases N:hk H k with
  |none=>
   simp only[]
   rw[Qbl]
   exact⟨fun⟨p,E,I⟩=>⟨p,Qd _ E,I⟩,fun⟨p,E,I⟩=>by
    rcases Qm.1 E with rfl|E
    ·obtain⟨r,L,_⟩:=I;rw[N]at L;cases L
    ·exact⟨p,E,I⟩⟩
  |some r=>
   simp only[Qv]
   rw[Qbl]
   constructor
   ·rintro(h|⟨p,E,I⟩)
    ·exact⟨(i,k),Qi ..,r,N,h⟩
    ·exact⟨p,Qd _ E,I⟩
   ·rintro⟨p,E,I⟩
    rcases Qm.1 E with rfl|E
    ·obtain⟨V,L,O⟩:=I;rw[N]at L;injection L with L;subst L;exact .inl O
    ·exact .inr ⟨p,E,I⟩
theorem Sub.hp {C:Cx}{H:List (Nat×Res)}{w:World}(hh:Hp C H w){H0:List (Nat×Res)}{ms:List (Nat×Nat)}{ls:List Nat}(h:Sub H H0 ms ls)(h1:nod (H0.map (·.1))=true)(h2:nod (ms.map (·.2))=true)(h3:ls.all (fun k=> !(ms.map (·.2)).any (Nat.beq k))=true):
  Hp ⟨0,[],w,blks H ms,Fh C H⟩ H0 w:=by
 have hvis: ∀{H0:List (Nat×Res)} {k:Nat} {r:Res},hk H0 k=some r→(k,r)∈H0:=by
  intro H0
  induction H0 with
  |nil=>intro k r h;cases h
  |cons p q L=>
   obtain⟨d,u⟩:=p
   intro k r h
   rw[Qaa]at h
   split at h
   ·rename_i e;subst e;injection h with h;subst h;exact Qi ..
   ·exact Qd _ (L h)
 have hmoved: ∀{H0:List (Nat×Res)} {ms:List (Nat×Nat)} {ls:List Nat},Sub H H0 ms ls→∀k r,(k,r)∈H0→r.ref=none∧∀b,b∈r.bl→∃j,(k,j)∈ms∧hk H j=some r:=by
  intro H0 ms ls h
  induction h with
  |nil=>intro k r E;cases E
  |s k _ h1 I hr L=>
   intro k r E
   rcases Qm.1 E with e|E
   ·injection e with N O;subst N;subst O;exact⟨hr,fun b hb2=>by rw[I]at hb2;cases hb2⟩
   ·exact L k r E
  |m k _ h1 hr L=>
   intro k r E
   rcases Qm.1 E with e|E
   ·injection e with N O;subst N;subst O;exact⟨hr,fun b hb2=>⟨_,Qi ..,h1⟩⟩
   ·obtain⟨V,h5⟩:=L k r E
    exact⟨V,fun b I=>by obtain⟨j,h6,h7⟩:=h5 b I;exact⟨j,Qd _ h6,h7⟩⟩
  |_=>
   rename_i L
   intro k r E
   rcases Qm.1 E with e|E
   ·injection e with N O;subst N;subst O;exact⟨rfl,fun b hb2=>by cases hb2⟩
   ·exact L k r E
 have hbk: ∀k b,Bk H0 k b→∃j,(k,j)∈ms∧Bk H j b:=fun k b ⟨r,V,h5⟩=>by
  obtain⟨j,h6,h7⟩:=(hmoved h k r (hvis V)).2 b h5
  exact⟨j,h6,r,h7,h5⟩
 have hnb: ∀b,(∀k,¬Bk H k b)→∀k,¬Bk H0 k b:=fun b hB k hk=>by obtain⟨j,_,V⟩:=hbk k b hk;exact hB j V
 have hF: ∀b,Fh C H b→Fh ⟨0,[],w,blks H ms,Fh C H⟩ H0 b:=fun b I=>⟨hnb b I.1,.inl I⟩
 have hholds: ∀{H1:List (Nat×Res)} {ms1:List (Nat×Nat)} {ls1:List Nat},Sub H H1 ms1 ls1→(∀k,k∈ls1→∀p,p∈ms→p.2≠k)→∀k r,(k,r)∈H1→r.holds w (Fh ⟨0,[],w,blks H ms,Fh C H⟩ H0) (Bk H0):=by
  intro H1 ms1 ls1 h
  have go: ∀k r,hk H k=some r→r.ref=none→r.holds w (Fh ⟨0,[],w,blks H ms,Fh C H⟩ H0) (Bk H0):=fun k r V h5=>
   Res.to (hh.hold k r V) (S:=[]) (Ch.refl w) (fun b I _=>⟨by simp,hF b I⟩) (fun b I _=>⟨by simp,hnb b I⟩) (fun i b hi _=>by rw[h5]at hi;cases hi) (by simp)
  induction h with
  |nil=>intro _ k r E;cases E
  |s k _ h1 I hr L=>
   intro W k r E
   rcases Qm.1 E with e|E
   ·injection e with N O;subst N;subst O;exact go _ _ h1 hr
   ·exact L W k r E
  |m k _ h1 hr L=>
   intro W k r E
   rcases Qm.1 E with e|E
   ·injection e with N O;subst N;subst O;exact go _ _ h1 hr
   ·exact L W k r E
  |o k _ h1 L=>
   intro W k' r E
   rcases Qm.1 E with e|E
   ·injection e with N O;subst N;subst O
    obtain⟨G,V,h5⟩:=rowO h1 w hh
    refine Row.to V (S:=[]) (Ch.refl w) (fun b I _=>⟨by simp,hF b I⟩) fun b I _=>⟨by simp,fun k2 hk2=>?_⟩
    obtain⟨j,h6,h7⟩:=hbk k2 b hk2
    exact W k (Qi ..) _ h6 (hh.dis j k b h7 (h5 b I))
   ·exact L (fun k hk=>W k (Qd _ hk)) k' r E
  |b k _ h1 L=>
   intro W k' r E
   rcases Qm.1 E with e|E
   ·injection e with N O;subst N;subst O
    have hB:Blk w _ _ _:=hh.hold k _ h1
    refine⟨fun j u hu=>?_,hB.lt,fun k2 hk2=>?_⟩
    ·rw[Addr.add_lit,Ws,hB.cell];exact hu
    ·obtain⟨j,h6,h7⟩:=hbk k2 _ hk2
     exact W k (Qi ..) _ h6 (hh.dis j k _ h7 ⟨_,h1,by simp[Res.bl]⟩)
   ·exact L (fun k hk=>W k (Qd _ hk)) k' r E
  |lm k _ h1 L=>
   intro W k' r E
   rcases Qm.1 E with e|E
   ·injection e with N O;subst N;subst O
    have hB:Mt _ _ _ w (Fh C H) _ _:=hh.hold k _ h1
    refine⟨Mt.to hB (S:=[]) (Ch.refl w) (by simp) fun b I _=>⟨by simp,hF b I⟩,fun k2 hk2=>?_⟩
    obtain⟨j,h6,h7⟩:=hbk k2 _ hk2
    exact W k (Qi ..) _ h6 (hh.dis j k _ h7 ⟨_,h1,by simp[Res.bl]⟩)
   ·exact L (fun k hk=>W k (Qd _ hk)) k' r E
  |l k _ h1 L=>
   intro W k' r E
   rcases Qm.1 E with e|E
   ·injection e with N O;subst N;subst O
    obtain⟨G,V,h5⟩:=rowS h1 w hh
    exact Row.to V (S:=[]) (Ch.refl w) (fun b I _=>⟨by simp,hF b I⟩) fun b I _=>⟨by simp,hnb b (h5 b I)⟩
   ·exact L W k' r E
  |nl _ L=>
   intro W k' r E
   rcases Qm.1 E with e|E
   ·injection e with N O;subst N;subst O
    exact⟨Q7 _,by simp[maxLen],[],by simp,.inl rfl,fun i x hi=>by simp at hi⟩
   ·exact L W k' r E
  |ns _ L=>
   intro W k' r E
   rcases Qm.1 E with e|E
   ·injection e with N O;subst N;subst O;exact Qcp _
   ·exact L W k' r E
 have hls: ∀k,k∈ls→∀p,p∈ms→p.2≠k:=fun k hk p hp e=>by
  have V:=Q8.1 h3 k hk
  simp only[Xc,List.any_map,Xf]at V
  exact V p hp (by simp[Function.comp,e])
 refine⟨Ch.refl' _ _,fun k r hk1=>hholds h hls k r (hvis hk1),fun k b I=>?_,fun k k' b I hb'=>?_,fun k r j hk1 hr=>?_⟩
 ·obtain⟨j,V,h5⟩:=hbk k b I
  exact⟨.inr (Qbl.2 ⟨_,V,h5⟩),(hh.bnd j b h5).2⟩
 ·obtain⟨j,V,h5⟩:=hbk k b I
  obtain⟨j',h6,h7⟩:=hbk k' b hb'
  exact Qdk (f:=fun p:Nat×Nat=>p.2) (g:=fun p:Nat×Nat=>p.1) h2 (k,j) (k',j') V h6 (hh.dis j j' b h5 h7)
 ·rw[(hmoved h k r (hvis hk1)).1]at hr;cases hr
def kill:List Nat→List (Nat×Res)→List (Nat×Res)
 | [],H=>H
 |k::ks,H=>(k,.dead)::drp k (kill ks H)
theorem Qbv {H:List (Nat×Res)}: ∀{ks:List Nat} {j:Nat} {r:Res},hk (kill ks H) j=some r→r=.dead∨(hk H j=some r∧j∉ks∧∀k,k∈ks→r.ref≠some k)
 | [],j,r,h=>.inr ⟨h,by simp,by simp⟩
 |k::ks,j,r,h=>by
  unfold kill at h
  rw[Qaa]at h
  split at h
  ·injection h with h;exact .inl h.symm
  ·rename_i E
   rcases Qay k _ j r h with I|⟨I,V⟩
   ·exact .inl I
   ·rcases Qbv I with L|⟨L,W,h5⟩
    ·exact .inl L
    ·refine .inr ⟨L,fun N=>?_,fun i O=>?_⟩
     ·rcases Qm.1 N with e|N
      ·exact E e.symm
      ·exact W N
     ·rcases Qm.1 O with rfl|O
      ·exact V
      ·exact h5 i O
theorem Qbz {k:Nat}: ∀{H:List (Nat×Res)} {j:Nat} {r:Res},hk H j=some r→r.ref≠some k→hk (drp k H) j=some r
 | [],_,_,h,_=>by cases h
 |(d,u)::q,j,r,E,I=>by
  unfold drp
  rw[Qaa]at E ⊢
  by_cases L:d=j
  ·rw[if_pos L]at E ⊢
   injection E with E
   subst E
   cases N:u.ref with
   |none=>rfl
   |some i=>
    simp only[]
    have:Nat.beq i k=false:=by cases O:Nat.beq i k with
     |false=>rfl
     |true=>exact absurd (by rw[N,Qz O]) I
    rw[this];rfl
  ·rw[if_neg L]at E ⊢
   exact Qbz E I
theorem Qcd {H:List (Nat×Res)}: ∀{ks:List Nat} {j:Nat} {r:Res},hk H j=some r→j∉ks→(∀k,k∈ks→r.ref≠some k)→hk (kill ks H) j=some r
 | [],_,_,h,_,_=>h
 |k::ks,j,r,h,E,I=>by
  unfold kill
  rw[Qaa,if_neg (fun e=>E (by rw[e];exact Qi ..))]
  exact Qbz (Qcd h (fun L=>E (Qd _ L)) fun i N=>I i (Qd _ N)) (I k (Qi ..))
def sft (n:Nat):List (Nat×Res)→List (Nat×Res)
 | []=>[]
 |(k,r)::H=>(k+n,r)::sft n H
theorem Qcs {n:Nat}{H0:List (Nat×Res)}: ∀{H:List (Nat×Res)} {j:Nat} {r:Res},hk (hcat (sft n H) H0) j=some r→(∃k,j=k+n∧hk H k=some r)∨(hk H0 j=some r∧∀k,j=k+n→hk H k=none)
 | [],j,r,h=>.inr ⟨h,fun _ _=>rfl⟩
 |(d,u)::H,j,r,h=>by
  replace h:hk ((d+n,u)::hcat (sft n H) H0) j=some r:=h
  rw[Qaa]at h
  split at h
  ·rename_i e;injection h with h;subst h;exact .inl ⟨d,e.symm,by rw[Qaa,if_pos rfl]⟩
  ·rename_i E
   rcases Qcs h with⟨k,I,L⟩|⟨I,L⟩
   ·exact .inl ⟨k,I,by rw[Qaa,if_neg (fun e=>E (by rw[e,I]))];exact L⟩
   ·exact .inr ⟨I,fun k hk=>by rw[Qaa,if_neg (fun e=>E (by rw[e,hk]))];exact L k hk⟩
def outs:List (Nat×Res)→Bool
 | []=>true
 |(_,r)::H=>(match r with| .ln _ _ _ _=>false| .el _ _ _ _=>false| .mit _ _ _ _ _ _=>false| .lmp _ _ _ _ _ _=>false|_=>true)&&outs H
theorem Qba: ∀{H:List (Nat×Res)} {k:Nat} {r:Res},outs H=true→hk H k=some r→(∀t A c xs,r≠ .ln t A c xs)∧(∀k b o cs,r≠ .el k b o cs)∧r.ref=none
 | [],_,_,_,h=>by cases h
 |(d,u)::H,k,r,E,h=>by
  simp only[outs,Qk]at E
  rw[Qaa]at h
  split at h
  ·injection h with h;subst h
   cases u<;>simp_all [Res.ref]
  ·exact Qba E.2 h
theorem outs_lmp: ∀{H:List (Nat×Res)} {k:Nat} {κ:Type} {enc:κ→Value} {t:Ty} {agg:Bool} {b:Nat} {m:List (κ×t.den)},outs H=true→hk H k=some (.lmp κ enc t agg b m)→False
 | [],_,_,_,_,_,_,_,_,h=>by cases h
 |(d,u)::H,k,_,_,_,_,_,_,E,h=>by
  simp only[outs,Qk]at E
  rw[Qaa]at h
  split at h
  ·injection h with h;subst h;exact absurd E.1 (by simp)
  ·exact outs_lmp E.2 h
def frs (n:Nat)(H:List (Nat×Res)):List (Nat×Res)→Bool
 | []=>true
 |(k,_)::H'=>(match hk H (k+n)with|none=>true|some _=>false)&&frs n H H'
theorem Hp.back {C:Cx}{H H':List (Nat×Res)}{w w':World}{ms:List (Nat×Nat)}{n:Nat}(h:Hp C H w)(h':Hp ⟨0,[],w,blks H ms,Fh C H⟩ H' w')(ho:outs H'=true)(hf:frs n H H'=true):Hp C (hcat (sft n H') (kill (ms.map (·.2)) H)) w':=by
 have hS: ∀b,b∈blks H ms→∃k,k∈ms.map (·.2)∧Bk H k b:=fun b L=>by
  obtain⟨p,I,E⟩:=Qbl.1 L;exact⟨p.2,Xm.2 ⟨p,I,rfl⟩,E⟩
 have hbk: ∀j b,Bk (hcat (sft n H') (kill (ms.map (·.2)) H)) j b→(∃k,j=k+n∧Bk H' k b)∨((∀k,j=k+n→hk H' k=none)∧Bk H j b∧j∉ms.map (·.2)):=fun j b ⟨r,I,E⟩=>by
  rcases Qcs I with⟨k,O,N⟩|⟨O,N⟩
  ·exact .inl ⟨k,O,r,N,E⟩
  ·rcases Qbv O with rfl|⟨h5,h6,_⟩
   ·cases E
   ·exact .inr ⟨N,⟨r,h5,E⟩,h6⟩
 have hnew: ∀k b,Bk H' k b→(w.heap.size≤b∨b∈blks H ms)∧b<w'.heap.size:=fun k b L=>h'.bnd k b L
 have hold: ∀b,(∀k,¬Bk H k b)→b<w.heap.size→b∉blks H ms∧∀j,¬Bk (hcat (sft n H') (kill (ms.map (·.2)) H)) j b:=fun b hB V=>by
  refine⟨fun L=>by obtain⟨k,_,I⟩:=hS b L;exact hB k I,fun j hj=>?_⟩
  rcases hbk j b hj with⟨k,_,I⟩|⟨_,I,_⟩
  ·rcases(hnew k b I).1 with E|E
   ·omega
   ·obtain⟨k,_,O⟩:=hS b E;exact hB k O
  ·exact hB j I
 have W:=h'.ch
 have hsz:w.heap.size≤w'.heap.size:=W.size
 have hrefk: ∀j r i,hk H j=some r→r.ref=some i→i∉ms.map (·.2)→∀b,Bk H i b→Bk (hcat (sft n H') (kill (ms.map (·.2)) H)) i b:=fun j r i hj hr hi b L=>by
  obtain⟨r2,I,E⟩:=L
  have O:=(h.ref j r i hj hr).2 r2 I
  refine⟨r2,?_,E⟩
  have N:hk (kill (ms.map (·.2)) H) i=some r2:=Qcd I hi fun k _=>by rw[O];simp
  have h5: ∀{H':List (Nat×Res)},frs n H H'=true→hk (hcat (sft n H') (kill (ms.map (·.2)) H)) i=some r2:=by
   intro H'
   induction H' with
   |nil=>intro _;exact N
   |cons p q ih=>
    obtain⟨d,u⟩:=p
    intro hf
    simp only[frs,Qk]at hf
    show hk ((d+n,u)::hcat (sft n q) _) i=some r2
    rw[Qaa,if_neg (fun e=>by subst e;rw[I]at hf;exact absurd hf.1 (by simp))]
    exact ih hf.2
  exact h5 hf
 refine⟨?_,fun j r hj=>?_,fun j b hj=>?_,fun j j' b hj hj'=>?_,fun j r i hj hri=>?_⟩
 ·have hc0:=h.ch
  refine⟨W.os.trans hc0.os,W.tape.trans hc0.tape,W.output.trans hc0.output,Q6 hc0.size W.size,fun b L hn=>?_⟩
  have hb2:b∉blks H ms:=fun hbS=>by
   obtain⟨k,_,I⟩:=hS b hbS
   rcases(h.bnd k b I).1 with E|E
   ·omega
   ·exact hn E
  rw[W.block b (Qj L hc0.size) hb2]
  exact hc0.block b L hn
 ·rcases Qcs hj with⟨k,rfl,I⟩|⟨I,_⟩
  ·obtain⟨o1,o2,o3⟩:=Qba ho I
   have hh:=h'.hold k r I
   have hF: ∀b,Fh ⟨0,[],w,blks H ms,Fh C H⟩ H' b→b<w'.heap.size→Fh C (hcat (sft n H') (kill (ms.map (·.2)) H)) b:=fun b L V=>by
    refine⟨fun j hj=>?_,?_⟩
    ·rcases hbk j b hj with⟨k,_,E⟩|⟨_,E,O⟩
     ·exact L.1 k E
     ·rcases L.2 with N|N|N
      ·exact N.1 j E
      ·have:=(h.bnd j b E).2;have N:w.heap.size≤b:=N;omega
      ·obtain⟨k,h5,h6⟩:=hS b N;exact O (by rw[h.dis j k b E h6];exact h5)
    ·rcases L.2 with N|N|N
     ·exact N.2
     ·exact .inr (.inl (Q6 h.ch.size N))
     ·obtain⟨k,_,h6⟩:=hS b N;exact .inr (h.bnd k b h6).1
   cases r with
   |ln t A c xs=>exact absurd rfl (o1 t A c xs)
   |el k b o cs=>exact absurd rfl (o2 k b o cs)
   |mit k g b n seen la=>cases o3
   |dead=>trivial
   |sh t cs x=>exact rep_to hh (S:=[]) (Ch.refl w') fun b L V=>⟨by simp,hF b L V⟩
   |own t e A c xs=>exact Own.to hh (S:=[]) (Ch.refl w') (by simp) fun b L V=>⟨by simp,hF b L V⟩
   |blk g e cs=>exact hh
   |mp κ enc t agg b m=>exact Mt.to hh (S:=[]) (Ch.refl w') (by simp) fun b L V=>⟨by simp,hF b L V⟩
   |si g s p=>exact hh
   |ob g p=>exact hh
   |lmp κ enc t agg b m=>exact(outs_lmp ho I).elim
   |mr κ enc t e b As m=>exact Mr.to hh (S:=[]) (Ch.refl w') (by simp) fun b L V=>⟨by simp,hF b L V⟩
   |gn bs p hp=>exact hp hh (S:=[]) (Ch.refl w') (by simp) fun b L V=>⟨by simp,hF b L V⟩
  ·rcases Qbv I with rfl|⟨E,O,N⟩
   ·trivial
   ·refine Res.to (h.hold j r E) W (fun b L V=>⟨(hold b L.1 V).1,(hold b L.1 V).2,L.2⟩) (fun b L V=>hold b L V) (fun i b hi hB=>⟨fun hbS=>?_,?_⟩) fun b L hbS=>?_
    ·obtain⟨k,h5,h6⟩:=hS b hbS;exact N k h5 (by rw[hi,h.dis i k b hB h6])
    ·exact hrefk j r i E hi (fun hm=>N i hm hi) b hB
    ·obtain⟨k,h5,h6⟩:=hS b hbS;exact O (by rw[h.dis j k b ⟨r,E,L⟩ h6];exact h5)
 ·rcases hbk j b hj with⟨k,_,I⟩|⟨_,I,_⟩
  ·obtain⟨E,O⟩:=hnew k b I
   refine⟨?_,O⟩
   rcases E with E|E
   ·exact .inl (Q6 h.ch.size E)
   ·obtain⟨k,_,h6⟩:=hS b E;exact(h.bnd k b h6).1
  ·exact⟨(h.bnd j b I).1,Qj (h.bnd j b I).2 hsz⟩
 ·have cross: ∀k j b,Bk H' k b→Bk H j b→j∉ms.map (·.2)→False:=fun k j b I E O=>by
   rcases(hnew k b I).1 with N|N
   ·have:=(h.bnd j b E).2;omega
   ·obtain⟨i,h5,h6⟩:=hS b N;exact O (by rw[h.dis j i b E h6];exact h5)
  rcases hbk j b hj with⟨k,rfl,I⟩|⟨_,I,O⟩<;>rcases hbk j' b hj' with⟨k',rfl,E⟩|⟨_,E,N⟩
  ·rw[h'.dis k k' b I E]
  ·exact(cross k j' b I E N).elim
  ·exact(cross k' j b E I O).elim
  ·exact h.dis j j' b I E
 ·rcases Qcs hj with⟨k,rfl,I⟩|⟨I,_⟩
  ·rw[(Qba ho I).2.2]at hri;cases hri
  ·rcases Qbv I with rfl|⟨E,O,N⟩
   ·cases hri
   ·obtain⟨h5,h6⟩:=h.ref j r i E hri
    refine⟨h5,fun r2 h7=>?_⟩
    rcases Qcs h7 with⟨k,rfl,h8⟩|⟨h8,_⟩
    ·exact(Qba ho h8).2.2
    ·rcases Qbv h8 with rfl|⟨h9,_⟩
     ·rfl
     ·exact h6 r2 h9
section
variable {r:Option Nat}{P:Program}{ops:Array Oper}{Q:Exit→Act→World→Prop}{rest lst:List Oper}{C:Cx}{l:List (Nat×Value)}{H:List (Nat×Res)}{d:Nat}{T:TypeId}{pos:String}{af:Array Edge}
theorem Qcb {H:List (Nat×Res)}: ∀(ks:List Nat) (j:Nat),hk (kill ks H) j=bif ks.any (Nat.beq j)then some .dead else(hk H j).map fun v=>bif rin ks v.ref then .dead else v
 | [],j=>by
  show hk H j=(hk H j).map _
  cases hk H j with
  |none=>rfl
  |some v=>cases L:v.ref<;>simp[rin,L]
 |k::ks,j=>by
  show hk ((k,.dead)::drp k (kill ks H)) j=_
  rw[Qaa,Qaw,Qcb ks j,List.any_cons]
  by_cases E:k=j
  ·subst E;simp
  have I:Nat.beq j k=false:=by cases N:Nat.beq j k with
   |false=>rfl
   |true=>exact absurd (Qz N).symm E
  rw[if_neg E,I]
  revert I;intro _
  cases ks.any (Nat.beq j)<;>cases L:hk H j<;>try rfl
  rename_i v
  cases O:v.ref with
  |none=>simp[rin,O]
  |some i=>simp only[cond_false,Bool.false_or,Q9,rin,O,List.any_cons,List.any_nil,Bool.or_false];cases N:ks.any (Nat.beq i)<;>cases V:Nat.beq i k<;>simp_all [rin,Res.ref]
def kld (js:List Nat)(H:List (Nat×Res))(ks:List Nat):List (Nat×Res):=ded ks (ded js H)
theorem hk_kld {H:List (Nat×Res)}{ks js:List Nat}(h:hng ks js H=true)(j:Nat):hk (kld js H ks) j=hk (kill ks H) j∨(hk (kld js H ks) j=some .dead∧hk (kill ks H) j=none):=by
 rw[kld,Qbp,Qbp,Qcb]
 cases ks.any (Nat.beq j)with
 |true=>exact .inl rfl
 |false=>exact Qcz h j
theorem hk_hcat: ∀{A H H':List (Nat×Res)},(∀j,hk H' j=hk H j∨(hk H' j=some .dead∧hk H j=none))→∀j,hk (hcat A H') j=hk (hcat A H) j∨(hk (hcat A H') j=some .dead∧hk (hcat A H) j=none)
 | [],_,_,h,j=>h j
 |(d,u)::A,H,H',h,j=>by
  show hk ((d,u)::hcat A H') j=hk ((d,u)::hcat A H) j∨(hk ((d,u)::hcat A H') j=some .dead∧hk ((d,u)::hcat A H) j=none)
  rw[Qaa,Qaa]
  by_cases E:d=j
  ·rw[if_pos E,if_pos E];exact .inl rfl
  ·rw[if_neg E,if_neg E];exact hk_hcat (A:=A) h j
theorem AL.call (n:Nat)(js:List Nat){f:FuncId}{c:Operand}{xs:List Operand}{vs vs' first cap:List Value}{ts:Array TypeId}{H0:List (Nat×Res)}{ms:List (Nat×Nat)}{ls:List Nat}{S:List Nat}{R:Value→List (Nat×Res)→Prop}
  (E: ∀args w,(callFunc f args).run P w=.ok (.enter f args) w) (I:Ct P f vs' H0 S R) (V:Sub H H0 ms ls)
  (h: ∀v H',R v H'→(outs H'&&frs n H H')=true∧AL r P ops Q rest C ((d,v)::l) (hcat (sft n H') (kld js H (ms.map (·.2)))))
  (W:ev l c=some (.func (.func f) first.toArray cap.toArray):=by rfl) (hx:evs l xs=some vs:=by rfl) (hv:first++vs++cap=vs':=by rfl) (hS:blks H ms=S:=by rfl) (h1:nod (H0.map (·.1))=true:=by rfl) (h2:nod (ms.map (·.2))=true:=by rfl) (h3:ls.all (fun k=> !(ms.map (·.2)).any (Nat.beq k))=true:=by rfl) (hd:Nat.ble (d+1) C.n=true:=by rfl) (hj:hng (ms.map (·.2)) js H=true:=by kernel_rfl):
  AL r P ops Q (⟨some d,.call {callee:=.value c,args:=xs.toArray,argTypes:=ts},T,pos,af,none⟩::rest) C l H:=fun a w N O=>by
 subst hS;subst hv
 refine Z.call1 N hd (r_callv E N (first:=first) (cap:=cap) (vs:=vs) (xs:=xs) W hx) (I w (Fh C H) (V.hp O h1 h2 h3)) fun e w' ⟨v,H',he,hR,hh'⟩=>⟨v,he,fun a' hf'=>?_⟩
 obtain⟨L,h5⟩:=h v H' hR
 rw[Qk]at L
 exact h5 a' w' hf' ((O.back hh' L.1 L.2).ext (hk_hcat (hk_kld hj)))
end
theorem pk_kont {r:Option Nat}{P:Program}{Y:Exit→Act→World→Prop}(hp:Pq Y): ∀{K:List Kx},Pq (kont r P Y K)
 | []=>hp
 | .c _::K=>fun c a d v w h=>pk_kont hp (K:=K) c a d v w h
 | .b _::K=>fun c a d v w h=>pk_kont hp (K:=K) c a d v w h
 | .m _::K=>fun c a d v w h=>pk_kont hp (K:=K) c a d v w h
 | .s::K=>fun c a d v w h=>pk_kont hp (K:=K) c a d v w h
section
variable {r:Option Nat}{P:Program}{ops:Array Oper}{Q:Exit→Act→World→Prop}{S S':World→Prop}{m:Nat}
def gn (ops:Array Oper)(li:Array Bool)(m:Nat):Bool:=(ops[m]?).isSome&&li.getD m false
def Hem (r:Option Nat)(P:Program)(ops:Array Oper)(Q:Exit→Act→World→Prop)(S:World→Prop)(m:Nat):Nat→Array Bool→Act→World→Prop
 |0,listed,a,w=>Region.ready .any ops listed=[]∧Q .normal a w
 |f+1,listed,a,w=>(Region.ready .any ops listed=[]→Q .normal a w)∧
  ∀i∈Region.ready .any ops listed,wpOpIn (FW r) 0 P ops Q i (fun a' w'=>(gn ops (listed.setIfInBounds i true) m=false→S w')∧Hem r P ops Q S m f (listed.setIfInBounds i true) a' w') a w
theorem Hem.any: ∀(f:Nat) (listed:Array Bool) (a:Act) (w:World),Hem r P ops Q S m f listed a w→wpAnyIn (FW r) 0 P .any ops Q f listed a w
 |0,_,_,_,h=>h
 |f+1,_,_,_,h=>⟨h.1,fun i E=>wpOpIn_mono (fun a' w' h'=>Hem.any f _ a' w' h'.2) (h.2 i E)⟩
def bonf (ops:Array Oper)(i:Nat):Nat→Nat→Bool
 |0,_=>false
 |f+1,m=>match ops[m]? with
  |none=>false
  |some o=>(o.after.any fun e=>Region.binds .any e&&Nat.beq e.on i)||o.after.any fun e=>Region.binds .any e&&bonf ops i f e.on
def bon (ops:Array Oper)(m i:Nat):Bool:=match ops[m]? with
 |none=>true
 |some _=> !(Nat.beq i m)&&bonf ops i 12 m
def Clo (ops:Array Oper)(li:Array Bool):Prop:=∀k o,ops[k]?=some o→li.getD k false=true→∀e∈o.after,Region.binds .any e=true→li.getD e.on false=true
def cloB (ops:Array Oper)(li:Array Bool):Bool:=(List.range ops.size).all fun k=>match ops[k]? with
 |none=>true
 |some o=> !(li.getD k false)||o.after.all fun e=> !(Region.binds .any e)||li.getD e.on false
theorem clo_of {ops:Array Oper}{li:Array Bool}(h:cloB ops li=true):Clo ops li:=fun k o hk E e I L=>by
 have:=Q8.1 h k (List.mem_range.2 (Qe.1 hk).1)
 rw[hk]at this
 simp only[E,Wx,Bool.false_or]at this
 have N:=(Array.all_eq_true_iff_forall_mem.1 this) e I
 simpa[L] using N
theorem Qby {li:Array Bool}{j k:Nat}(h:li.getD k false=true):(li.setIfInBounds j true).getD k false=true:=by
 by_cases e:j=k
 ·subst e
  by_cases E:j<li.size
  ·simp[E]
  ·simp[Ww (Nat.le_of_not_lt E)]at h
 ·rw[getD_set_ne false e];exact h
theorem Clo.step {ops:Array Oper}{li:Array Bool}{j:Nat}(h:Clo ops li)(V:j∈Region.ready .any ops li):Clo ops (li.setIfInBounds j true):=fun k o hk L e N O=>by
 by_cases I:j=k
 ·subst I
  obtain⟨_,oj,E,hall⟩:=mem_ready.1 V
  rw[hk]at E;injection E with E;subst E
  exact Qby (hall e N O)
 ·rw[getD_set_ne false I]at L
  exact Qby (h k o hk L e N O)
theorem Qbw {ops:Array Oper}{li:Array Bool}{i:Nat}(O:Clo ops li): ∀(f m:Nat) {o:Oper},ops[m]?=some o→(∀e∈o.after,Region.binds .any e=true→li.getD e.on false=true)→bonf ops i f m=true→li.getD i false=true
 |0,_,_,_,_,h=>by cases h
 |f+1,m,o,W,V,h=>by
  unfold bonf at h
  rw[W]at h
  simp only[Bool.or_eq_true,Array.any_eq_true']at h
  rcases h with⟨e,L,E⟩|⟨e,L,E⟩
  ·rw[Qk]at E
   rw[←Qz E.2];exact V e L E.1
  ·rw[Qk]at E
   have I:=E.2
   cases f with
   |zero=>cases I
   |succ f=>
    cases N:ops[e.on]? with
    |none=>unfold bonf at I;rw[N]at I;cases I
    |some o'=>exact Qbw O (f+1) e.on N (O e.on o' N (V e L E.1)) I
theorem gn_ne {li:Array Bool}{i:Nat}(h:i≠m):gn ops (li.setIfInBounds i true) m=gn ops li m:=by unfold gn;rw[getD_set_ne false h]
theorem Qdj {li:Array Bool}{j:Nat}(h:gn ops (li.setIfInBounds j true) m=false):gn ops li m=false:=by
 cases E:gn ops li m with
 |false=>rfl
 |true=>
  unfold gn at h E
  rw[Qk]at E
  rw[E.1,Qby E.2]at h;cases h
theorem bon_ne {i:Nat}{oi:Oper}(E:ops[i]?=some oi)(h:bon ops m i=true):i≠m:=fun e=>by
 subst e
 unfold bon at h
 rw[E]at h
 simp only[Qk,Wz,Wx,Wd,false_and]at h
theorem bon_gn {li:Array Bool}{i:Nat}(V:Clo ops li)(L:bon ops m i=true)(hr:i∈Region.ready .any ops li):gn ops li m=false:=by
 cases E:gn ops li m with
 |false=>rfl
 |true=>
  unfold gn at E
  rw[Qk]at E
  unfold bon at L
  cases N:ops[m]? with
  |none=>rw[N]at E;cases E.1
  |some om=>
   rw[N]at L
   simp only[Qk]at L
   have O:=Qbw V 12 m N (V m om N E.2) L.2
   have W:=(mem_ready.1 hr).1
   by_cases I:i<li.size
   ·simp[I]at W O;rw[W]at O;cases O
   ·simp[Ww (Nat.le_of_not_lt I)]at O
theorem Hem.first {T:World→Prop}{i:Nat}{oi:Oper}{v:Value}(hn:Qas ops=true)(V:ops[i]?=some oi)(hs:Region.noSelect ops=true)(W:i≠m)(I:(bon ops m i=true∧∀w,S w→T w)∨∀w,T w)(hQ: ∀c a w,Q (.panic c) (a.put oi.dst v) w→Q (.panic c) a w): ∀(f:Nat) (listed:Array Bool) (a:Act) (w:World),Clo ops listed→
  (∀j oj,ops[j]?=some oj→j≠i→listed.getD j true=false→(∀e∈oj.after,Region.binds .any e=true→e.on≠i)→oi.apart ops oj=true)→i∈Region.ready .any ops listed→YieldsIf P ops T oi v a→(gn ops listed m=false→S w)→
  Hem r P ops Q S m f (listed.setIfInBounds i true) (a.put oi.dst v) w→Hem r P ops Q S m (f+1) listed a w
 |0,listed,a,w,L,_,N,hy,hS,H=>⟨fun h=>(by rw[h]at N;cases N),fun j hj=>by
   have hT:T w:=by
    rcases I with I|I
    ·exact I.2 w (hS (bon_gn L I.1 N))
    ·exact I w
   by_cases E:j=i
   ·subst E;exact Hel.op (Qam hn V) V hy hT ⟨fun h=>hS (Qdj h),H⟩
   ·have:=ready_mono hj E;rw[H.1]at this;cases this⟩
 |f+1,listed,a,w,L,hfree,N,hy,hS,H=>⟨fun h=>(by rw[h]at N;cases N),fun j hj=>by
   have hT:T w:=by
    rcases I with I|I
    ·exact I.2 w (hS (bon_gn L I.1 N))
    ·exact I w
   by_cases E:j=i
   ·subst E;exact Hel.op (Qam hn V) V hy hT ⟨fun h=>hS (Qdj h),H⟩
   ·have h1:=H.2 j (ready_mono hj E)
    obtain⟨hun,oj,O,hall⟩:=mem_ready.1 hj
    have hno: ∀e∈oj.after,Region.binds .any e=true→e.on≠i:=fun e he I heq=>by
     have hl:=hall e he I
     have h0:=(mem_ready.1 N).1
     rw[heq]at hl
     by_cases hsz:i<listed.size
     ·simp[hsz]at h0 hl;rw[h0]at hl;cases hl
     ·simp[Ww (Nat.le_of_not_lt hsz)]at hl
    have h2:=Hel.put (Qam hn O) O (hfree j oj O E hun hno) (fun cs b=>Region.noSelect_spec hs i oi cs b V) (fun cs b=>Region.noSelect_spec hs j oj cs b O) hQ hy h1
    refine wpOpIn_mono (fun a' w' h3=>?_) h2
    have hS':gn ops (listed.setIfInBounds j true) m=false→S w':=fun h=>h3.2.1 (by rw[Array.setIfInBounds_comm _ _ (Ne.symm E),gn_ne W];exact h)
    refine⟨hS',Hem.first hn V hs W I hQ f _ a' w' (L.step hj) (fun k ok hk hki hkun hkno=>hfree k ok hk hki ?_ hkno) (ready_mono N (Ne.symm E)) h3.1 hS' ?_⟩
    ·by_cases hjk:j=k
     ·subst hjk;exact hun
     ·rwa[getD_set_ne true hjk]at hkun
    ·rw[Array.setIfInBounds_comm _ _ E];exact h3.2.2⟩
theorem Hem.str (E: ∀w,S' w→S w): ∀(f:Nat) (li:Array Bool) (a:Act) (w:World),Hem r P ops Q S' m f li a w→Hem r P ops Q S m f li a w
 |0,_,_,_,h=>h
 |f+1,li,a,w,h=>⟨h.1,fun i I=>wpOpIn_mono (fun a' w' h'=>⟨fun L=>E w' (h'.1 L),Hem.str E f _ a' w' h'.2⟩) (h.2 i I)⟩
def HZ (r:Option Nat)(P:Program)(ops:Array Oper)(Q:Exit→Act→World→Prop)(S:World→Prop)(m fuel:Nat)(listed:Array Bool)(i:Nat):Exit→Act→World→Prop
 | .normal,a,w=>(gn ops (listed.setIfInBounds i true) m=false→S w)∧Hem r P ops Q S m fuel (listed.setIfInBounds i true) a w
 |e,a,w=>Q e a w
theorem Hem.list {a:Act}{w:World}{fuel:Nat}{listed:Array Bool}{i:Nat}{o:Oper}(N:ops[i]?=some o)(h:WL r P ops (HZ r P ops Q S m fuel listed i) [o] a w):wpOpIn (FW r) 0 P ops Q i (fun a' w'=>(gn ops (listed.setIfInBounds i true) m=false→S w')∧Hem r P ops Q S m fuel (listed.setIfInBounds i true) a' w') a w:=by
 unfold wpOpIn
 rw[N]
 simp only[]
 unfold WL wpListIn at h
 by_cases L:Region.wanted o (yielded ops a.tmps)=true
 ·rw[if_pos L]at h ⊢
  refine⟨h.1,?_⟩
  have h:=h.2
  generalize (o.semAt (FW r).round a.eval).run P w=res at h ⊢
  cases res with
  |ok x w'=>
   cases x with
   |enter f args=>exact⟨h.1,CallsIn.mono h.2 fun e w'' E=>by cases e<;>first|exact E|exact E.elim fun _ I=>I.elim fun _ I=>⟨_,_,I⟩⟩
   |row row args=>exact⟨h.1,RowsIn.mono h.2 fun _ _ E=>E⟩
   |round l f tmps assign body=>exact⟨h.1,RoundIn.mono h.2 fun e w'' E=>by cases e<;>first|exact E|exact E.elim fun _ I=>I.elim fun _ I=>⟨_,_,I⟩⟩
   |_=>exact h
  |halt x w'=>cases x<;>exact h
 ·rw[if_neg L]at h ⊢
  exact h
section
variable {K:Kn}{w:World}{n:Nat}{ds:List Deferred}
theorem dqm_walk {li':Array Bool}{f:Nat}(O:(Region.noSelect ops&&Qas ops)=true)(hQ: ∀c a d v w,Q (.panic c) (Act.put a d v) w→Q (.panic c) a w){bb:Nat→Bool}(I: ∀i,bb i=true→∀o,ops[i]?=some o→i≠m∧((bon ops m i=true∧∀w,S w→K.ok w)∨∀w,K.ok w)):
  ∀{is:List (Nat×Hint)} {li:Array Bool} {s s':QS} {a:Act},(gn ops li m=false→S w)→Clo ops li→is.all (fun p=>bb p.1)=true→dqs P K n ops is li s=some (li',s')→(∀p,p∈s'.c→p)→(∀p,p∈s'.q→p.1=p.2)→s.ok a n ds→(∀a',s'.ok a' n ds→Hem r P ops Q S m f li' a' w)→Hem r P ops Q S m (f+is.length) li a w
 | [],_,s,s',a,_,_,_,hq,_,_,hs,h=>by simp only[dqs,Qh,Xk]at hq;obtain⟨V,h2⟩:=hq;subst V;subst h2;exact h a hs
 |(i,g)::is,li,s,s',a,hS,L,W,hq,hc,he,hs0,h=>by
  have hn':=O
  rw[Qk]at O
  rw[List.all_cons,Qk]at W
  unfold dqs at hq
  split at hq
  ·rename_i o hi
   split at hq
   ·rename_i E
    rw[Qk]at E
    split at hq
    ·rename_i s1 V
     have N:=dqs_le hq
     obtain⟨d,v,hd,k1,k2,k3⟩:=o_aH hs0 V (fun p hp=>hc p (N.c p hp)) (fun p hp=>he p (N.q p hp))
     have hrest:Hem r P ops Q S m (f+is.length) (li.setIfInBounds i true) (a.put (some d) v) w:=dqm_walk hn' hQ I (fun hg=>hS (Qdj hg)) (L.step (by simpa using E.2)) W.2 hq hc he k1 h
     obtain⟨hne,hb1⟩:=I i W.1 o hi
     refine Hem.first (T:=K.ok) O.2 hi O.1 hne hb1 (fun c a w=>hQ c a _ v w) _ li a w L (Region.free_spec hi E.1) (by simpa using E.2) ?_ hS (by rw[hd];exact hrest)
     rcases k3 with⟨hw,hv⟩|⟨hw,rfl⟩
     ·exact .inl ⟨hw,hv⟩
     ·exact .inr ⟨hw,rfl⟩
    ·cases hq
   ·cases hq
  ·cases hq
end
variable {C:Cx}{l:List (Nat×Value)}{H Hq:List (Nat×Res)}{f:Nat}{li:List Bool}
abbrev AH (r:Option Nat) (P:Program) (ops:Array Oper) (Q:Exit→Act→World→Prop) (Hq:List (Nat×Res)) (m f:Nat) (li:List Bool) (C:Cx) (l:List (Nat×Value)) (H:List (Nat×Res)):Prop:=
 ∀a w,Fr a C.n C.ds l→Hp C H w→Hem r P ops Q (Hp C Hq) m f li.toArray a w
theorem Hp.drew {w w':World}(h:Hp C H w)(I:Ch [] w w'):Hp C H w':=by
 refine⟨?_,fun k r L=>?_,fun k b O=>?_,h.dis,h.ref⟩
 ·have E:=h.ch
  exact⟨I.os.trans E.os,I.tape.trans E.tape,I.output.trans E.output,Q6 E.size I.size,fun b hb' V=>by rw[I.block b (Qj hb' E.size) (by simp)];exact E.block b hb' V⟩
 ·exact Res.to (h.hold k r L) I (fun b W _=>⟨by simp,W⟩) (fun b N _=>⟨by simp,N⟩) (fun i b _ N=>⟨by simp,N⟩) (by simp)
 ·exact⟨(h.bnd k b O).1,Qj (h.bnd k b O).2 I.size⟩
theorem AX.dr {Y:Exit→Act→World→Prop}{K:List Kx}{id:Nat}{lo:List Oper}(I:P.follows .mixedOrders=true)(m f:Nat)(li:List Bool)(h:AH r P lo.toArray (kont r P Y K) [] m f li C l H)(E:lo.toArray.size=f:=by rfl)(L:(Array.replicate lo.toArray.size false).toList=li:=by kernel_rfl):
  AX r P Y K (.region id lo.toArray true) C l H:=fun a w N O=>by
 subst E;subst L
 have:=h a _ N (Hp.drew O (Ch.drew w))
 rw[Q1]at this
 exact wpIn_region_any I (Hem.any _ _ _ _ this)
theorem AH.str (gs:List Nat){Hq':List (Nat×Res)}(h:AH r P ops Q Hq' m f li C l H)(e:kpH Hq' gs gs=Hq:=by kernel_rfl):AH r P ops Q Hq m f li C l H:=fun a w E I=>
 Hem.str (fun w h=>h.cov gs e) _ _ a w (h a w E I)
theorem AH.q (hQ:Pq Q)(gs qs bs es:List Nat)(li':List Bool)(f:Nat)(is:List (Nat×Hint))(ks:List Nat)(cs:List Prop)(nl:List (Nat×Value)){g:Nat}(hc:conj cs)(h:AH r P ops Q (kpH H qs qs) m f li' C (cat nl l) H)
  (hg:g=f+is.length:=by rfl) (hb:is.all (fun p=>bon ops m p.1)=true:=by kernel_rfl) (N:cloB ops li.toArray=true:=by kernel_rfl) (hn:(Region.noSelect ops&&Qas ops)=true:=by kernel_rfl)
  (hq:((dqs P ⟨knb (kpH H qs qs) bs,kne (kpH H qs qs) es⟩ C.n ops is li.toArray (q0 l)).bind fun x=>(qfin l ks x.2).map fun y=>(x.1.toList,y))=some (li',cs,nl):=by kernel_rfl)
  (L:(dqs P ⟨knb (kpH H qs qs) bs,kne (kpH H qs qs) es⟩ C.n ops is li.toArray (q0 l)).map (fun s=>s.2.q.map Prod.fst)=(dqs P ⟨knb (kpH H qs qs) bs,kne (kpH H qs qs) es⟩ C.n ops is li.toArray (q0 l)).map (fun s=>s.2.q.map Prod.snd):=by kernel_rfl)
  (e:kpH (kpH H qs qs) gs gs=Hq:=by kernel_rfl):AH r P ops Q Hq m g li C l H:=AH.str gs (e:=e) fun a w hf W=>by
 subst hg
 cases I:dqs P ⟨knb (kpH H qs qs) bs,kne (kpH H qs qs) es⟩ C.n ops is li.toArray (q0 l)with
 |none=>rw[I]at hq;cases hq
 |some x=>
  obtain⟨li1,s'⟩:=x
  rw[I]at hq L
  have hq:((qfin l ks s').map fun y=>(li1.toList,y))=some (li',cs,nl):=hq
  have L:s'.q.map Prod.fst=s'.q.map Prod.snd:=by injection L
  cases E:qfin l ks s' with
  |none=>rw[E]at hq;cases hq
  |some y=>
   obtain⟨cs1,nl1⟩:=y
   rw[E]at hq
   simp only[Q9,Qh,Xk]at hq
   obtain⟨h1,h2,h3⟩:=hq
   subst h1;subst h2;subst h3
   have O:s'.c=cs1:=by unfold qfin at E;split at E;(injection E with E;injection E);cases E
   exact dqm_walk hn hQ (bb:=fun i=>bon ops m i) (fun i hi o ho=>⟨bon_ne ho hi,.inl ⟨hi,fun w' h'=>o_aJ h' bs es⟩⟩) (fun _=>W.keep qs) (clo_of N) hb I (by rw[O];exact Qcm hc) (Qbq L) (o_aI hf) fun a' V=>by
    have:=h a' w (qfin_fr V (dqs_inv (q0_inv l) I) E).1 W
    rwa[Q1]at this
theorem AH.v (hQ:Pq Q)(gs qs:List Nat)(i:Nat)(li':List Bool){d:Nat}{op:Op}{T:TypeId}{pos:String}{af:Array Edge}{v:Value}(I:ops[i]?=some ⟨some d,op,T,pos,af,none⟩)(hr: ∀a w,Fr a C.n C.ds l→Hp C (kpH H qs qs) w→(execOp a.eval ⟨some d,op,T,pos,af,none⟩).run P w=.ok (.value v) w)
  (h:AH r P ops Q (kpH H qs qs) m f li' C ((d,v)::l) H) (O:bon ops m i=true:=by kernel_rfl) (L:cloB ops li.toArray=true:=by kernel_rfl) (hl:(li.toArray.setIfInBounds i true).toList=li':=by kernel_rfl) (hd:Nat.ble (d+1) C.n=true:=by rfl) (N:(Region.noSelect ops&&Qas ops)=true:=by kernel_rfl)
  (E:(Region.free .any ops li.toArray i&&(Region.ready .any ops li.toArray).contains i)=true:=by kernel_rfl) (e:kpH (kpH H qs qs) gs gs=Hq:=by kernel_rfl):AH r P ops Q Hq m (f+1) li C l H:=AH.str gs (e:=e) fun a w V W=>by
 rw[Qk]at N E
 refine Hem.first (T:=Hp C (kpH H qs qs)) N.2 I N.1 (bon_ne I O) (.inl ⟨O,fun _ h=>h⟩) (fun c a w=>hQ c a _ _ w) f li.toArray a w (clo_of L) (Region.free_spec I E.1) (by simpa using E.2) (.inl ⟨Qat,fun w' h'=>hr a w' V h'⟩) (fun _=>W.keep qs) ?_
 have:=h _ w (V.put (Qn hd) v) W
 rw[←hl,Q1]at this
 exact this
theorem AH.vg (hQ:Pq Q)(gs qs:List Nat)(i:Nat)(li':List Bool){d j dj:Nat}{b:Bool}{op:Op}{T:TypeId}{pos:String}{af:Array Edge}{v:Value}(I:ops[i]?=some ⟨some d,op,T,pos,af,some (j,b)⟩)(hr: ∀a w,Fr a C.n C.ds l→Hp C (kpH H qs qs) w→(execOp a.eval ⟨some d,op,T,pos,af,none⟩).run P w=.ok (.value v) w)
  (h:AH r P ops Q (kpH H qs qs) m f li' C ((d,v)::l) H) (hj:(ops[j]?).bind (·.dst)=some dj:=by rfl) (L:lk l dj=some (.bool b):=by rfl) (W:bon ops m i=true:=by kernel_rfl) (N:cloB ops li.toArray=true:=by kernel_rfl) (hl:(li.toArray.setIfInBounds i true).toList=li':=by kernel_rfl) (hd:Nat.ble (d+1) C.n=true:=by rfl) (O:(Region.noSelect ops&&Qas ops)=true:=by kernel_rfl)
  (E:(Region.free .any ops li.toArray i&&(Region.ready .any ops li.toArray).contains i)=true:=by kernel_rfl) (e:kpH (kpH H qs qs) gs gs=Hq:=by kernel_rfl):AH r P ops Q Hq m (f+1) li C l H:=AH.str gs (e:=e) fun a w V hh=>by
 rw[Qk]at O E
 refine Hem.first (T:=Hp C (kpH H qs qs)) O.2 I O.1 (bon_ne I W) (.inl ⟨W,fun _ h=>h⟩) (fun c a w=>hQ c a _ _ w) f li.toArray a w (clo_of N) (Region.free_spec I E.1) (by simpa using E.2) (.inl ⟨Qax V hj L,fun w' h'=>hr a w' V h'⟩) (fun _=>hh.keep qs) ?_
 have:=h _ w (V.put (Qn hd) v) hh
 rw[←hl,Q1]at this
 exact this
theorem AH.one (i:Nat){o:Oper}(h:AL r P ops (HZ r P ops Q (Hp C Hq) m f li.toArray i) [o] C l H)(N:ops[i]?=some o:=by rfl)(E:Region.ready .any ops li.toArray=[i]:=by kernel_rfl):AH r P ops Q Hq m (f+1) li C l H:=fun a w O V=>
 ⟨fun I=>(by rw[E]at I;cases I),fun j L=>by rw[E,Qb]at L;subst L;exact Hem.list N (h a w O V)⟩
theorem AH.two (i j:Nat){oi oj:Oper}(O:AL r P ops (HZ r P ops Q (Hp C Hq) m f li.toArray i) [oi] C l H)(V:AL r P ops (HZ r P ops Q (Hp C Hq) m f li.toArray j) [oj] C l H)(W:ops[i]?=some oi:=by rfl)(hj:ops[j]?=some oj:=by rfl)(E:Region.ready .any ops li.toArray=[i,j]:=by kernel_rfl):
  AH r P ops Q Hq m (f+1) li C l H:=fun a w I L=>
 ⟨fun N=>(by rw[E]at N;cases N),fun k hk=>by
  rw[E]at hk
  simp only[Qm,List.not_mem_nil,or_false]at hk
  rcases hk with rfl|rfl
  ·exact Hem.list W (O a w I L)
  ·exact Hem.list hj (V a w I L)⟩
theorem AH.nx {i:Nat}(li':List Bool)(gs:List Nat)(h:AH r P ops Q Hq m f li' C l H)(e:kpH H gs gs=Hq:=by kernel_rfl)(I:(li.toArray.setIfInBounds i true).toList=li':=by kernel_rfl):AL r P ops (HZ r P ops Q (Hp C Hq) m f li.toArray i) [] C l H:=fun a w L E=>by
 refine Z.done ?_
 show(_→Hp C Hq w)∧_
 have:=h a w L E
 rw[←I,Q1]at this
 exact⟨fun _=>E.cov gs e,this⟩
theorem AH.nm {i:Nat}(li':List Bool)(h:AH r P ops Q Hq m f li' C l H)(E:(li.toArray.setIfInBounds i true).toList=li':=by kernel_rfl)(I:gn ops li'.toArray m=true:=by kernel_rfl):AL r P ops (HZ r P ops Q (Hp C Hq) m f li.toArray i) [] C l H:=fun a w L N=>by
 refine Z.done ?_
 show(_→Hp C Hq w)∧_
 have:=h a w L N
 rw[←E,Q1]at this
 rw[←E,Q1]at I
 exact⟨fun h=>(by rw[I]at h;cases h),this⟩
theorem AH.done {Y:Exit→Act→World→Prop}{K:List Kx}(h:AE r P Y K .normal C l H)(E:Region.ready .any ops li.toArray=[]:=by kernel_rfl):AH r P ops (kont r P Y K) Hq m f li C l H:=fun a w I L=>by
 cases f with
 |zero=>exact⟨E,h a w I L⟩
 |succ f=>exact⟨fun _=>h a w I L,by rw[E];simp⟩
theorem cov {X:Act→World→Prop}{l':List (Nat×Value)}{H':List (Nat×Res)}(gs:List Nat)(h: ∀a w,Fr a C.n C.ds l'→Hp C H' w→X a w)(E:kp l (l'.map (·.1))=l':=by kernel_rfl)(I:kpH H gs gs=H':=by kernel_rfl): ∀a w,Fr a C.n C.ds l→Hp C H w→X a w:=fun a w L N=>h a w (Fr.cov L E) (N.cov gs I)
end
theorem peek {C:Cx}{H:List (Nat×Res)}{w:World}(hh:Hp C H w)(k kn:Nat){t:Ty}{A:Option Addr}{c:Nat}{xs:List t.den}{i:Int}{v:t.den}(hi:ix xs i=some v)(hrow: ∀w,Hp C H w→∃G:Nat→Prop,Row t w (Fh C H) G A c xs∧∀b,G b→∀k,¬Bk H k b)(N:nok H kn (1+lv t)=true):
  ∃ps:Lf,ps.length=lv t∧t.ok v∧∃b o,A=some ⟨b,o,none⟩∧Hp C (hcat (kx (kn+1) (rs t v ps)) ((kn,.el none b (o+i.toNat*t.size) (cl t v ps))::H)) w:=by
 obtain⟨k,rfl,hv⟩:=Qag hi
 obtain⟨G,hR,hG⟩:=hrow w hh
 obtain⟨b,o,es,hA,hb,O,hc,hr⟩:=hR.at hv
 obtain⟨ps,hl,rfl,V⟩:=rep_cl (B:=Bk H) t (Qae t hr)
 have L:hk H kn=none:=Qan N (Q7 _) (by omega)
 have h1:Hp C ((kn,.el none b (o+k*t.size) (cl t v ps))::H) w:=hh.add L rfl (fun j E=>by cases E) ⟨hc,O,hG b hb⟩
 have W: ∀n k',nok H k' n=true→(∀j,k'≤j→j<k'+n→j≠kn)→nok ((kn,.el none b (o+k*t.size) (cl t v ps))::H) k' n=true:=by
  intro n
  induction n with
  |zero=>intro _ _ _;rfl
  |succ n ih=>
   intro k' h2 h3
   simp only[nok,Qk]at h2 ⊢
   refine⟨?_,ih (k'+1) h2.2 fun j h4 h5=>h3 j (by omega) (by omega)⟩
   rw[Qaa,if_neg (Ne.symm (h3 k' (Q7 _) (by omega)))];exact h2.1
 have hn2:nok H (kn+1) (rs t v ps).length=true:=by
  rw[Qbi t v ps hl]
  rw[Xd 1]at N
  simp only[nok,Qk]at N;exact N.2
 refine⟨ps,hl,rep_ok t hr,b,o,hA,?_⟩
 rw[Q4]
 refine h1.adds (W _ _ hn2 fun j h4 _=>by omega) fun r2 h4=>?_
 obtain⟨h5,h6,h7⟩:=V r2 h4
 have I: ∀j b',Bk ((kn,.el none b (o+k*t.size) (cl t v ps))::H) j b'↔Bk H j b':=fun j b'=>by
  by_cases E:j=kn
  ·subst E
   rw[Bk.cons_eq]
   exact⟨fun h=>by simp[Res.bl]at h,fun⟨_,h8,_⟩=>by rw[L]at h8;cases h8⟩
  ·exact Bk.cons_ne E
 exact⟨h6,h7,Res.to h5 (S:=[]) (Ch.refl w) (fun b' hF _=>⟨by simp,⟨fun j E=>hF.1.1 j ((I j b').1 E),hF.1.2⟩,hF.2⟩) (fun b' hB _=>⟨by simp,fun j E=>hB j ((I j b').1 E)⟩) (fun i b' _ hB=>⟨by simp,(I i b').2 hB⟩) (by simp)⟩
theorem Hp.blk {C:Cx}{H:List (Nat×Res)}{w:World}{g:Nat}{e:TypeId}{cs:List Value}(E:Hp C H w)(k:Nat)(h:hk H k=some (.blk g e cs):=by rfl):Blk w g e cs:=E.hold k _ h
def FU:Nat:=340282366920938463463374607431768211456
def gd {α:Type}(p:Prop)[Decidable p](x:Option α):Option α:=if p then x else none
theorem gd_some {α:Type}{p:Prop}[Decidable p]{x:Option α}{y:α}(h:gd p x=some y):p∧x=some y:=by
 unfold gd at h
 split at h
 ·exact⟨‹p›,h⟩
 ·cases h
theorem bd_some {α β:Type}{x:Option α}{f:α→Option β}{y:β}(h:x.bind f=some y): ∃v,x=some v∧f v=some y:=Xa.1 h
theorem no0 {α:Type}{y:α}{p:Prop}(h:(none:Option α)=some y):p:=by cases h
theorem ix_nat {α:Type}(xs:List α)(k:Nat):ix xs (k:Int)=xs[k]?:=by unfold ix;rw[if_neg (by omega),Q4]
instance (k:IntKind) (n:Int):Decidable (k.has n):=by unfold IntKind.has;infer_instance
theorem hasl (k:IntKind)(n:Int)(h:decide (k.has n)=true):k.has n:=of_decide_eq_true h
theorem has_min {k:IntKind}{a b:Int}(E:k.has a)(I:k.has b):k.has (min a b):=by
 rcases Int.le_total a b with h|h
 ·rw[Int.min_eq_left h];exact E
 ·rw[Int.min_eq_right h];exact I
section
variable {X:Act→World→Prop}{C:Cx}{l:List (Nat×Value)}{H:List (Nat×Res)}
theorem nil (k:Nat)(t:Ty)(e:TypeId)(h: ∀a w,Fr a C.n C.ds l→Hp C ((k,.own t e none 0 [])::H) w→X a w)(E:hk H k=none:=by kernel_rfl): ∀a w,Fr a C.n C.ds l→Hp C H w→X a w:=fun a w I L=>
 h a w I (L.add E rfl (fun j N=>by cases N) (Own.nil t e 0 w _))
theorem frz (k:Nat)(js:List Nat){t:Ty}{e:TypeId}{A:Option Addr}{c:Nat}{xs:List t.den}(h: ∀a w,Fr a C.n C.ds l→Hp C ((k,.sh (.slice t) [.slice A xs.length c] xs)::ded js H) w→X a w)(E:hk H k=some (.own t e A c xs):=by rfl)(I:hng [k] js H=true:=by kernel_rfl): ∀a w,Fr a C.n C.ds l→Hp C H w→X a w:=fun a w L N=>h a w L (Hp.dd (N.frz E) I)
theorem cst (d:Nat){v v':Value}(e:v=v')(h: ∀a w,Fr a C.n C.ds ((d,v')::l)→Hp C H w→X a w)(I:lk l d=some v:=by rfl): ∀a w,Fr a C.n C.ds l→Hp C H w→X a w:=fun a w E L=>h a w (E.cons E (by rw[I,e])) L
theorem Hp.mv {w:World}(L:Hp C H w){k k2:Nat}{r:Res}(h1:hk H k=some r)(hne:k2≠k)(h2: ∀u,hk H k2=some u→u=.dead)(hr:r.ref=none):Hp C ((k2,r)::(k,.dead)::drp k H) w:=by
 have hd:Hp C ((k,.dead)::drp k H) w:=L.upd (S:=[]) (Ch.refl w) (by simp) (by simp[Res.bl]) (fun j E=>by cases E) fun _ _ _ _ _ _ _=>trivial
 have V: ∀j b,Bk ((k2,r)::(k,.dead)::drp k H) j b→(j=k2∧b∈r.bl)∨(j≠k2∧j≠k∧Bk H j b):=fun j b ⟨r2,I,W⟩=>by
  rw[Qaa]at I
  split at I
  ·rename_i e;injection I with I;subst I;exact .inl ⟨e.symm,W⟩
  ·rename_i hn
   rw[Qaa]at I
   split at I
   ·injection I with I;subst I;cases W
   ·rename_i hn2
    rcases Qay k H j r2 I with rfl|⟨N,_⟩
    ·cases W
    ·exact .inr ⟨Ne.symm hn,Ne.symm hn2,r2,N,W⟩
 have hnb: ∀b,(∀j,¬Bk H j b)→∀j,¬Bk ((k2,r)::(k,.dead)::drp k H) j b:=fun b hB j E=>by
  rcases V j b E with⟨_,I⟩|⟨_,_,I⟩
  ·exact hB k ⟨r,h1,I⟩
  ·exact hB j I
 refine⟨L.ch,fun j r2 E=>?_,fun j b E=>?_,fun j j' b E hj'=>?_,fun j r2 i E hri=>?_⟩
 ·rw[Qaa]at E
  split at E
  ·injection E with E;subst E
   exact Res.to (L.hold k r h1) (S:=[]) (Ch.refl w) (fun b hF _=>⟨by simp,hnb b hF.1,hF.2⟩) (fun b hB _=>⟨by simp,hnb b hB⟩) (fun i b hi _=>by rw[hr]at hi;cases hi) (by simp)
  ·rename_i hn
   rw[Qaa]at E
   split at E
   ·injection E with E;subst E;trivial
   ·rename_i hn2
    rcases Qay k H j r2 E with rfl|⟨N,h6⟩
    ·trivial
    ·refine Res.to (L.hold j r2 N) (S:=[]) (Ch.refl w) (fun b hF _=>⟨by simp,hnb b hF.1,hF.2⟩) (fun b hB _=>⟨by simp,hnb b hB⟩) (fun i b hi hB=>⟨by simp,?_⟩) (by simp)
     obtain⟨r3,O,h8⟩:=hB
     have hik:i≠k:=fun e=>h6 (by rw[hi,e])
     have hik2:i≠k2:=fun e=>by subst e;rw[h2 _ O]at h8;cases h8
     refine⟨r3,?_,h8⟩
     rw[Qaa,if_neg (Ne.symm hik2),Qaa,if_neg (Ne.symm hik)]
     exact Qbz O (by rw[(L.ref j r2 i N hi).2 r3 O];simp)
 ·rcases V j b E with⟨_,I⟩|⟨_,_,I⟩
  ·exact L.bnd k b ⟨r,h1,I⟩
  ·exact L.bnd j b I
 ·rcases V j b E with⟨I,W⟩|⟨_,I,W⟩<;>rcases V j' b hj' with⟨N,h6⟩|⟨_,N,h6⟩
  ·rw[I,N]
  ·exact absurd (L.dis k j' b ⟨r,h1,W⟩ h6) (Ne.symm N)
  ·exact absurd (L.dis k j b ⟨r,h1,h6⟩ W) (Ne.symm I)
  ·exact L.dis j j' b W h6
 ·rw[Qaa]at E
  split at E
  ·injection E with E;subst E;rw[hr]at hri;cases hri
  ·rename_i hn
   obtain⟨N,h6⟩:=hd.ref j r2 i E hri
   refine⟨N,fun r3 O=>?_⟩
   rw[Qaa]at O
   split at O
   ·injection O with O;subst O;exact hr
   ·exact h6 r3 O
theorem mv (k L:Nat)(js:List Nat){r:Res}(h: ∀a w,Fr a C.n C.ds l→Hp C ((L,r)::(k,.dead)::ded js H) w→X a w)(E:hk H k=some r:=by rfl)(O:r.ref=none:=by rfl)(I:hk H L=none:=by kernel_rfl)(V:hng [k] js H=true:=by kernel_rfl): ∀a w,Fr a C.n C.ds l→Hp C H w→X a w:=fun a w W hh=>h a w W (Hp.dd2 (hh.mv E (fun e=>by subst e;rw[E]at I;cases I) (fun u N=>by rw[I]at N;cases N) O) V)
def gone (H:List (Nat×Res))(k:Nat):Bool:=match hk H k with
 |none=>true
 |some .dead=>true
 |_=>false
theorem mvd (k I:Nat)(js:List Nat){r:Res}(h: ∀a w,Fr a C.n C.ds l→Hp C ((I,r)::(k,.dead)::ded js H) w→X a w)(L:hk H k=some r:=by rfl)(O:r.ref=none:=by rfl)(E:Nat.beq I k=false:=by rfl)(N:gone H I=true:=by kernel_rfl)(V:hng [k] js H=true:=by kernel_rfl): ∀a w,Fr a C.n C.ds l→Hp C H w→X a w:=fun a w W hh=>h a w W (Hp.dd2 (hh.mv L (fun e=>by rw[e,Wz]at E;cases E) (fun u hu=>by
 unfold gone at N;rw[hu]at N
 cases u<;>first|rfl|cases N) O) V)
end
section
variable {r:Option Nat}{P:Program}{ops:Array Oper}{Q:Exit→Act→World→Prop}{C:Cx}{l:List (Nat×Value)}{H Hq:List (Nat×Res)}{m f:Nat}{li:List Bool}
theorem AH.cnd {ρ:Type}{A B R:Option ρ}{j:Nat}{b:Bool}(L:lk l j=some (.bool b))(E:(if b=true then A else B)=R)(O:A=R→AH r P ops Q Hq m f li C ((j,.bool true)::l) H)(V:B=R→AH r P ops Q Hq m f li C ((j,.bool false)::l) H):AH r P ops Q Hq m f li C l H:=fun a w I N=>by
 cases b with
 |true=>rw[if_pos rfl]at E;exact O E a w (I.cons I L) N
 |false=>rw[if_neg (by simp)]at E;exact V E a w (I.cons I L) N
theorem AH.cnp {ρ:Type}{A B R:Option ρ}{j:Nat}{p:Prop}[Decidable p](L:lk l j=some (.bool (decide p)))(E:(if p then A else B)=R)(O:p→A=R→AH r P ops Q Hq m f li C ((j,.bool true)::l) H)(V: ¬p→B=R→AH r P ops Q Hq m f li C ((j,.bool false)::l) H):AH r P ops Q Hq m f li C l H:=fun a w I N=>by
 by_cases hp:p
 ·rw[if_pos hp]at E;exact O hp E a w (I.cons I (by rw[L,decide_eq_true hp])) N
 ·rw[if_neg hp]at E;exact V hp E a w (I.cons I (by rw[L,decide_eq_false hp])) N
theorem AH.pks (k kn:Nat){t:Ty}{A:Option Addr}{c:Nat}{xs:List t.den}{i:Int}{v:t.den}(L:ix xs i=some v)(h:t.ok v→tele (lv t) fun ps=>∀b o,A=some ⟨b,o,none⟩→AH r P ops Q Hq m f li C l (hcat (kx (kn+1) (rs t v ps)) ((kn,.el none b (o+i.toNat*t.size) (cl t v ps))::H)))
  (E:hk H k=some (.sh (.slice t) [.slice A xs.length c] xs):=by rfl) (N:nok H kn (1+lv t)=true:=by kernel_rfl):AH r P ops Q Hq m f li C l H:=fun a w O V=>by
 obtain⟨ps,W,I,b,o,hA,h2⟩:=peek V k kn L (rowS E) N
 exact Qak (h I) ps W b o hA a w O h2
theorem AH.pkl (k kn:Nat){t:Ty}{A:Option Addr}{c:Nat}{xs:List t.den}{i:Int}{v:t.den}(L:ix xs i=some v)(h:t.ok v→tele (lv t) fun ps=>∀b o,A=some ⟨b,o,none⟩→AH r P ops Q Hq m f li C l (hcat (kx (kn+1) (rs t v ps)) ((kn,.el none b (o+i.toNat*t.size) (cl t v ps))::H)))
  (E:hk H k=some (.ln t A c xs):=by rfl) (N:nok H kn (1+lv t)=true:=by kernel_rfl):AH r P ops Q Hq m f li C l H:=fun a w O V=>by
 obtain⟨ps,W,I,b,o,hA,h2⟩:=peek V k kn L (rowL E) N
 exact Qak (h I) ps W b o hA a w O h2
theorem r_ixo {a:Act}{w:World}{d:Option Tmp}{T:TypeId}{pos:String}{af:Array Edge}{n:Nat}{ds:List Deferred}{tt e:TypeId}{x y:Operand}{A:Option Addr}{b c:Nat}{t:Ty}{xs:List t.den}{i:Int}{kd:IntKind}{v:t.den}(I:ix xs i=some v)(L:A=some ⟨b,0,none⟩)(E:Fr a n ds l)
  (N:ev l x=some (.slice A xs.length c):=by rfl) (O:ev l y=some (.int kd i):=by rfl) (V:P.underlying tt=some (.slice e):=by rfl) (W:szB P e=some t.size:=by kernel_rfl):(execOp a.eval ⟨d,.indexAddr tt x y,T,pos,af,none⟩).run P w=.ok (.value (.pointer (some ⟨b,i.toNat*t.size,none⟩))) w:=by
 obtain⟨k,rfl,hv⟩:=Qag I
 have:=r_indexAddrA (P:=P) (w:=w) (d:=d) (T:=T) (pos:=pos) (af:=af) (gd:=none) V (Qaf W) (E.eval N) L (E.eval O) rfl (Qa.1 hv).1
 rw[Addr.add_lit,Ws]at this
 exact this
theorem r_ixa {a:Act}{w:World}{d:Option Tmp}{T:TypeId}{pos:String}{af:Array Edge}{n:Nat}{ds:List Deferred}{tt e:TypeId}{x y:Operand}{A:Option Addr}{b o c:Nat}{t:Ty}{xs:List t.den}{i:Int}{kd:IntKind}{v:t.den}(I:ix xs i=some v)(L:A=some ⟨b,o,none⟩)(E:Fr a n ds l)
  (N:ev l x=some (.slice A xs.length c):=by rfl) (O:ev l y=some (.int kd i):=by rfl) (V:P.underlying tt=some (.slice e):=by rfl) (W:szB P e=some t.size:=by kernel_rfl):(execOp a.eval ⟨d,.indexAddr tt x y,T,pos,af,none⟩).run P w=.ok (.value (.pointer (some ⟨b,o+i.toNat*t.size,none⟩))) w:=by
 obtain⟨k,rfl,hv⟩:=Qag I
 have:=r_indexAddrA (P:=P) (w:=w) (d:=d) (T:=T) (pos:=pos) (af:=af) (gd:=none) V (Qaf W) (E.eval N) L (E.eval O) rfl (Qa.1 hv).1
 rw[Addr.add_lit]at this
 exact this
end
def lt {α β:Type}(x:α)(f:α→Option β):Option β:=f x
theorem lt_some {α β:Type}{x:α}{f:α→Option β}{y:β}(h:lt x f=some y): ∃v,x=v∧f v=some y:=⟨x,rfl,h⟩
theorem seen_lt: ∀{n:Nat} {sn:List Nat},sn.Nodup→(∀i∈sn,i<n)→sn.length≤n
 |0,sn,_,E=>by
  cases sn with
  |nil=>simp
  |cons a l=>exact absurd (E a (Qi ..)) (by omega)
 |n+1,sn,I,E=>by
  have L:(sn.erase n).length≤n:=seen_lt (I.erase n) fun i O=>by
   have V:=List.Nodup.mem_erase_iff I |>.1 O
   have:=E i V.2
   omega
  by_cases N:n∈sn
  ·rw[List.length_erase_of_mem N]at L;omega
  ·rw[List.erase_of_not_mem N]at L;omega
theorem seen_all {α β:Type}{m:List α}{sn:List Nat}{body:α→Option (Option β)}(h: ∀i∈sn,∀p,m[i]?=some p→body p=some none)(I: ∀i,i<m.length→i∈sn): ∀x∈m,body x=some none:=fun x L=>by
 obtain⟨i,E,rfl⟩:=Wr L
 exact h i (I i E) _ (Qc E)
theorem seen_cons {α β:Type}{m:List α}{sn:List Nat}{body:α→Option (Option β)}{i:Nat}{p:α}(h: ∀i∈sn,∀p,m[i]?=some p→body p=some none)(hp:m[i]?=some p)(L:body p=some none): ∀j∈i::sn,∀p,m[j]?=some p→body p=some none:=fun j I x E=>by
 rcases Qm.1 I with rfl|I
 ·rw[hp]at E;injection E with E;subst E;exact L
 ·exact h j I x E
theorem seen_bd {α:Type}{m:List α}{sn:List Nat}{i:Nat}{p:α}(h: ∀i∈sn,i<m.length)(hp:m[i]?=some p): ∀j∈i::sn,j<m.length:=fun j E=>by
 rcases Qm.1 E with rfl|E
 ·exact(Qa.1 hp).1
 ·exact h j E
theorem seen_f {n f:Nat}{sn:List Nat}{i:Nat}(E:sn.Nodup)(I: ∀j∈i::sn,j<n)(L:i∉sn)(N:f+sn.length=n+1):f-1<f∧(f-1)+(i::sn).length=n+1:=by
 have:=seen_lt (Wf.2 ⟨L,E⟩) I
 simp only[Xj]at this ⊢
 omega
def om {α β:Type}(x:Option α)(a:Option β)(f:α→Option β):Option β:=match x with
 |none=>a
 |some p=>f p
theorem om_n {α β:Type}{x:Option α}{a:Option β}{f:α→Option β}(h:x=none):om x a f=a:=by rw[h];rfl
theorem om_s {α β:Type}{x:Option α}{a:Option β}{f:α→Option β}{p:α}(h:x=some p):om x a f=f p:=by rw[h];rfl
def mrg {α β:Type}[DecidableEq β](body:α→Option (Option β))(rest:Option β):List α→Option β
 | []=>rest
 |x::l=>(body x).bind fun q=>match q with
  |none=>mrg body rest l
  |some y=>if l.all (fun z=>decide (body z=some none∨body z=some (some y)))then some y else none
theorem mrg_all {α β:Type}[DecidableEq β]{body:α→Option (Option β)}{rest:Option β}{r:β}: ∀{l:List α},mrg body rest l=some r→(∀x∈l,∃q,body x=some q∧(q=none∨q=some r))∧((∀x∈l,body x=some none)→rest=some r)
 | [],h=>⟨by simp,fun _=>h⟩
 |x::l,h=>by
  unfold mrg at h
  obtain⟨q,hq,h⟩:=bd_some h
  cases q with
  |none=>
   obtain⟨N,O⟩:=mrg_all (l:=l) h
   refine⟨fun z E=>?_,fun I=>O fun z E=>I z (Qd _ E)⟩
   rcases Qm.1 E with rfl|E
   ·exact⟨none,hq,.inl rfl⟩
   ·exact N z E
  |some y=>
   simp only[]at h
   split at h
   ·rename_i hall
    injection h with h
    subst h
    refine⟨fun z E=>?_,fun I=>?_⟩
    ·rcases Qm.1 E with rfl|E
     ·exact⟨some y,hq,.inr rfl⟩
     ·rcases of_decide_eq_true (Q8.1 hall z E)with L|L
      ·exact⟨_,L,.inl rfl⟩
      ·exact⟨_,L,.inr rfl⟩
    ·have:=I x (Qi ..)
     rw[hq]at this
     injection this with this
     cases this
   ·cases h
section
variable {P:Program}{w:World}
theorem Qcw {g b m:Nat}{seen:List Nat}{es:List (Value×Value)}{ty:TypeId}(hr:Rg w g b m seen)(hm:MapC w b es):
  ((∀i,i<m→i∈seen)∧(Instr.next (.pointer (some ⟨g,0,none⟩)) false ty).run P w=.ok (.tuple #[.bool false]) w)∨
  ∃i k v w',i<m∧i∉seen∧es[i]?=some (k,v)∧(Instr.next (.pointer (some ⟨g,0,none⟩)) false ty).run P w=.ok (.tuple #[.bool true,k,v]) w'∧Ch [g] w w'∧w'.heap.size=w.heap.size∧Rg w' g b m (i::seen)∧Lst w' g b k v:=by
 obtain⟨N,arr,clock,since,sb,hb,hlen,hg,hsc,hold,O,hseen⟩:=hr
 obtain⟨arr',clock',hb',hes,_,_⟩:=hm
 rw[hb]at hb'
 injection hb' with hb';injection hb' with hb' _
 have hb':=List.toArray_inj hb'
 subst hb'
 have hgl:=(Qe.1 hg).1
 have hgetg:(getObj g).run P w=.ok (.mapIter (some b) since sb.toArray since) w:=by simp[getObj,Sem.run,hg]
 have hgetb:(getObj b).run P w=.ok (.map arr.toArray clock) w:=by simp[getObj,Sem.run,hb]
 have htest:=next_test_false sb.toArray arr.toArray since since (by simpa using hold) (Q7 _)
 obtain⟨L,hL⟩: ∃L,L=arr.toArray.filter fun e=> !sb.toArray.contains e.born:=⟨_,rfl⟩
 have hLm: ∀e,e∈L.toList↔e∈arr∧e.born∉sb:=fun e=>by rw[hL];simp
 have e1:L.filter (fun x=>decide (x.born<since))=L:=Array.filter_eq_self.2 (fun x hx=>by have:=(hLm x).1 (by simpa using hx);simpa using hold x this.1)
 have e2:L.filter (fun x=>decide (x.born≥since))=#[]:=by
  rw[Array.filter_eq_empty_iff]
  intro x hx
  have:=hold x ((hLm x).1 (by simpa using hx)).1
  simp;omega
 by_cases h0:L.size=0
 ·left
  have hLe:L=#[]:=Array.eq_empty_of_size_eq_zero h0
  refine⟨fun i I=>?_,?_⟩
  ·obtain⟨e,he⟩: ∃e,arr[i]?=some e:=⟨_,Qc (by omega)⟩
   refine(hseen i e he).1 (Classical.byContradiction fun hn=>?_)
   have:=(hLm e).2 ⟨Qq he,hn⟩
   rw[hLe]at this;simp at this
  ·simp only[Instr.next,Sem.run_bind,hgetg,Result.andThen_ok,hgetb,htest,Wd,if_false,←hL,e1,e2,Array.append_empty]
   rw[hLe]
   simp[Question.forced]
 ·right
  have hie:L.isEmpty=false:=by simp[Array.isEmpty,h0]
  have hj: ∃j,j<L.size∧∃E:World,(choose (.mapNext L.size)).run P w=.ok j E∧(E=w∨E=w.drew):=by
   rw[run_choose_drew]
   by_cases hfo:(Question.mapNext L.size).forced=true
   ·rw[if_pos hfo];exact⟨0,by omega,w,rfl,.inl rfl⟩
   ·rw[if_neg hfo];exact⟨_,Nat.mod_lt _ (by omega),_,rfl,.inr rfl⟩
  obtain⟨j,V,E,hch,hw1⟩:=hj
  obtain⟨e,he⟩: ∃e,L[j]?=some e:=⟨_,W5 V⟩
  have heL:e∈L.toList:=by have:=Qq (l:=L.toList) (i:=j) (by rw[Array.getElem?_toList];exact he);exact this
  obtain⟨hea,hen⟩:=(hLm e).1 heL
  obtain⟨i,I⟩:=Wm.1 hea
  have hil:=(Qa.1 I).1
  have hheap:E.heap=w.heap:=by rcases hw1 with rfl|rfl<;>rfl
  have hc1:Ch [] w E:=by rcases hw1 with rfl|rfl;exact Ch.refl _;exact Ch.drew _
  have hset:(setObj g (.mapIter (some b) since (sb.toArray.push e.born) clock)).run P E=.ok () (E.putObj g (.mapIter (some b) since (sb.toArray.push e.born) clock)):=by
   simp[setObj,Sem.run,World.putObj,hheap,hg]
  refine⟨i,e.key,e.val,E.putObj g (.mapIter (some b) since (sb.toArray.push e.born) clock),by omega,fun hs=>hen ((hseen i e I).2 hs),by rw[←hes,Qr,I];rfl,?_,hc1.then (Ch.putObj E g _),by simp[hheap],⟨N,arr,clock,since,sb++[e.born],?_,hlen,?_,hsc,hold,O,?_⟩,?_⟩
  ·simp only[Instr.next,Sem.run_bind,hgetg,Result.andThen_ok,hgetb,htest,Wd,if_false,←hL,e1,e2,hie,Array.append_empty,Array.empty_append,Array.size_map,hch,Array.getElem?_map,he,Q9,hset,Sem.run_pure]
  ·rw[World.putObj_heap_other (fun h=>N h.symm),hheap];exact hb
  ·rw[World.putObj_heap_same (by rw[hheap];exact hgl)]
   subst hsc;simp
  ·intro i' e' he'
   rw[Qv,Qb,Qm,hseen i' e' he']
   constructor
   ·rintro(h|h)
    ·exact .inr h
    ·left
     have hi'l:=(Qa.1 he').1
     have:=(List.getElem_inj O (i:=i') (j:=i) (h₀:=by simpa using hi'l) (h₁:=by simpa using hil)).1 (by
      simp only[List.getElem_map]
      rw[(Qa.1 he').2,(Qa.1 I).2];exact h)
     exact this
   ·rintro(h|h)
    ·right;subst h;rw[I]at he';injection he' with he';rw[he']
    ·exact .inl h
  ·have h1:=World.putObj_heap_same (w:=E) (r:=g) (o:=.mapIter (some b) since (sb.toArray.push e.born) clock) (by rw[hheap];exact hgl)
   have h2:(E.putObj g (.mapIter (some b) since (sb.toArray.push e.born) clock)).heap[b]?=some (.map arr.toArray clock):=by rw[World.putObj_heap_other (fun h=>N h.symm),hheap];exact hb
   have hf:arr.find? (·.born==e.born)=some e:=by
    cases W:arr.find? (·.born==e.born)with
    |none=>have:=List.find?_eq_none.1 W e hea;simp at this
    |some e2=>
     have h3:=List.find?_some W
     obtain⟨j,hj⟩:=Wm.1 (List.mem_of_find?_eq_some W)
     have V:=(Qa.1 hj).1
     have:=(List.getElem_inj O (i:=j) (j:=i) (h₀:=by simpa using V) (h₁:=by simpa using hil)).1 (by
      simp only[List.getElem_map]
      rw[(Qa.1 hj).2,(Qa.1 I).2];simpa using h3)
     subst this;rw[I]at hj;exact hj.symm
   exact⟨since,clock,e.born,sb.toArray,arr,e,h1,h2,hf,rfl,rfl⟩
end
section
variable {r:Option Nat}{P:Program}{ops:Array Oper}{Q:Exit→Act→World→Prop}{rest lst:List Oper}{C:Cx}{l:List (Nat×Value)}{H:List (Nat×Res)}{d:Nat}{op:Op}{T:TypeId}{pos:String}{af:Array Edge}
variable {κ:Type}[DecidableEq κ]{enc:κ→Value}{kt et tt:TypeId}{t:Ty}{agg:Bool}{b:Nat}{m:List (κ×t.den)}
theorem r_lkf {a:Act}{w:World}{d:Option Tmp}{x y:Operand}{z v:t.den}{zs:List Value}{ok:Bool}(k:Nat)(K:Ky P kt enc)(key:κ)(O: ∀w,(zeroValue et).run P w=.ok (vof agg zs) w)(V:Dat H t zs z)(W:mget z m key=v)(hl:lv t=0)(I:Fr a C.n C.ds l)(L:Hp C H w)
  (E:asmp (hk H k)=some (.mp κ enc t agg b m):=by rfl) (hx:ev l x=some (.map (some b)):=by rfl) (hy:ev l y=some (enc key):=by rfl) (ht:P.underlying tt=some (.map kt et):=by rfl):
  (execOp a.eval ⟨d,.lookup tt x y ok,T,pos,af,none⟩).run P w=.ok (.value (if ok then .tuple #[vof agg (cl t v []),.bool (mhas m key)]else vof agg (cl t v []))) w:=by
 subst W
 obtain⟨cs,h1,h2⟩:=run_lookup (zs:=zs) K ht O (Dat.rep L t V) (Qcl L E) rfl key ok
 obtain⟨ps,N,h4,_⟩:=rep_cl (B:=Bk H) t h2
 rw[hl]at N
 have:ps=[]:=Wn N
 subst this
 subst h4
 exact r_lookup h1 (I.eval hx) (I.eval hy)
omit [DecidableEq κ]in
theorem AL.rgm (k kn:Nat){x:Operand}(h: ∀g,AL r P ops Q rest C ((d,.pointer (some ⟨g,0,none⟩))::l) ((kn,.mit k g b m.length [] none)::H))
  (E:hk H k=some (.mp κ enc t agg b m):=by rfl) (V:P.underlying tt=some (.map kt et):=by rfl) (W:ev l x=some (.map (some b)):=by rfl) (hd:Nat.ble (d+1) C.n=true:=by rfl) (hn:hk H kn=none:=by kernel_rfl):AL r P ops Q (⟨some d,.range tt x,T,pos,af,none⟩::rest) C l H:=fun a w hf N=>
 Z.st_rangeMt hf hd V W (N.hold k _ E) fun g w' a' hg hs hR L hf'=>h g a' w' hf' (N.new hn L (fun b' hb'=>by simp only[Res.bl,Qb]at hb';omega) (fun j O r I=>by
   simp only[Res.ref,Qh]at O;subst O;rw[E]at I;injection I with I;subst I;rfl) fun F B _ _ hB=>⟨hR,hB k b ⟨_,E,by simp[Res.bl]⟩,fun kv h=>by cases h⟩)
omit [DecidableEq κ]in
theorem AL.nxm (k ki kn:Nat){x:Operand}{g:Nat}{seen:List Nat}{la:Option (Value×Value)}
  (h1:(∀i,i<m.length→i∈seen)→AL r P ops Q rest C ((d,.tuple #[.bool false])::l) H)
  (h2: ∀i p,m[i]?=some p→i∉seen→t.ok p.2→tele (lv t) fun ps=>AL r P ops Q rest C ((d,.tuple #[.bool true,enc p.1,vof agg (cl t p.2 ps)])::l) (hcat (kx kn (rs t p.2 ps)) ((ki,.mit k g b m.length (i::seen) (some (enc p.1,vof agg (cl t p.2 ps))))::H)))
  (I:hk H k=some (.mp κ enc t agg b m):=by rfl) (E:hk H ki=some (.mit k g b m.length seen la):=by rfl) (hx:ev l x=some (.pointer (some ⟨g,0,none⟩)):=by rfl) (hd:Nat.ble (d+1) C.n=true:=by rfl)
  (hn: ∀s la,nok ((ki,.mit k g b m.length s la)::H) kn (lv t)=true:=by intro _ _;kernel_rfl) (L:hng [ki] [] H=true:=by kernel_rfl):AL r P ops Q (⟨some d,.next x false,T,pos,af,none⟩::rest) C l H:=fun a w O V=>by
 have hkk:k≠ki:=fun e=>by subst e;rw[I]at E;injection E with E;cases E
 obtain⟨es,hmc,hl,h3⟩:Mt enc t agg w (Fh C H) b m:=V.hold k _ I
 rcases Qcw (P:=P) (ty:=T) (V.hold ki _ E).1 hmc with⟨h4,h5⟩|⟨i,kv,v,w',i1,i2,W,i4,i5,i6,i7,i8⟩
 ·refine Z.val O hd ?_ fun a' hf'=>h1 h4 a' w hf' V
  simp only[execOp,O.eval hx,Sem.run_bind,h5,Result.andThen_ok,Sem.run_pure]
 ·obtain⟨p,hp⟩: ∃p,m[i]?=some p:=⟨_,Qc i1⟩
  obtain⟨cs,h6,h7⟩:=h3 i p hp
  rw[h6]at W;injection W with W;injection W with e1 e2
  subst e1;subst e2
  have hup: ∀la,(∀kv,la=some kv→Lst w' g b kv.1 kv.2)→Hp C ((ki,.mit k g b m.length (i::seen) la)::H) w':=fun la hla=>Hp.dd (js:=[]) (V.upd i5 (fun b' hb'=>⟨_,E,by simpa[Res.bl] using hb'⟩) (fun b' hb'=>.inl ⟨_,E,hb'⟩) (fun j L=>by
    simp only[Res.ref,Qh]at L;subst L
    exact⟨hkk,fun r hr=>by rw[I]at hr;injection hr with hr;subst hr;rfl⟩) fun F B _ _ _ hB _=>⟨i7,hB k b rfl ⟨_,I,by simp[Res.bl]⟩,hla⟩) L
  have hr': ∀la,t.rep w' (Fh C ((ki,.mit k g b m.length (i::seen) la)::H)) cs p.2:=fun la=>by
   refine rep_to h7 i5 fun b' hb' hl'=>⟨fun hm=>hb'.1 ki ⟨_,E,by simpa[Res.bl] using hm⟩,⟨fun j L=>?_,hb'.2⟩⟩
   by_cases N:j=ki
   ·subst N
    have h0:=Bk.cons_eq.1 L
    exact hb'.1 j ⟨_,E,h0⟩
   ·obtain⟨r2,h8,h9⟩:=(Bk.cons_ne N).1 L
    exact hb'.1 j ⟨r2,h8,h9⟩
  have hok:=rep_ok t h7
  obtain⟨ps,hl2,rfl,h9⟩:=Qcj (hup (some (enc p.1,vof agg cs)) (fun kv h=>by injection h with h;subst h;exact i8)) (hr' _) kn (hn _ _)
  refine Z.valw O hd ?_ fun a' hf'=>Qak (h2 i p hp i2 hok) ps hl2 a' w' hf' h9
  simp only[execOp,O.eval hx,Sem.run_bind,i4,Result.andThen_ok,Sem.run_pure]
theorem AL.ent (ki:Nat){x:Operand}{k g b n:Nat}{seen:List Nat}{kv vv:Value}(h:AL r P ops Q rest C ((d,.tuple #[kv,vv])::l) H)
  (E:hk H ki=some (.mit k g b n seen (some (kv,vv))):=by rfl) (I:ev l x=some (.pointer (some ⟨g,0,none⟩)):=by rfl) (L:Nat.ble (d+1) C.n=true:=by rfl):AL r P ops Q (⟨some d,.entry x,T,pos,af,none⟩::rest) C l H:=
 AL.val L (fun a w N O=>by
  have:=Lst.run (P:=P) ((O.hold ki _ E).2.2 _ rfl)
  simp only[execOp,N.eval I,Sem.run_bind,this,Result.andThen_ok,Sem.run_pure]) h
theorem okm {X:Act→World→Prop}(k:Nat)(key:κ){z v:t.den}{zs:List Value}(N:Dat H t zs z)(O:mget z m key=v)(h:t.ok v→∀a w,Fr a C.n C.ds l→Hp C H w→X a w)(E:asmp (hk H k)=some (.mp κ enc t agg b m):=by rfl): ∀a w,Fr a C.n C.ds l→Hp C H w→X a w:=fun a w V I=>by
 subst O
 refine h ?_ a w V I
 cases L:mhas m key with
 |false=>rw[Qbt L];exact rep_ok t (Dat.rep I t N)
 |true=>
  obtain⟨es,_,_,W⟩:Mt enc t agg w (Fh C H) b m:=Qcl I E
  obtain⟨i,hi⟩:=Wm.1 (mget_mem (z:=z) L)
  obtain⟨cs,_,h5⟩:=W i _ hi
  exact rep_ok t h5
end
section
variable {r:Option Nat}{P:Program}{ops:Array Oper}{Q:Exit→Act→World→Prop}{rest lst:List Oper}{C:Cx}{l:List (Nat×Value)}{H:List (Nat×Res)}{d:Nat}{op:Op}{T:TypeId}{pos:String}{af:Array Edge}
end
section
variable {P:Program}{C:Cx}{l:List (Nat×Value)}{H:List (Nat×Res)}
theorem Row.none {t:Ty}{w:World}{F G:Nat→Prop}{A:Option Addr}{c:Nat}{xs:List t.den}(h:Row t w F G A c xs)(I:A.isNone=true):xs=[]:=by
 obtain⟨_,_,_,_,E,_⟩:=h
 rcases E with E|⟨b,o,rfl,_⟩
 ·exact Wn E
 ·cases I
theorem nilL {X:Act→World→Prop}(k:Nat){t:Ty}{A:Option Addr}{c:Nat}{xs:List t.den}(L:A.isNone=true)(h:xs=[]→∀a w,Fr a C.n C.ds l→Hp C H w→X a w)(E:hk H k=some (.ln t A c xs):=by rfl): ∀a w,Fr a C.n C.ds l→Hp C H w→X a w:=fun a w N I=>by
 obtain⟨G,O,_⟩:=rowL E w I
 exact h (Row.none O L) a w N I
theorem AX.cnn {r:Option Nat}{Y:Exit→Act→World→Prop}{K:List Kx}{c:Operand}{x y:Code}{b:Bool}(L:ev l c=some (.bool b))(N:b=true→AX r P Y K x C l H)(O:b=false→AX r P Y K y C l H):AX r P Y K (.cond c x y) C l H:=fun a w E I=>Z.cond E L (fun h=>N h a w E I) (fun h=>O h a w E I)
end
section
variable {r:Option Nat}{P:Program}{ops:Array Oper}{Q:Exit→Act→World→Prop}{rest:List Oper}{C:Cx}{l:List (Nat×Value)}{H:List (Nat×Res)}{d:Nat}{T:TypeId}{pos:String}{af:Array Edge}
end
theorem szl (b:ByteArray)(h:decide (b.size≤maxLen)=true):b.size≤maxLen:=of_decide_eq_true h
theorem wrap_has (k:IntKind)(n:Int):k.has (k.wrap n):=by
 cases k<;>simp[IntKind.has,IntKind.min,IntKind.max,IntKind.wrap,IntKind.bits,IntKind.signed]<;>omega
end Go.A
namespace Go.Z
section
variable {P:Program}{a:Act}{w:World}
end
end Go.Z
end
section
namespace Go.A
open Go.RowKit Go.Z
def Seqk (P:Program)(gf:FuncId)(cap:List Value)(N:Nat)(E:Nat→World→World→List Value→Prop)(Dat:Nat→World→Prop):Prop:=
 ∀(lid:Nat) (w:World) (J:Nat→World→Prop) (Jx:World→Prop),(∀k W W',J k W→Ch [] W W'→J k W')→(∀W W',Jx W→Ch [] W W'→Jx W')→(∀k W,J k W→Dat k W)→J 0 w→
  (∀k W0 W args,k<N→J k W0→Ch [] W0 W→E k W0 W args→YieldAt (FW none) 0 P lid args.toArray W fun e W'=>(e=.returned (.bool true)∧J (k+1) W')∨(e=.returned (.bool false)∧Jx W'))→
  Calls P gf (.func (.yield lid) #[] #[]::cap).toArray w fun e W'=>e=.returned (.tuple #[])∧(J N W'∨Jx W')
def RK (D L:Nat)(o:Obj)(I:Nat→World→Prop)(X:Exit→World→Prop)(k:Nat)(e:Exit)(W':World):Prop:=
 W'.heap[L]?=some o∧Dfr W' D∧match e with
  | .normal=>I (k+1) W'
  | .ret=>X .ret W'
  | .exit id=>X (.exit id) W'
  |_=>False
def RQ (D L:Nat)(o:Obj)(I:Nat→World→Prop)(X:Exit→World→Prop)(k:Nat):Exit→Act→World→Prop:=fun e _ W'=>RK D L o I X k e W'
section
variable {P:Program}{Q:Exit→Act→World→Prop}{a:Act}{w:World}{n:Nat}{ds:List Deferred}{l:List (Nat×Value)}
theorem rangeK {g:Operand}{ps:List Nat}{assign body:Code}{gf:FuncId}{cap:List Value}(hf:Fr a n ds l)(hg:ev l g=some (.func (.func gf) #[] cap.toArray))
  (hcf: ∀args w,(callFunc gf args).run P w=.ok (.enter gf args) w) (N:Nat) (E:Nat→World→World→List Value→Prop) (Dat:Nat→World→Prop) (I:Nat→World→Prop) (X:Exit→World→Prop) (hseq:Seqk P gf cap N E Dat)
  (hlen: ∀k W0 W args,E k W0 W args→args.length=ps.length) (hps: ∀p,p∈ps→p<n)
  (hI0: ∀W1,(∃W',Ch [] w W'∧W'.heap.size=w.heap.size+1∧Dfr W' w.heap.size∧Ch [] W' W1∧W1.heap.size=W'.heap.size+1)→(∃o,W1.heap[w.heap.size+1]?=some o)→I 0 W1)
  (hst: ∀k W W',I k W→Ch [w.heap.size+1] W W'→I k W') (hxt: ∀e W W',X e W→Ch [w.heap.size+1] W W'→X e W') (hdat: ∀k W,I k W→Dat k W)
  (hround: ∀k W0 W args a o,k<N→I k W0→Ch [] W0 W→w.heap.size+1<W0.heap.size→E k W0 W args→args.length=ps.length→W.heap[w.heap.size+1]?=some o→Dfr W w.heap.size→Fr a n [] (bindl ps args l)→
   WP (some (w.heap.size+1)) P assign (fun e a1 W1=>e=.normal∧W1.heap[w.heap.size+1]?=some o∧Dfr W1 w.heap.size∧∀W2 o2,Ch [w.heap.size+1] W1 W2→W2.heap[w.heap.size+1]?=some o2→Dfr W2 w.heap.size→
    WP (some (w.heap.size+1)) P body (RQ w.heap.size (w.heap.size+1) o2 I X k) a1 W2) a W)
  (hdone: ∀W a',I N W→Dfr W w.heap.size→Fr a' n (mkD w.heap.size::ds) l→Q .normal a' W)
  (hret: ∀W a',X .ret W→Dfr W w.heap.size→Fr a' n (mkD w.heap.size::ds) l→Q .ret a' W)
  (hexit: ∀id W a',X (.exit id) W→Dfr W w.heap.size→Fr a' n (mkD w.heap.size::ds) l→Q (.exit id) a' W):WP none P (Code.rangeFunc g ps.toArray assign body) Q a w:=by
 refine wpIn_rangeFunc fun fn hfn=>?_
 obtain⟨rec,hrec⟩: ∃rec:LoopState→Option Code→Loop,rec=fun st pe=>{state:=st,pending:=pe,fn,tmps:=a.tmps,params:=ps.toArray,assign,body,defers:=w.heap.size}:=⟨_,rfl⟩
 obtain⟨W1,hW1⟩: ∃W1,(w.alloc (.deferred (some []))).alloc (.loop (rec .ready none))=W1:=⟨_,rfl⟩
 have hL1:W1.heap[w.heap.size+1]?=some (.loop (rec .ready none)):=by
  rw[←hW1];have:=World.alloc_heap_new (w.alloc (.deferred (some []))) (.loop (rec .ready none));rwa[World.size_alloc]at this
 have hK1:Dfr W1 w.heap.size:=by
  rw[←hW1];exact(Below.heap_alloc _ _ _ (by simp)).trans (World.alloc_heap_new w _)
 have up: ∀{W W':World},Ch [] W W'→Ch [w.heap.size+1] W W':=fun h=>h.mono (by simp)
 have hI1:I 0 W1:=hI0 W1 ⟨_,Ch.alloc w _,World.size_alloc ..,World.alloc_heap_new w _,by rw[←hW1];exact Ch.alloc _ _,by rw[←hW1];exact World.size_alloc ..⟩ ⟨_,hL1⟩
 have hfr:a.eval g=.func (.func gf) #[] cap.toArray:=hf.eval hg
 have hcall:=hseq (w.heap.size+1) W1
  (fun k W=>I k W∧W.heap[w.heap.size+1]?=some (.loop (rec .ready none))∧Dfr W w.heap.size)
  (fun W=>∃e c,X e W∧((e=.ret∧c=Code.ret)∨∃id,e=.exit id∧c=Code.exit id)∧W.heap[w.heap.size+1]?=some (.loop (rec .done (some c)))∧Dfr W w.heap.size)
  (fun k W W' ⟨h1,V,h3⟩ L=>⟨hst k W W' h1 (up L),(L.block _ (Qe.1 V).1 (by simp)).trans V,h3.ch L (by simp)⟩)
  (fun W W' ⟨e,c,h1,h0,V,h3⟩ L=>⟨e,c,hxt e W W' h1 (up L),h0,(L.block _ (Qe.1 V).1 (by simp)).trans V,h3.ch L (by simp)⟩)
  (fun k W h=>hdat k W h.1) ⟨hI1,hL1,hK1⟩ ?_
 ·refine⟨w.heap.size+1,[mkD w.heap.size],W1,{target:=.fn (.func gf) cap.toArray,args:=#[.func (.yield (w.heap.size+1)) #[] #[]]},W1,gf,
   (.func (.yield (w.heap.size+1)) #[] #[]::cap).toArray,W1,?_,?_,fun _ _=>trivial,?_,(fun h=>by cases h),(callsFW hcall).mono ?_⟩
  ·rw[←hW1,hrec];exact run_enterLoop_outer _ _ _ _ _
  ·simp only[resolve,hfr]
   simp[go_sem]
  ·simp[invoke,go_sem,hcf]
  ·have fin: ∀(W:World) (st:LoopState) (pe:Option Code),W.heap[w.heap.size+1]?=some (.loop (rec st pe))→st≠ .busy→Dfr W w.heap.size→
     ∃W',(Instr.endLoop (w.heap.size+1)).run P W=.ok pe W'∧Ch [w.heap.size+1] W W'∧Dfr W' w.heap.size:=fun W st pe hl hb hk=>by
    have:=run_endLoop (P:=P) hl (by rw[hrec];exact hb)
    rw[hrec]at this
    exact⟨_,this,Ch.putObj _ _ _,hk.ch (Ch.putObj _ _ _) (by simp)⟩
   rintro e W ⟨rfl,⟨h1,V,h3⟩|⟨e,c,h1,h0,V,h3⟩⟩
   ·obtain⟨W',hr,L,hk⟩:=fin W .ready none V (by simp) h3
    exact⟨none,W',hr,hdone W' _ (hst N W W' h1 L) hk ⟨hf.size,by show [mkD w.heap.size]++a.defers=_;rw[hf.defs];rfl,hf.get⟩⟩
   ·obtain⟨W',hr,L,hk⟩:=fin W .done (some c) V (by simp) h3
    have hfr':Fr {a with defers:=[mkD w.heap.size]++a.defers} n (mkD w.heap.size::ds) l:=⟨hf.size,by show [mkD w.heap.size]++a.defers=_;rw[hf.defs];rfl,hf.get⟩
    refine⟨some c,W',hr,?_⟩
    rcases h0 with⟨rfl,rfl⟩|⟨id,rfl,rfl⟩
    ·exact wpIn_ret (hret W' _ (hxt _ W W' h1 L) hk hfr')
    ·exact wpIn_exit (hexit id W' _ (hxt _ W W' h1 L) hk hfr')
 ·rintro k W0 W args hk ⟨h1,V,h3⟩ L hEk
  have hlt:w.heap.size+1<W0.heap.size:=(Qe.1 V).1
  have hl:W.heap[w.heap.size+1]?=some (.loop (rec .ready none)):=(L.block _ hlt (by simp)).trans V
  have hkk:Dfr W w.heap.size:=h3.ch L (by simp)
  have hlen':=hlen k W0 W args hEk
  have hy:=run_yield (P:=P) (args:=args.toArray) hl (by rw[hrec];simpa using hlen')
  refine⟨fn,_,assign,body,by rw[hrec]at hy;exact hy,roundIn_of_wpIn hfn ?_⟩
  have hfr0:Fr ⟨(ps.zip args).foldl (fun t (p,v)=>t.setIfInBounds p v) a.tmps,[]⟩ n [] (bindl ps args l):=bind_fr ps args hps ⟨hf.size,rfl,hf.get⟩
  have hzip:((rec .ready none).params.zip args.toArray).foldl (fun t (p,v)=>t.setIfInBounds p v) (rec .ready none).tmps=(ps.zip args).foldl (fun t (p,v)=>t.setIfInBounds p v) a.tmps:=by
   rw[hrec];simp
  rw[hrec]at hzip
  simp only at hzip
  rw[hzip]
  refine wpIn_mono (hround k W0 W args _ _ hk h1 L hlt hEk hlen' hl hkk hfr0) ?_
  rintro e a1 W' ⟨rfl,hl',hk',hbody⟩
  refine⟨_,run_beginRound hl' (by rw[hrec]),?_⟩
  have hltW:w.heap.size+1<W'.heap.size:=(Qe.1 hl').1
  have hc2:Ch [w.heap.size+1] W' (W'.putObj (w.heap.size+1) (.loop {rec .ready none with state:=.busy})):=Ch.putObj _ _ _
  have hl2:(W'.putObj (w.heap.size+1) (.loop {rec .ready none with state:=.busy})).heap[w.heap.size+1]?=some (.loop {rec .ready none with state:=.busy}):=World.putObj_heap_same hltW
  have hk2:=hk'.ch hc2 (by simp)
  refine wpIn_mono (hbody _ _ hc2 hl2 hk2) ?_
  have fin: ∀(jump:Option Code) (W3:World),W3.heap[w.heap.size+1]?=some (.loop {rec .ready none with state:=.busy})→Dfr W3 w.heap.size→
    ∃W4,(Instr.endRound (w.heap.size+1) jump).run P W3=.ok (.bool jump.isNone) W4∧Ch [w.heap.size+1] W3 W4∧W4.heap[w.heap.size+1]?=some (.loop (rec (if jump.isNone then .ready else .done) jump))∧Dfr W4 w.heap.size:=fun jump W3 O hk3=>by
   have hend:=run_endRound (P:=P) jump O
   rw[hrec]at hend ⊢
   exact⟨_,hend,Ch.putObj _ _ _,World.putObj_heap_same (Qe.1 O).1,hk3.ch (Ch.putObj _ _ _) (by simp)⟩
  rintro e a3 W3 ⟨O,hk3,hp⟩
  cases e with
  |normal=>
   obtain⟨W4,hr,hc4,hl4,hk4⟩:=fin none W3 O hk3
   exact⟨_,W4,hr,.inl ⟨rfl,hst _ _ _ hp hc4,hl4,hk4⟩⟩
  |ret=>
   obtain⟨W4,hr,hc4,hl4,hk4⟩:=fin (some .ret) W3 O hk3
   exact⟨_,W4,hr,.inr ⟨rfl,.ret,.ret,hxt _ _ _ hp hc4,.inl ⟨rfl,rfl⟩,hl4,hk4⟩⟩
  |exit id=>
   obtain⟨W4,hr,hc4,hl4,hk4⟩:=fin (some (.exit id)) W3 O hk3
   exact⟨_,W4,hr,.inr ⟨rfl,.exit id,.exit id,hxt _ _ _ hp hc4,.inr ⟨id,rfl,rfl⟩,hl4,hk4⟩⟩
  |goto t=>exact hp.elim
  |panic ch=>exact hp.elim
  |outgrown=>exact hp.elim
end
abbrev lpT:Obj→Prop:=fun _=>True
abbrev dfT:Obj→Prop:=fun o=>o=.deferred (some [])
def Res.hasb:Res→Bool
 | .own ..=>true
 | .blk ..=>true
 | .mp ..=>true
 | .si ..=>true
 | .ob ..=>true
 | .mr ..=>true
 | .gn ..=>true
 |_=>false
theorem Res.nob: ∀{r:Res},r.hasb=false→r.ref=none→r.bl=[]
 | .dead,_,_=>rfl
 | .sh ..,_,_=>rfl
 | .ln ..,_,_=>rfl
 | .el ..,_,_=>rfl
 | .own ..,h,_=>by cases h
 | .blk ..,h,_=>by cases h
 | .mp ..,h,_=>by cases h
 | .mit ..,_,h=>by cases h
 | .si ..,h,_=>by cases h
 | .ob ..,h,_=>by cases h
 | .lmp ..,_,_=>rfl
 | .mr ..,h,_=>by cases h
 | .gn ..,h,_=>by cases h
def mvl (H:List (Nat×Res)):List Nat→List (Nat×Nat)
 | []=>[]
 |k::ks=>match hk H k with
  |some r=>bif rok [] r.ref then(bif r.hasb then(k,k)::mvl H ks else mvl H ks)else mvl H ks
  |none=>mvl H ks
theorem Qdl {o:Option Nat}(h:rok [] o=true):o=none:=by
 cases o with
 |none=>rfl
 |some j=>simp[rok]at h
theorem Qbr (H:List (Nat×Res)): ∀ks:List Nat,Sub H (kpH H [] ks) (mvl H ks) []
 | []=>.nil
 |k::ks=>by
  unfold kpH mvl
  cases I:hk H k with
  |none=>exact Qbr H ks
  |some r=>
   simp only[]
   cases E:rok [] r.ref with
   |false=>exact Qbr H ks
   |true=>
    cases L:r.hasb with
    |false=>exact .s k (Qbr H ks) I (Res.nob L (Qdl E)) (Qdl E)
    |true=>exact .m k (Qbr H ks) I (Qdl E)
theorem Hp.nds {n n':Nat}{ds ds':List Deferred}{w0:World}{S:List Nat}{F:Nat→Prop}{H:List (Nat×Res)}{w:World}(h:Hp ⟨n,ds,w0,S,F⟩ H w):Hp ⟨n',ds',w0,S,F⟩ H w:=⟨h.ch,h.hold,h.bnd,h.dis,h.ref⟩
theorem fin_round {C:Cx}{H He:List (Nat×Res)}{W W':World}{n:Nat}{ds:List Deferred}{bs:List Nat}(E:Hp C H W)(L:Hp ⟨n,ds,W,blks H (mvl H bs),Fh C H⟩ He W')(gs:List Nat)(M:Nat)(ps:List (Nat×Nat)){Ho:List (Nat×Res)}
  (I:(outs (kpH He gs gs)&&frs M H (kpH He gs gs))=true) (N:ren (hcat (sft M (kpH He gs gs)) (kill ((mvl H bs).map (·.2)) H)) ps=Ho) (O:nod (ps.map (·.1))=true) (V:nod (ps.map (·.2))=true):Hp C Ho W':=by
 rw[Qk]at I
 subst N
 exact(E.back (L.keep gs).nds I.1 I.2).ren ps O V
abbrev HK (kd kl D L:Nat) (p:Obj→Prop) (nh H:List (Nat×Res)):List (Nat×Res):=(kl,.ob L p)::(kd,.ob D dfT)::hcat nh H
def IK (C:Cx)(kd kl D L:Nat)(J:Nat→List (Nat×Res)→Prop)(H:List (Nat×Res)):Nat→World→Prop:=fun k W=>∃nh,J k nh∧Hp C (HK kd kl D L lpT nh H) W
def XK (P:Program)(Y:Exit→Act→World→Prop)(K:List Kx)(C:Cx)(l:List (Nat×Value))(D L:Nat):Exit→World→Prop:=fun e W=>∀W',Ch [L] W W'→∀a',Fr a' C.n (mkD D::C.ds) l→kont none P Y K e a' W'
def nrf (k:Nat)(H:List (Nat×Res)):Bool:=H.all fun p=>match p.2.ref with
 |none=>true
 |some j=> !(Nat.beq j k)
theorem hk_mem: ∀{H:List (Nat×Res)} {k:Nat} {r:Res},hk H k=some r→(k,r)∈H
 | [],_,_,h=>by cases h
 |(d,u)::q,k,r,h=>by
  rw[Qaa]at h
  split at h
  ·rename_i e;subst e;injection h with h;subst h;exact Qi ..
  ·exact Qd _ (hk_mem h)
theorem nrf_spec {k:Nat}{H:List (Nat×Res)}(h:nrf k H=true){j:Nat}{r:Res}(E:hk H j=some r):r.ref≠some k:=fun e=>by
 have:=Q8.1 h _ (hk_mem E)
 simp[e]at this
theorem Hp.ob {C:Cx}{H:List (Nat×Res)}{w w':World}{k L:Nat}{p q:Obj→Prop}{o:Obj}(h:Hp C ((k,.ob L p)::H) w)(hr:nrf k H=true)(V:Ch [L] w w')(ho:w'.heap[L]?=some o)(hq:q o):Hp C ((k,.ob L q)::H) w':=by
 have hsame: ∀j b,Bk ((k,.ob L q)::H) j b↔Bk ((k,.ob L p)::H) j b:=fun j b=>by
  by_cases E:j=k
  ·subst E;rw[Bk.cons_eq,Bk.cons_eq];exact Iff.rfl
  ·rw[Bk.cons_ne E,Bk.cons_ne E]
 have hL: ∀b,(∀j,¬Bk ((k,.ob L p)::H) j b)→b∉[L]:=fun b I O=>by
  rw[Qb]at O;subst O
  exact I k (Bk.cons_eq.2 (by simp[Res.bl]))
 have hnb: ∀b,(∀j,¬Bk ((k,.ob L p)::H) j b)→∀j,¬Bk ((k,.ob L q)::H) j b:=fun b I j E=>I j ((hsame j b).1 E)
 have hLk: ∀j b,Bk ((k,.ob L p)::H) j b→j≠k→b∉[L]:=fun j b I E O=>by
  rw[Qb]at O;subst O
  exact E (h.dis j k b I (Bk.cons_eq.2 (by simp[Res.bl])))
 refine⟨?_,fun j r E=>?_,fun j b E=>?_,fun j j' b E hj'=>h.dis j j' b ((hsame j b).1 E) ((hsame j' b).1 hj'),fun j r i E hri=>?_⟩
 ·have N:=h.ch
  refine⟨V.os.trans N.os,V.tape.trans N.tape,V.output.trans N.output,Q6 N.size V.size,fun b I W=>?_⟩
  rw[V.block b (Qj I N.size) (fun O=>?_)]
  ·exact N.block b I W
  ·rw[Qb]at O;subst O
   rcases(h.bnd k b (Bk.cons_eq.2 (by simp[Res.bl]))).1 with h1|h1
   ·omega
   ·exact W h1
 ·rw[Qaa]at E
  split at E
  ·injection E with E;subst E;exact⟨o,ho,hq⟩
  ·rename_i W
   have hj':hk ((k,.ob L p)::H) j=some r:=by rw[Qaa,if_neg W];exact E
   refine Res.to (h.hold j r hj') V (fun b I _=>⟨hL b I.1,hnb b I.1,I.2⟩) (fun b I _=>⟨hL b I,hnb b I⟩) (fun i b hi hB=>⟨hLk i b hB fun e=>nrf_spec hr E (by rw[hi,e]),(hsame i b).2 hB⟩) fun b I=>hLk j b ⟨r,hj',I⟩ (Ne.symm W)
 ·obtain⟨h1,h2⟩:=h.bnd j b ((hsame j b).1 E)
  exact⟨h1,Qj h2 V.size⟩
 ·rw[Qaa]at E
  split at E
  ·injection E with E;subst E;cases hri
  ·rename_i W
   obtain⟨h5,h6⟩:=h.ref j r i (by rw[Qaa,if_neg W];exact E) hri
   refine⟨h5,fun r2 h7=>?_⟩
   rw[Qaa]at h7
   split at h7
   ·injection h7 with h7;subst h7;rfl
   ·rename_i hn2;exact h6 r2 (by rw[Qaa,if_neg hn2];exact h7)
theorem Hp.obj {C:Cx}{H:List (Nat×Res)}{w w':World}{k L:Nat}{p q:Obj→Prop}{o:Obj}(h:Hp C H w)(E:hk H k=some (.ob L p))(N:Ch [L] w w')(O:w'.heap[L]?=some o)(hq:q o):Hp C ((k,.ob L q)::drp k H) w':=
 h.upd N (fun b I=>by rw[Qb]at I;subst I;exact⟨_,E,by simp[Res.bl]⟩) (fun b I=>.inl ⟨_,E,I⟩) (fun j V=>by cases V) fun F B _ _ _ _ _=>⟨o,O,hq⟩
def El (t:Ty)(ag:List Value→List Value)(xs:List t.den)(Φ:Nat→World→Nat→Prop):Nat→World→World→List Value→Prop:=fun k W0 W args=>
 ∃x cs,xs[k]?=some x∧args=ag cs∧t.rep W (fun b=>Φ k W0 b∨W0.heap.size≤b) cs x
def Sq (P:Program)(gf:FuncId)(cap:List Value)(Hc:List (Nat×Res))(t:Ty)(ag:List Value→List Value)(xs:List t.den):Prop:=
 ∀Φ:Nat→World→Nat→Prop,Seqk P gf cap xs.length (El t ag xs Φ) (fun k W=>Hp ⟨0,[],W,[],Φ k W⟩ Hc W)
theorem Qaj: ∀{l:List Nat},nod l=true↔l.Nodup
 | []=>by simp[nod]
 |k::l=>by
  simp only[nod,Qk,Xc,Wf,Qaj (l:=l)]
  refine and_congr ⟨fun h E=>?_,fun h=>?_⟩ Iff.rfl
  ·rw[Xf]at h;exact h k E (Wz k)
  ·rw[Xf];exact fun x I e=>h (by rw[Qz e];exact I)
theorem Qcn (H:List (Nat×Res))(all:List Nat): ∀ks:List Nat,List.Sublist ((kpH H all ks).map (·.1)) ks
 | []=>List.Sublist.refl _
 |k::ks=>by
  unfold kpH
  cases hk H k with
  |none=>exact(Qcn H all ks).cons k
  |some r=>
   simp only[]
   cases rok all r.ref with
   |false=>exact(Qcn H all ks).cons k
   |true=>exact(Qcn H all ks).cons_cons k
theorem Qbu (H:List (Nat×Res)): ∀ks:List Nat,List.Sublist ((mvl H ks).map (·.2)) ks
 | []=>List.Sublist.refl _
 |k::ks=>by
  unfold mvl
  cases hk H k with
  |none=>exact(Qbu H ks).cons k
  |some r=>
   simp only[]
   cases rok [] r.ref with
   |false=>exact(Qbu H ks).cons k
   |true=>cases r.hasb with
    |false=>exact(Qbu H ks).cons k
    |true=>exact(Qbu H ks).cons_cons k
def MF (P:Program)(D L:Nat)(o:Obj)(Yb:Obj→Exit→Act→World→Prop)(body:Code):Act→World→Prop:=fun a1 W1=>W1.heap[L]?=some o∧Dfr W1 D∧∀W2 o2,Ch [L] W1 W2→W2.heap[L]?=some o2→Dfr W2 D→WP (some L) P body (Yb o2) a1 W2
section
variable {P:Program}{Y:Exit→Act→World→Prop}{K:List Kx}{C:Cx}{l:List (Nat×Value)}{H:List (Nat×Res)}
theorem AX.rgf {g:Operand}{ps:List Nat}{assign body:Code}{gf:FuncId}{cap:List Value}{Hc:List (Nat×Res)}{t:Ty}{ag:List Value→List Value}{xs:List t.den}
  (kd kl kn:Nat) (E gs bs:List Nat) (J:Nat→List (Nat×Res)→Prop) (nh:List (Nat×Res)) (hcf: ∀args w,(callFunc gf args).run P w=.ok (.enter gf args) w) (hseq:Sq P gf cap Hc t ag xs) (hag: ∀cs,(ag cs).length=ps.length) (hJ0:J 0 nh)
  (hsub: ∀k nh D L,J k nh→(∃ls,Sub (HK kd kl D L lpT nh (kpH H E E)) Hc [] ls)∧nrf kl ((kd,.ob D dfT)::hcat nh (kpH H E E))=true∧∀o,nok (kpH (HK kd kl D L (fun x=>x=o) nh (kpH H E E)) [] bs) kn (lv t)=true)
  (hround: ∀k nh x D L W o,J k nh→xs[k]?=some x→t.ok x→Hp C (HK kd kl D L (fun x=>x=o) nh (kpH H E E)) W→tele (lv t) fun pl=>
   AX (some L) P (fun _ _ _=>False) [.m (MF P D L o (fun o2=>RQ D L o2 (IK C kd kl D L J (kpH H E E)) (XK P Y K C l D L) k) body)] assign
    ⟨C.n,[],W,blks (HK kd kl D L (fun x=>x=o) nh (kpH H E E)) (mvl (HK kd kl D L (fun x=>x=o) nh (kpH H E E)) bs),Fh C (HK kd kl D L (fun x=>x=o) nh (kpH H E E))⟩ (bindl ps (ag (cl t x pl)) l)
    (hcat (kx kn (rs t x pl)) (kpH (HK kd kl D L (fun x=>x=o) nh (kpH H E E)) [] bs)))
  (hdone: ∀nh D L,J xs.length nh→AE none P Y K .normal ⟨C.n,mkD D::C.ds,C.w0,C.S,C.F⟩ l (HK kd kl D L lpT nh (kpH H E E)))
  (hg:ev l g=some (.func (.func gf) #[] cap.toArray):=by rfl) (hps:ps.all (fun p=>Nat.ble (p+1) C.n)=true:=by rfl) (h0:kpH H gs gs=hcat nh (kpH H E E):=by kernel_rfl)
  (hn1:hk (hcat nh (kpH H E E)) kd=none:=by kernel_rfl) (hn2:hk (hcat nh (kpH H E E)) kl=none:=by kernel_rfl) (hne:Nat.beq kd kl=false:=by rfl) (hbs:nod bs=true:=by rfl) (hHc:nod (Hc.map (·.1))=true:=by rfl):
  AX none P Y K (.rangeFunc g ps.toArray assign body) C l H:=fun a w hf hh=>by
 have hne:kd≠kl:=fun e=>by rw[e,Wz]at hne;cases hne
 obtain⟨Φ,hΦ⟩: ∃Φ:Nat→World→Nat→Prop,Φ=fun k W b=>∃h:IK C kd kl w.heap.size (w.heap.size+1) J (kpH H E E) k W,Fh C (HK kd kl w.heap.size (w.heap.size+1) lpT (Classical.choose h) (kpH H E E)) b:=⟨_,rfl⟩
 have hΦe: ∀k W (h:IK C kd kl w.heap.size (w.heap.size+1) J (kpH H E E) k W),Φ k W=Fh C (HK kd kl w.heap.size (w.heap.size+1) lpT (Classical.choose h) (kpH H E E)):=fun k W h=>by
  subst hΦ;funext b;exact propext ⟨fun⟨_,h2⟩=>h2,fun h2=>⟨h,h2⟩⟩
 have hlast: ∀{k:Nat} {nh:List (Nat×Res)} {D:Nat},J k nh→nrf kl ((kd,.ob D dfT)::hcat nh (kpH H E E))=true:=fun h=>(hsub _ _ _ 0 h).2.1
 refine rangeK hf hg hcf xs.length _ _ (IK C kd kl w.heap.size (w.heap.size+1) J (kpH H E E)) (XK P Y K C l w.heap.size (w.heap.size+1)) (hseq Φ) (fun k W0 W args ⟨x,cs,_,h2,_⟩=>by rw[h2];exact hag cs) (fun p hp=>Qn (Q8.1 hps p hp)) ?_ ?_ ?_ ?_ ?_ ?_ ?_ ?_
 ·rintro W1 ⟨W',hc1,hz1,hd,hc2,hz2⟩ ⟨o,ho⟩
  refine⟨nh,hJ0,?_⟩
  have h1:Hp C (hcat nh (kpH H E E)) w:=hh.cov gs h0
  have h2:Hp C ((kd,.ob w.heap.size dfT)::hcat nh (kpH H E E)) W':=h1.new hn1 hc1 (fun b I=>by simp only[Res.bl,Qb]at I;omega) (fun j N=>by cases N) fun F B _ _ _=>⟨_,hd,rfl⟩
  refine h2.new (by rw[Qaa,if_neg hne];exact hn2) hc2 (fun b I=>by simp only[Res.bl,Qb]at I;omega) (fun j N=>by cases N) fun F B _ _ _=>⟨o,ho,trivial⟩
 ·rintro k W W' ⟨nh,O,V⟩ hc
  obtain⟨o,ho,_⟩: ∃o,W.heap[w.heap.size+1]?=some o∧lpT o:=V.hold kl (.ob (w.heap.size+1) lpT) (by rw[Qaa,if_pos rfl])
  have hlt:=Qj (Qe.1 ho).1 hc.size
  exact⟨nh,O,V.ob (hlast O) hc (W5 hlt) trivial⟩
 ·exact fun e W W' h hc W2 hc2=>h W2 (Ch.then (U:=[w.heap.size+1]) hc hc2 (by simp) (by simp))
 ·intro k W h
  rw[hΦe k W h]
  obtain⟨O,V⟩:=Classical.choose_spec h
  obtain⟨ls,hS⟩:=(hsub _ _ w.heap.size (w.heap.size+1) O).1
  exact hS.hp V hHc rfl (by simp)
 ·intro k W0 W args a1 o hk1 hI hc hlt ⟨x,cs,hx,hargs,hrep⟩ hlen ho hdf hfr
  rw[hΦe k W0 hI]at hrep
  obtain⟨O,V⟩:=Classical.choose_spec hI
  obtain⟨nh,hnh⟩: ∃nh,nh=Classical.choose hI:=⟨_,rfl⟩
  rw[←hnh]at hrep O V
  have hW1:Hp C (HK kd kl w.heap.size (w.heap.size+1) (fun x=>x=o) nh (kpH H E E)) W:=V.ob (hlast O) (hc.mono (by simp)) ho rfl
  have I:=(Qbr (HK kd kl w.heap.size (w.heap.size+1) (fun x=>x=o) nh (kpH H E E)) bs).hp hW1 (Qaj.2 ((Qcn _ _ bs).nodup (Qaj.1 hbs))) (Qaj.2 ((Qbu _ bs).nodup (Qaj.1 hbs))) (by simp)
  have hrep2:t.rep W (Fh ⟨C.n,[],W,blks (HK kd kl w.heap.size (w.heap.size+1) (fun x=>x=o) nh (kpH H E E)) (mvl (HK kd kl w.heap.size (w.heap.size+1) (fun x=>x=o) nh (kpH H E E)) bs),Fh C (HK kd kl w.heap.size (w.heap.size+1) (fun x=>x=o) nh (kpH H E E))⟩ (kpH (HK kd kl w.heap.size (w.heap.size+1) (fun x=>x=o) nh (kpH H E E)) [] bs)) cs x:=by
   have hnb: ∀b,(∀j,¬Bk (HK kd kl w.heap.size (w.heap.size+1) (fun x=>x=o) nh (kpH H E E)) j b)→∀j,¬Bk (kpH (HK kd kl w.heap.size (w.heap.size+1) (fun x=>x=o) nh (kpH H E E)) [] bs) j b:=fun b hB j ⟨r,h1,h2⟩=>hB j ⟨r,(Qbh h1).1,h2⟩
   have hpq: ∀j b,Bk (HK kd kl w.heap.size (w.heap.size+1) (fun x=>x=o) nh (kpH H E E)) j b→Bk (HK kd kl w.heap.size (w.heap.size+1) lpT nh (kpH H E E)) j b:=fun j b N=>by
    by_cases e:j=kl
    ·subst e;rw[Bk.cons_eq]at N ⊢;exact N
    ·rw[Bk.cons_ne e]at N ⊢;exact N
   refine rep_to hrep (S:=[]) (Ch.refl W) fun b I hl=>⟨by simp,?_⟩
   have:Fh C (HK kd kl w.heap.size (w.heap.size+1) (fun x=>x=o) nh (kpH H E E)) b:=by
    rcases I with I|I
    ·exact⟨fun j N=>I.1 j (hpq j b N),I.2⟩
    ·exact⟨fun j N=>by have:=(V.bnd j b (hpq j b N)).2;omega,.inr (.inl (Q6 V.ch.size I))⟩
   exact⟨hnb b this.1,.inl this⟩
  obtain⟨pl,hpl,hcs,hb2⟩:=Qcj I.nds hrep2 kn ((hsub _ _ w.heap.size (w.heap.size+1) O).2.2 o)
  subst hcs
  rw[hargs]at hfr
  refine wpIn_mono (Qak (hround k nh x w.heap.size (w.heap.size+1) W o O hx (rep_ok t hrep) hW1) pl hpl a1 W hfr hb2) fun e a2 W2 he=>?_
  cases e with
  |normal=>exact⟨rfl,he⟩
  |_=>exact False.elim he
 ·rintro W a' ⟨nh,O,V⟩ hd hf'
  exact hdone nh _ _ O a' W hf' V.nds
 ·exact fun W a' hX hd hf'=>hX W (Ch.refl' _ _) a' hf'
 ·exact fun id W a' hX hd hf'=>hX W (Ch.refl' _ _) a' hf'
theorem AE.flip {D L:Nat}{o:Obj}{Yb:Obj→Exit→Act→World→Prop}{body:Code}(kd kl:Nat)(h: ∀E,AX (some L) P (Yb E) [] body ⟨C.n,[],C.w0,C.S,C.F⟩ l ((kl,.ob L (fun x=>x=E))::H))(I:C.ds=[]:=by rfl)
  (V:hk H kl=some (.ob L (fun x=>x=o)):=by rfl) (h2:hk H kd=some (.ob D dfT):=by rfl) (hj:hng [kl] [] H=true:=by kernel_rfl):AE (some L) P Y (.m (MF P D L o Yb body)::K) .normal C l H:=fun a w W N=>by
 obtain⟨o',ho',e⟩: ∃o',w.heap[L]?=some o'∧o'=o:=N.hold kl _ V
 obtain⟨d,hd,e2⟩: ∃d,w.heap[D]?=some d∧d=.deferred (some []):=N.hold kd _ h2
 subst e;subst e2
 rw[I]at W
 exact⟨ho',hd,fun W2 E hc O _=>h E a W2 W (Hp.dd (js:=[]) (N.obj (q:=fun x=>x=E) V hc O rfl) hj).nds⟩
theorem Qdc {n:Nat}{ds:List Deferred}{W W':World}{kd kl D L M:Nat}{p:Obj→Prop}{E:Obj}{nh Hk He Ho:List (Nat×Res)}{bs gs:List Nat}{ps:List (Nat×Nat)}(I:Hp C (HK kd kl D L p nh Hk) W)(N:Hp ⟨n,ds,W,blks (HK kd kl D L p nh Hk) (mvl (HK kd kl D L p nh Hk) bs),Fh C (HK kd kl D L p nh Hk)⟩ He W')
  (O:hk He kd=some (.ob D dfT)) (V:hk He kl=some (.ob L (fun x=>x=E))) (h1:(outs (kpH He gs gs)&&frs M (HK kd kl D L p nh Hk) (kpH He gs gs))=true)
  (h2:ren (hcat (sft M (kpH He gs gs)) (kill ((mvl (HK kd kl D L p nh Hk) bs).map (·.2)) (HK kd kl D L p nh Hk))) ps=(kl,.ob L (fun x=>x=E))::Ho) (h3:nod (ps.map (·.1))=true) (h4:nod (ps.map (·.2))=true) (h5:nrf kl Ho=true):
  W'.heap[L]?=some E∧Dfr W' D∧∀W2,Ch [L] W' W2→Hp C ((kl,.ob L lpT)::Ho) W2:=by
 obtain⟨o',ho',e⟩: ∃o',W'.heap[L]?=some o'∧o'=E:=N.hold kl _ V
 obtain⟨d,hd,e2⟩: ∃d,W'.heap[D]?=some d∧d=.deferred (some []):=N.hold kd _ O
 subst e;subst e2
 refine⟨ho',hd,fun W2 hc=>?_⟩
 have:=fin_round I N gs M ps h1 h2 h3 h4
 exact this.ob h5 hc (W5 (Qj (Qe.1 ho').1 hc.size)) trivial
theorem AE.bn {X:Exit→World→Prop}{k n:Nat}{W:World}{kd kl D L:Nat}{p:Obj→Prop}{E:Obj}{nh Hk He:List (Nat×Res)}{J:Nat→List (Nat×Res)→Prop}{bs:List Nat}{S:List Nat}{F:Nat→Prop}(I:Hp C (HK kd kl D L p nh Hk) W)(gs:List Nat)(M:Nat)(ps:List (Nat×Nat))(nh':List (Nat×Res))(V:J (k+1) nh')
  (hS:S=blks (HK kd kl D L p nh Hk) (mvl (HK kd kl D L p nh Hk) bs)) (hF:F=Fh C (HK kd kl D L p nh Hk))
  (N:hk He kd=some (.ob D dfT):=by rfl) (O:hk He kl=some (.ob L (fun x=>x=E)):=by rfl) (h1:(outs (kpH He gs gs)&&frs M (HK kd kl D L p nh Hk) (kpH He gs gs))=true:=by kernel_rfl)
  (h2:ren (hcat (sft M (kpH He gs gs)) (kill ((mvl (HK kd kl D L p nh Hk) bs).map (·.2)) (HK kd kl D L p nh Hk))) ps=(kl,.ob L (fun x=>x=E))::(kd,.ob D dfT)::hcat nh' Hk:=by kernel_rfl) (h3:nod (ps.map (·.1))=true:=by rfl) (h4:nod (ps.map (·.2))=true:=by rfl) (h5:nrf kl ((kd,.ob D dfT)::hcat nh' Hk)=true:=by kernel_rfl):
  AE (some L) P (RQ D L E (IK C kd kl D L J Hk) X k) [] .normal ⟨n,[],W,S,F⟩ l He:=fun a w hf hh=>by
 subst hS;subst hF
 obtain⟨h6,h7,h8⟩:=Qdc I hh N O h1 h2 h3 h4 h5
 exact⟨h6,h7,nh',V,h8 w (Ch.refl' _ _)⟩
theorem AX.bret {Kb:List Kx}{I:Nat→World→Prop}{lo:List (Nat×Value)}{k n:Nat}{W:World}{kd kl D L:Nat}{p:Obj→Prop}{E:Obj}{nh Hk He:List (Nat×Res)}{bs:List Nat}{S:List Nat}{F:Nat→Prop}(N:Hp C (HK kd kl D L p nh Hk) W)(gs:List Nat)(M:Nat)(ps:List (Nat×Nat))(Ho:List (Nat×Res))
  (hout:AE none P Y K .ret ⟨C.n,mkD D::C.ds,C.w0,C.S,C.F⟩ lo ((kl,.ob L lpT)::Ho)) (hS:S=blks (HK kd kl D L p nh Hk) (mvl (HK kd kl D L p nh Hk) bs)) (hF:F=Fh C (HK kd kl D L p nh Hk))
  (O:hk He kd=some (.ob D dfT):=by rfl) (V:hk He kl=some (.ob L (fun x=>x=E)):=by rfl) (h1:(outs (kpH He gs gs)&&frs M (HK kd kl D L p nh Hk) (kpH He gs gs))=true:=by kernel_rfl)
  (h2:ren (hcat (sft M (kpH He gs gs)) (kill ((mvl (HK kd kl D L p nh Hk) bs).map (·.2)) (HK kd kl D L p nh Hk))) ps=(kl,.ob L (fun x=>x=E))::Ho:=by kernel_rfl) (h3:nod (ps.map (·.1))=true:=by rfl) (h4:nod (ps.map (·.2))=true:=by rfl) (h5:nrf kl Ho=true:=by kernel_rfl):
  AX (some L) P (RQ D L E I (XK P Y K C lo D L) k) Kb .ret ⟨n,[],W,S,F⟩ l He:=fun a w hf hh=>by
 subst hS;subst hF
 obtain⟨h6,h7,h8⟩:=Qdc N hh O V h1 h2 h3 h4 h5
 exact wpIn_ret (kont_ret ⟨h6,h7,fun W' hc a' hf'=>hout a' W' hf' (h8 W' hc).nds⟩)
end
def bodyQ (P:Program)(fn:Func)(R:Ending→World→Prop):Exit→Act→World→Prop
 | .normal,a,w=>bodyPostM (FW none) 0 P fn R .normal a w
 | .ret,a,w=>bodyPostM (FW none) 0 P fn R .ret a w
 |_,_,_=>False
def unob:List (Nat×Res)→List (Nat×Res)
 | []=>[]
 |(k,r)::H=>(k,match r with
  | .ob _ _=>.dead
  |r=>match r.ref with
   |none=>r
   |some _=>.dead)::unob H
theorem Qci: ∀{H:List (Nat×Res)} {k:Nat} {r:Res},hk (unob H) k=some r→r=.dead∨(hk H k=some r∧r.ref=none∧∀g p,r≠ .ob g p)
 | [],_,_,h=>by cases h
 |(d,u)::H,k,r,h=>by
  unfold unob at h
  rw[Qaa]at h ⊢
  split at h
  ·rename_i e
   rw[if_pos e]
   injection h with h
   cases u with
   |ob g p=>exact .inl h.symm
   |el k b o cs=>cases k with
    |none=>subst h;exact .inr ⟨rfl,rfl,fun g p e=>by cases e⟩
    |some j=>exact .inl h.symm
   |mit k g b n s la=>exact .inl h.symm
   |_=>subst h;exact .inr ⟨rfl,rfl,fun g p e=>by cases e⟩
  ·rename_i e;rw[if_neg e];exact Qci h
def okD (H:List (Nat×Res)):List Nat→List Nat→Prop
 | [],[]=>True
 |D::Ds,k::ks=>hk H k=some (.ob D dfT)∧okD H Ds ks
 |_,_=>False
theorem Qcr {H:List (Nat×Res)}: ∀{Ds ks:List Nat},okD H Ds ks→∀D,D∈Ds→∃k,k∈ks∧hk H k=some (.ob D dfT)
 | [],_,_,D,h=>by cases h
 |D::Ds,[],h,_,_=>by cases h
 |D::Ds,k::ks,h,E,I=>by
  rcases Qm.1 I with rfl|I
  ·exact⟨k,Qi ..,h.1⟩
  ·obtain⟨j,L,N⟩:=Qcr h.2 E I;exact⟨j,Qd _ L,N⟩
theorem Qcu {C:Cx}{H:List (Nat×Res)}{w:World}(I:Hp C H w): ∀{Ds ks:List Nat},okD H Ds ks→ks.Nodup→Ds.Nodup
 | [],_,_,_=>List.nodup_nil
 |D::Ds,[],h,_=>by cases h
 |D::Ds,k::ks,h,E=>by
  rw[Wf]at E ⊢
  refine⟨fun L=>?_,Qcu I h.2 E.2⟩
  obtain⟨j,N,O⟩:=Qcr h.2 D L
  have:=I.dis k j D ⟨_,h.1,by simp[Res.bl]⟩ ⟨_,O,by simp[Res.bl]⟩
  exact E.1 (this▸N)
theorem Hp.unob {C:Cx}{H:List (Nat×Res)}{w w':World}{Ds:List Nat}(h:Hp C H w)(hD: ∀D,D∈Ds→∃k,hk H k=some (.ob D dfT))(V:Ch Ds w w'):Hp C (A.unob H) w':=by
 have E: ∀j b,Bk (A.unob H) j b→Bk H j b∧b∉Ds:=fun j b ⟨r,h1,h2⟩=>by
  rcases Qci h1 with rfl|⟨h3,_,h4⟩
  ·cases h2
  ·refine⟨⟨r,h3,h2⟩,fun hm=>?_⟩
   obtain⟨k,O⟩:=hD b hm
   have:=h.dis j k b ⟨r,h3,h2⟩ ⟨_,O,by simp[Res.bl]⟩
   subst this
   rw[h3]at O;injection O with O;exact h4 _ _ O
 have hfree: ∀b,(∀k,¬Bk H k b)→b∉Ds∧∀k,¬Bk (A.unob H) k b:=fun b I=>⟨fun hm=>by obtain⟨k,O⟩:=hD b hm;exact I k ⟨_,O,by simp[Res.bl]⟩,fun j N=>I j (E j b N).1⟩
 refine⟨?_,fun j r N=>?_,fun j b N=>?_,fun j j' b N hj'=>h.dis j j' b (E j b N).1 (E j' b hj').1,fun j r i N W=>?_⟩
 ·have L:=h.ch
  refine⟨V.os.trans L.os,V.tape.trans L.tape,V.output.trans L.output,Q6 L.size V.size,fun b I hn=>?_⟩
  rw[V.block b (Qj I L.size) (fun hm=>?_)]
  ·exact L.block b I hn
  ·obtain⟨k,O⟩:=hD b hm
   rcases(h.bnd k b ⟨_,O,by simp[Res.bl]⟩).1 with h1|h1
   ·omega
   ·exact hn h1
 ·rcases Qci N with rfl|⟨h3,h4,O⟩
  ·trivial
  ·exact Res.to (h.hold j r h3) V (fun b I _=>⟨(hfree b I.1).1,(hfree b I.1).2,I.2⟩) (fun b I _=>hfree b I) (fun i b hi _=>by rw[h4]at hi;cases hi) fun b I=>(E j b ⟨r,N,I⟩).2
 ·exact⟨(h.bnd j b (E j b N).1).1,Qj (h.bnd j b (E j b N).1).2 V.size⟩
 ·rcases Qci N with rfl|⟨_,h4,_⟩
  ·cases W
  ·rw[h4]at W;cases W
section
variable {r:Option Nat}{P:Program}{K:List Kx}{l:List (Nat×Value)}{H:List (Nat×Res)}
theorem Ct.enterM {f:FuncId}{fn:Func}{c:Code}{vs:List Value}{n:Nat}{S:List Nat}{R:Value→List (Nat×Res)→Prop}(E:P.funcs[f]?=some fn)(I:fn.body=some c)(L:fn.ntmps=n)(N:Nat.ble vs.length n=true)
  (h: ∀w F,AX none P (bodyQ P fn fun e w'=>∃v H',e=.returned v∧R v H'∧Hp ⟨0,[],w,S,F⟩ H' w') [] c ⟨n,[],w,S,F⟩ (argl vs 0) H):Ct P f vs H S R:=fun w F O=>
 Z.enterM E I L (Qn N) fun a hf'=>wpIn_mono (h w F a w hf' O.nds) fun e a w h=>(by cases e<;>first|exact h|exact False.elim h)
theorem AE.rtM {fn:Func}{w0:World}{S:List Nat}{F:Nat→Prop}{n:Nat}{R:Value→List (Nat×Res)→Prop}{Ds:List Nat}{ds:List Deferred}(kds:List Nat)(ps:List (Nat×Nat))(v:Value)(I:okD H Ds kds)(hres: ∀a w,Fr a n ds l→Hp ⟨n,ds,w0,S,F⟩ (A.unob H) w→(results fn a.tmps).run P w=.ok v w)(W:R v (A.ren (A.unob H) ps))(L:marks Ds=ds:=by rfl)(hk:nod kds=true:=by rfl)(h1:nod (ps.map (·.1))=true:=by rfl)(h2:nod (ps.map (·.2))=true:=by rfl):
  AE r P (bodyQ P fn fun e w'=>∃v H',e=.returned v∧R v H'∧Hp ⟨0,[],w0,S,F⟩ H' w') K .ret ⟨n,ds,w0,S,F⟩ l H:=fun a w V N=>by
 subst L
 refine kont_ret (retM V (fun D O=>?_) (Qcu N I (Qaj.1 hk)) fun w' hc _=>?_)
 ·obtain⟨k,_,E⟩:=Qcr I D O
  obtain⟨d,hd,e2⟩: ∃d,w.heap[D]?=some d∧d=.deferred (some []):=N.hold k _ E
  subst e2;exact hd
 ·have E:=N.unob (fun D O=>by obtain⟨k,_,E⟩:=Qcr I D O;exact⟨k,E⟩) hc
  exact⟨v,hres a w' V E,v,_,rfl,W,(E.ren ps h1 h2).nds⟩
theorem AX.rtM {fn:Func}{w0:World}{S:List Nat}{F:Nat→Prop}{n:Nat}{R:Value→List (Nat×Res)→Prop}{Ds:List Nat}{ds:List Deferred}(kds:List Nat)(ps:List (Nat×Nat))(v:Value)(I:okD H Ds kds)(hres: ∀a w,Fr a n ds l→Hp ⟨n,ds,w0,S,F⟩ (A.unob H) w→(results fn a.tmps).run P w=.ok v w)(L:R v (A.ren (A.unob H) ps))(E:marks Ds=ds:=by rfl)(hk:nod kds=true:=by rfl)(N:nod (ps.map (·.1))=true:=by rfl)(O:nod (ps.map (·.2))=true:=by rfl):
  AX r P (bodyQ P fn fun e w'=>∃v H',e=.returned v∧R v H'∧Hp ⟨0,[],w0,S,F⟩ H' w') K .ret ⟨n,ds,w0,S,F⟩ l H:=fun a w V W=>wpIn_ret (AE.rtM kds ps v I hres L E hk N O a w V W)
end
structure Yl (P:Program) (lid:Nat) (J:Nat→World→Prop) (Jx:World→Prop) (Φ:Nat→World→Nat→Prop) (Hc:List (Nat×Res)) (t:Ty) (ag:List Value→List Value) (xs:List t.den):Prop where
 js: ∀k W W',J k W→Ch [] W W'→J k W'
 jx: ∀W W',Jx W→Ch [] W W'→Jx W'
 dat: ∀k W,J k W→Hp ⟨0,[],W,[],Φ k W⟩ Hc W
 y: ∀k W0 W args,k<xs.length→J k W0→Ch [] W0 W→El t ag xs Φ k W0 W args→YieldAt (FW none) 0 P lid args.toArray W fun e W'=>(e=.returned (.bool true)∧J (k+1) W')∨(e=.returned (.bool false)∧Jx W')
def Rem {α:Type}(xs:List α)(k:Nat)(rs:List α):Prop:=xs.drop k=rs∧k≤xs.length
theorem Rem.zero {α:Type}(xs:List α):Rem xs 0 xs:=⟨rfl,W9 _⟩
theorem Rem.nil {α:Type}{xs:List α}{k:Nat}(h:Rem xs k []):k=xs.length:=by
 have:=List.drop_eq_nil_iff.1 h.1;have:=h.2;omega
theorem Rem.at {α:Type}{xs rs:List α}{k:Nat}{x:α}(h:Rem xs k (x::rs)):xs[k]?=some x:=by
 have E:=h.1
 have:(xs.drop k)[0]?=some x:=by rw[E];rfl
 rw[Wh]at this;simpa using this
theorem Rem.next {α:Type}{xs rs:List α}{k:Nat}{x:α}(h:Rem xs k (x::rs)):Rem xs (k+1) rs:=by
 refine⟨?_,?_⟩
 ·rw[←List.drop_drop,h.1];rfl
 ·exact(Qa.1 h.at).1
def cns {α:Type}(x:α)(r:Option (List α)):Option (List α):=r.map (x:: ·)
theorem cns_some {α:Type}{x:α}{r:Option (List α)}{rs:List α}(h:cns x r=some rs): ∃rs',rs=x::rs'∧r=some rs':=by
 cases r with
 |none=>cases h
 |some l=>exact⟨l,(Wq h).symm,rfl⟩
abbrev CY (n:Nat) (Φ:Nat→World→Nat→Prop) (i:Nat×World):Cx:=⟨n,[],i.2,[],Φ i.1 i.2⟩
section
variable {P:Program}{lid:Nat}{J:Nat→World→Prop}{Jx:World→Prop}{Φ:Nat→World→Nat→Prop}{Hc:List (Nat×Res)}{t:Ty}{ag:List Value→List Value}{xs:List t.den}{n:Nat}
theorem Sq.enter {gf:FuncId}{fn:Func}{c:Code}{cap:List Value}(L:P.funcs[gf]?=some fn)(N:fn.body=some c)(O:fn.ntmps=n)(V:Nat.ble (cap.length+1) n=true)
  (h: ∀lid w J Jx Φ,Yl P lid J Jx Φ Hc t ag xs→J 0 w→AX none P (bodyPost P fn fun e W'=>e=.returned (.tuple #[])∧(J xs.length W'∨Jx W')) [] c (CY n Φ (0,w)) (argl (.func (.yield lid) #[] #[]::cap) 0) Hc):Sq P gf cap Hc t ag xs:=fun Φ lid w J Jx W h2 E I h5=>
 Z.enter L N O (Qn V) fun a hf'=>h lid w J Jx Φ ⟨W,h2,E,h5⟩ I a w hf' (E 0 w I).nds
theorem AL.yield {ops:Array Oper}{Q:Exit→Act→World→Prop}{rest:List Oper}{l:List (Nat×Value)}{H:List (Nat×Res)}{d:Nat}{T:TypeId}{pos:String}{af:Array Edge}{c:Operand}{ass:List Operand}{ts:Array TypeId}{vs:List Value}{k:Nat}{w0:World}{x:t.den}{rs:List t.den}
  (N:Yl P lid J Jx Φ Hc t ag xs) (V:J k w0) (I:Rem xs k (x::rs)) (cs:List Value) (W:Dat H t cs x)
  (ht: ∀w',J (k+1) w'→Rem xs (k+1) rs→AL none P ops Q rest (CY n Φ (k+1,w')) ((d,.bool true)::l) Hc)
  (he: ∀w',Jx w'→AL none P ops Q rest ⟨n,[],w',[],no⟩ ((d,.bool false)::l) [])
  (hc:ev l c=some (.func (.yield lid) #[] #[]):=by rfl) (hx:evs l ass=some vs:=by rfl) (hv:ag cs=vs:=by rfl) (hd:Nat.ble (d+1) n=true:=by rfl):
  AL none P ops Q (⟨some d,.call {callee:=.value c,args:=ass.toArray,argTypes:=ts},T,pos,af,none⟩::rest) (CY n Φ (k,w0)) l H:=fun a w hf O=>by
 subst hv
 have L:k<xs.length:=(Qa.1 I.at).1
 refine callY hf hd hc hx (N.y k w0 w _ L V O.ch ⟨x,cs,I.at,rfl,Qap (Dat.rep O t W) fun b hb hl=>?_⟩) ?_
 ·rcases hb.2 with E|E|E
  ·exact .inl E
  ·exact .inr E
  ·cases E
 ·rintro e w' (⟨rfl,E⟩|⟨rfl,E⟩)
  ·exact⟨_,rfl,fun a' hf'=>ht w' E I.next a' w' hf' (N.dat _ _ E).nds⟩
  ·exact⟨_,rfl,fun a' hf'=>he w' E a' w' hf' ⟨Ch.refl' _ _,fun k r h=>(by cases h),fun k b ⟨_,h,_⟩=>(by cases h),fun k k' b ⟨_,h,_⟩=>(by cases h),fun k r j h=>(by cases h)⟩⟩
theorem AE.rtY {fn:Func}{l:List (Nat×Value)}{H:List (Nat×Res)}{k:Nat}{w0:World}(E:Yl P lid J Jx Φ Hc t ag xs)(I:J k w0)(L:Rem xs k [])(h:fn.results=#[]:=by rfl):AE none P (bodyPost P fn fun e W'=>e=.returned (.tuple #[])∧(J xs.length W'∨Jx W')) [] .normal (CY n Φ (k,w0)) l H:=fun a w N O=>
 Z.endv N (Z.res0 h w) ⟨rfl,.inl (L.nil▸E.js _ _ _ I O.ch)⟩
theorem AX.rtX {fn:Func}{K:List Kx}{l:List (Nat×Value)}{H:List (Nat×Res)}{w0:World}{F:Nat→Prop}(E:Yl P lid J Jx Φ Hc t ag xs)(I:Jx w0)(h:fn.results=#[]:=by rfl):AX none P (bodyPost P fn fun e W'=>e=.returned (.tuple #[])∧(J xs.length W'∨Jx W')) K .ret ⟨n,[],w0,[],F⟩ l H:=AX.ret0 fun a w L N=>
 Z.retv L (Z.res0 h w) ⟨rfl,.inr (E.jx _ _ I N.ch)⟩
end
section
variable {r:Option Nat}{P:Program}{Y:Exit→Act→World→Prop}{K:List Kx}{C:Cx}{l:List (Nat×Value)}{H:List (Nat×Res)}{ι:Type}{Cf:ι→Cx}
abbrev StC (Cf:ι→Cx) (l:List (Nat×Value)) (H:List (Nat×Res)) (ks hs:List Nat) (J:ι→List (Nat×Value)→List (Nat×Res)→Prop):Act→World→Prop:=fun a w=>∃i nl nh,J i nl nh∧Fr a (Cf i).n (Cf i).ds (cat nl (kp l ks))∧Hp (Cf i) (hcat nh (kpH H hs hs)) w
theorem AE.jC {l':List (Nat×Value)}{H':List (Nat×Res)}{ks E:List Nat}{J:ι→List (Nat×Value)→List (Nat×Res)→Prop}(i:ι)(gs:List Nat)(nl:List (Nat×Value))(nh:List (Nat×Res))(I:J i nl nh)(L:kp l ((cat nl (kp l' ks)).map (·.1))=cat nl (kp l' ks):=by kernel_rfl)(N:kpH H gs gs=hcat nh (kpH H' E E):=by kernel_rfl):
  AE r P Y (.m (StC Cf l' H' ks E J)::K) .normal (Cf i) l H:=fun a w O V=>⟨i,nl,nh,I,Fr.cov O L,V.cov gs N⟩
theorem AX.loopC (Cf:ι→Cx)(I:ι)(ks E gs:List Nat)(J:Nat→ι→List (Nat×Value)→List (Nat×Res)→Prop)(m:Nat)(nl:List (Nat×Value))(nh:List (Nat×Res)){x:Code}(L:J m I nl nh)
  (h: ∀f i nl nh,J f i nl nh→AX r P Y (.m (StC Cf l H ks E fun i nl nh=>∃f',f'<f∧J f' i nl nh)::K) x (Cf i) (cat nl (kp l ks)) (hcat nh (kpH H E E)))
  (W:kp l ((cat nl (kp l ks)).map (·.1))=cat nl (kp l ks):=by kernel_rfl) (h2:kpH H gs gs=hcat nh (kpH H E E):=by kernel_rfl):AX r P Y K (.loop x) (Cf I) l H:=fun a w N O=>by
 refine Z.loop (fun f a w=>StC Cf l H ks E (J f) a w) m ⟨I,nl,nh,L,Fr.cov N W,O.cov gs h2⟩ fun f a w ⟨i,nl,nh,L,N,O⟩=>?_
 refine wpIn_mono (h f i nl nh L a w N O) fun e a w hq=>?_
 cases e with
 |normal=>obtain⟨i,nl,nh,⟨f',V,hJ'⟩,hf',hh'⟩:=hq;exact⟨f',V,i,nl,nh,hJ',hf',hh'⟩
 |_=>exact hq
end
theorem drop_at {α:Type}{xs:List α}{k:Nat}{x:α}(h:xs[k]?=some x):xs.drop k=x::xs.drop (k+1):=by
 obtain⟨E,rfl⟩:=Qa.1 h
 exact List.drop_eq_getElem_cons E
section
variable {P:Program}{kt et tt:TypeId}{κ:Type}[DecidableEq κ]{enc:κ→Value}{w:World}{b:Nat}
theorem Qct {arr:List MapEntry}{clock:Nat}{ks:List κ}{z:Value}(K:Ky P kt enc)(ht:P.underlying tt=some (.map kt et))(hz: ∀w,(zeroValue et).run P w=.ok z w)(hb:w.heap[b]?=some (.map arr.toArray clock))(hk:arr.map (·.key)=ks.map enc)(I: ∀e,e∈arr→e.born<clock)(V:(arr.map (·.born)).Nodup)(k:κ):
  ∃(arr1:List MapEntry) (clock1 i:Nat) (O:MapEntry),(Instr.mapEntry tt (.map (some b)) (enc k)).run P w=.ok (.tuple #[O.val,goInt O.born]) (w.putObj b (.map arr1.toArray clock1))∧arr1[i]?=some O∧O.key=enc k∧(∀e,e∈arr1→e.born<clock1)∧(arr1.map (·.born)).Nodup∧
   ((loc k ks=some i∧arr1=arr)∨(loc k ks=none∧i=arr.length∧arr1=arr++[O]∧O.val=z)):=by
 have hfind:=Qau K k w arr ks hk
 have hget:(getObj b).run P w=.ok (.map arr.toArray clock) w:=by simp[getObj,Sem.run,hb]
 cases hloc:loc k ks with
 |none=>
  rw[hloc]at hfind
  refine⟨arr++[{key:=enc k,val:=z,born:=clock}],clock+1,arr.length,{key:=enc k,val:=z,born:=clock},?_,by simp,rfl,?_,?_,.inr ⟨rfl,rfl,rfl,rfl⟩⟩
  ·simp only[Instr.mapEntry,Sem.run_bind,run_underlying ht,Result.andThen_ok,hget,K.check,hfind,Option.bind_none,hz,MapC.set hb,Sem.run_pure,List.push_toArray]
  ·intro e E
   rcases Qv.1 E with E|E
   ·have:=I e E;omega
   ·simp at E;subst E;simp
  ·rw[List.map_append,Q0]
   refine⟨V,by simp,fun x hx y hy=>?_⟩
   simp at hy;subst hy
   obtain⟨e,E,rfl⟩:=Xm.1 hx
   have:=I e E;omega
 |some i=>
  rw[hloc]at hfind
  have hi:i<ks.length:=by
   have: ∀(ks:List κ) (i:Nat),loc k ks=some i→i<ks.length∧ks[i]?=some k:=by
    intro ks
    induction ks with
    |nil=>intro i h;cases h
    |cons a r ih=>
     intro i h
     unfold loc at h
     split at h
     ·rename_i e;injection h with h;subst h;subst e;exact⟨by simp,rfl⟩
     ·cases L:loc k r with
      |none=>rw[L]at h;cases h
      |some j=>rw[L]at h;injection h with h;subst h;have:=ih j L;exact⟨by simp;omega,by simpa using this.2⟩
   exact(this ks i hloc).1
  have hks:ks[i]?=some k:=by
   have: ∀(ks:List κ) (i:Nat),loc k ks=some i→ks[i]?=some k:=by
    intro ks
    induction ks with
    |nil=>intro i h;cases h
    |cons a r ih=>
     intro i h
     unfold loc at h
     split at h
     ·rename_i e;injection h with h;subst h;subst e;rfl
     ·cases L:loc k r with
      |none=>rw[L]at h;cases h
      |some j=>rw[L]at h;injection h with h;subst h;simpa using ih j L
   exact this ks i hloc
  have hlen:arr.length=ks.length:=by have:=congrArg List.length hk;simpa using this
  obtain⟨e,E⟩: ∃e,arr[i]?=some e:=⟨_,Qc (by omega)⟩
  have N:e.key=enc k:=by
   have h6:(arr.map (·.key))[i]?=some e.key:=by rw[Qr,E];rfl
   rw[hk,Qr,hks]at h6
   simpa using h6.symm
  have hstay:(Instr.keyThatStays (enc k) (enc k)).run P w=.ok (enc k) w:=by simp[Instr.keyThatStays,K.bits]
  have hsame:(arr.toArray.modify i fun e=>{e with key:=enc k})=arr.toArray:=by
   have:(arr.toArray.modify i fun e=>{e with key:=enc k})=(arr.modify i fun e=>{e with key:=enc k}).toArray:=by simp
   rw[this]
   refine congrArg List.toArray (Q2 fun j=>?_)
   rw[Qy]
   by_cases W:i=j
   ·subst W;rw[E];simp[←N]
   ·simp[W]
  refine⟨arr,clock,i,e,?_,E,N,I,V,.inl ⟨rfl,rfl⟩⟩
  simp only[Instr.mapEntry,Sem.run_bind,run_underlying ht,Result.andThen_ok,hget,K.check,hfind,Qf,E,Q9,Xh,Option.getD_some,N,hstay,hsame,MapC.set hb,Sem.run_pure]
theorem run_entryStore {arr:List MapEntry}{clock i:Nat}{E:MapEntry}(O:w.heap[b]?=some (.map arr.toArray clock))(hi:arr[i]?=some E)(I:(arr.map (·.born)).Nodup)(v:Value):
  (Instr.entryStore tt (.map (some b)) (goInt E.born) v).run P w=.ok () (w.putObj b (.map (arr.modify i fun e=>{e with val:=v}).toArray clock)):=by
 have hget:(getObj b).run P w=.ok (.map arr.toArray clock) w:=by simp[getObj,Sem.run,O]
 have hidx:arr.toArray.findIdx? (fun e=>(e.born:Int)==(E.born:Int))=some i:=by
  rw[Array.findIdx?_eq_some_iff_getElem]
  obtain⟨V,W⟩:=Qa.1 hi
  refine⟨by simpa using V,by simp[W],fun j hj=>?_⟩
  have L:j<arr.length:=by omega
  have hne:arr[j].born≠E.born:=fun h=>by
   have:=(List.getElem_inj I (i:=j) (j:=i) (h₀:=by simpa using L) (h₁:=by simpa using V)).1 (by simp[W,h])
   omega
  simp only[List.getElem_toArray,beq_iff_eq]
  omega
 have N:(asIntOf (Value.int IntKind.i64 (E.born:Int))).run P w=.ok (.i64,(E.born:Int)) w:=by simp[asIntOf]
 simp only[Instr.entryStore,Sem.run_bind,hget,Result.andThen_ok,goInt,asInt,N,hidx,MapC.set O,Sem.run_pure,List.modify_toArray]
end
section
variable {P:Program}{kt et tt st ty:TypeId}{κ:Type}[DecidableEq κ]{enc:κ→Value}{w:World}{b:Nat}{t:Ty}{e:TypeId}{F G:Nat→Prop}{As:List (Option Addr×Nat)}{m:List (κ×List t.den)}
theorem Mr.asF {F':Nat→Prop}(h:Mr enc t e w F b As m)(E: ∀x,F x→x<w.heap.size→F' x):Mr enc t e w F' b As m:=h.to (S:=[]) (Ch.refl w) (by simp) fun x I L=>⟨by simp,E x I L⟩
theorem Qbb {i:Nat}{a a':Option Addr×Nat}(h:As[i]?=some a): ∀x,x∈rbl (As.set i a')→x∈rbl As∨x∈obl a'.1:=fun x L=>by
 obtain⟨y,I,E⟩:=Xi.1 L
 rcases W6 I with I|rfl
 ·exact .inl (Xi.2 ⟨y,I,E⟩)
 ·exact .inr E
theorem Qcy {i j:Nat}{a c:Option Addr×Nat}(V:(rbl As).Nodup)(I:As[i]?=some a)(L:As[j]?=some c)(N:i≠j): ∀x,x∈obl a.1→x∉obl c.1:=by
 induction As generalizing i j with
 |nil=>simp at I
 |cons y r W=>
  have hn':(obl y.1++rbl r).Nodup:=V
  rw[Q0]at hn'
  cases i with
  |zero=>
   cases j with
   |zero=>exact absurd rfl N
   |succ j=>
    simp only[Wo,Qh]at I;subst I
    simp only[Wc]at L
    exact fun x O E=>hn'.2.2 x O x (Qab L E) rfl
  |succ i=>
   simp only[Wc]at I
   cases j with
   |zero=>
    simp only[Wo,Qh]at L;subst L
    exact fun x O E=>hn'.2.2 x E x (Qab I O) rfl
   |succ j=>
    simp only[Wc]at L
    exact W hn'.2.1 I L (by omega)
theorem rbl_set_nodup {i:Nat}{a a':Option Addr×Nat}(V:(rbl As).Nodup)(h:As[i]?=some a)(W:(obl a'.1).Nodup)(O: ∀x,x∈obl a'.1→x∈obl a.1∨x∉rbl As):(rbl (As.set i a')).Nodup:=by
 induction As generalizing i with
 |nil=>simp at h
 |cons y r ih=>
  have hn':(obl y.1++rbl r).Nodup:=V
  rw[Q0]at hn'
  cases i with
  |zero=>
   simp only[Wo,Qh]at h;subst h
   show(obl a'.1++rbl r).Nodup
   rw[Q0]
   refine⟨W,hn'.2.1,fun x I z N e=>?_⟩
   subst e
   rcases O x I with E|E
   ·exact hn'.2.2 x E x N rfl
   ·exact E (Qo _ N)
  |succ i=>
   simp only[Wc]at h
   show(obl y.1++rbl (r.set i a')).Nodup
   rw[Q0]
   refine⟨hn'.1,ih hn'.2.1 h fun x I=>?_,fun x I z N e=>?_⟩
   ·rcases O x I with E|E
    ·exact .inl E
    ·exact .inr fun L=>E (Qo _ L)
   ·subst e
    rcases Qbb h x N with E|E
    ·exact hn'.2.2 x I x E rfl
    ·rcases O x E with L|L
     ·exact hn'.2.2 x I x (Qab h L) rfl
     ·exact L (Ql _ I)
theorem Mr.keys {arr:List MapEntry}{es:List (Value×Value)}(I:arr.map (fun e=>(e.key,e.val))=es)(O:es.length=m.length)(V:As.length=m.length)(L: ∀(i:Nat) (p:κ×List t.den) (a:Option Addr×Nat),m[i]?=some p→As[i]?=some a→es[i]?=some (enc p.1,.slice a.1 p.2.length a.2)∧Own t e 0 w F a.1 a.2 p.2):arr.map (·.key)=(m.map Prod.fst).map enc:=by
 have N:arr.map (·.key)=es.map Prod.fst:=by rw[←I,List.map_map];rfl
 rw[N]
 refine Q2 fun i=>?_
 simp only[Qr]
 cases E:m[i]? with
 |none=>
  have:=List.getElem?_eq_none_iff.1 E
  rw[Wb (by omega)];rfl
 |some p=>
  have W:=(Qa.1 E).1
  rw[(L i p As[i] E (Qc (by omega))).1];rfl
theorem Qai (A:Option Addr):(obl A).Nodup:=by cases A<;>simp[obl]
theorem Mr.app {i:TypeInfo}{z:Value}{bytes:Nat}(K:Ky P kt enc)(ht:P.underlying tt=some (.map kt et))(hz0: ∀w,(zeroValue et).run P w=.ok (.slice none 0 0) w)(hst:P.underlying st=some (.slice e))(hi:P.info? e=some i)(hz:i.zero=some z)(hsize:i.size=t.size)(hby:i.bytes=bytes)(hzs:z.cells.size=t.size)(hbp:0<bytes)
  (hm:Mr enc t e w F b As m) (hF: ∀x,F x→x∉b::rbl As) (hFl: ∀x,F x→x<w.heap.size) {A2:Option Addr} {c2:Nat} {ys:List t.den} (hr:Row t w F G A2 c2 ys) (hG: ∀x,G x→x≠b) (k:κ) (h63:((mget [] m k).length+ys.length)*bytes≤140737488355328):
  ∃A c n w1 A' c' O w3,(Instr.mapEntry tt (.map (some b)) (enc k)).run P w=.ok (.tuple #[.slice A (mget [] m k).length c,goInt n]) w1∧(Builtin.append_ #[st,st] ty #[.slice A (mget [] m k).length c,.slice A2 ys.length c2]).run P w1=.ok (.slice A' ((mget [] m k).length+ys.length) c') O∧
   (Instr.entryStore tt (.map (some b)) (goInt n) (.slice A' ((mget [] m k).length+ys.length) c')).run P O=.ok () w3∧Ch (b::rbl As) w w3∧∃As',Mr enc t e w3 F b As' (mins m k (mget [] m k++ys))∧∀x,x∈rbl As'→x∈rbl As∨(w.heap.size≤x∧x<w3.heap.size):=by
 obtain⟨es,⟨arr,clock,hb,h1,hlt,hnd⟩,hl,hA,V,W,he⟩:=hm
 have hblt:=(Qe.1 hb).1
 rw[Wf]at V
 have hk:=Mr.keys h1 hl hA he
 have hlen:arr.length=m.length:=by rw[←hl,←h1,List.length_map]
 obtain⟨arr1,clock1,N,e1,hrun,hi1,hek,hlt1,hnd1,hcase⟩:=Qct K ht hz0 hb hk hlt hnd k
 have hc1:=Ch.putObj w b (.map arr1.toArray clock1)
 have hrow: ∃A c,e1.val=.slice A (mget [] m k).length c∧Own t e 0 w F A c (mget [] m k)∧(∀x,x∈obl A→x∈rbl As)∧((loc k (m.map Prod.fst)=some N∧arr1=arr∧As[N]?=some (A,c))∨(loc k (m.map Prod.fst)=none∧N=arr.length∧arr1=arr++[e1]∧obl A=[])):=by
  rcases hcase with⟨hloc,rfl⟩|⟨hloc,hi0,harr,hv⟩
  ·have hmi:=Qch hloc []
   have hil:=(Qa.1 hmi).1
   have hAi:As[N]?=some As[N]:=Qc (by omega)
   obtain⟨I,h3⟩:=he N _ _ hmi hAi
   rw[←h1,Qr,hi1]at I
   injection I with I;injection I with _ I
   exact⟨_,_,I,h3,fun x E=>Qab hAi E,.inl ⟨hloc,rfl,hAi⟩⟩
  ·have hg:mget [] m k=[]:=Qbt ((Qdf m k).1 hloc)
   rw[hg]
   exact⟨none,0,hv,Own.nil t e 0 w F,(fun x E=>by cases E),.inr ⟨hloc,hi0,harr,rfl⟩⟩
 obtain⟨A,c,hval,hO,hOb,hcase2⟩:=hrow
 rw[hval]at hrun
 have hO1:Own t e 0 (w.putObj b (.map arr1.toArray clock1)) F A c (mget [] m k):=Own.to hO hc1 (fun x E _ _=>by rw[Qb];rintro rfl;exact V.1 (hOb x E)) fun x E _=>⟨by rw[Qb];rintro rfl;exact hF x E (Qi ..),E⟩
 have hR1:Row t (w.putObj b (.map arr1.toArray clock1)) F G A2 c2 ys:=Row.to hr hc1 (fun x E _=>⟨by rw[Qb];rintro rfl;exact hF x E (Qi ..),E⟩) fun x E _=>⟨by rw[Qb];exact hG x E,E⟩
 obtain⟨A',c',O,happ,hO2,hc2,hnew⟩:=run_appendR (P:=P) (ty:=ty) hst hi hz hsize hby hzs hO1 hR1 h63 hbp (fun x E hxA=>hF x E (Qd _ (hOb x hxA))) (W9 _)
 have hbA:b∉obl A:=fun E=>V.1 (hOb b E)
 have hb1:(w.putObj b (.map arr1.toArray clock1)).heap[b]?=some (.map arr1.toArray clock1):=World.putObj_heap_same hblt
 have hb2:O.heap[b]?=some (.map arr1.toArray clock1):=(hc2.block b (by simpa using hblt) hbA).trans hb1
 have hstore:=run_entryStore (P:=P) (tt:=tt) hb2 hi1 hnd1 (.slice A' ((mget [] m k).length+ys.length) c')
 have hsz1:(w.putObj b (.map arr1.toArray clock1)).heap.size=w.heap.size:=by simp
 have hsz2:w.heap.size≤O.heap.size:=by rw[←hsz1];exact hc2.size
 have hlt2: ∀x,x∈obl A'→x<O.heap.size:=fun x E=>(hO2.lt x E).2
 have hnew': ∀x,x∈obl A'→x∈obl A∨x∉rbl As:=fun x E=>by
  rcases hnew x E with I|I
  ·exact .inl I
  ·exact .inr fun h3=>by have:=W x h3;omega
 have hc3:=Ch.putObj O b (.map (arr1.modify N fun e=>{e with val:=.slice A' ((mget [] m k).length+ys.length) c'}).toArray clock1)
 have hall:Ch (b::rbl As) w (O.putObj b (.map (arr1.modify N fun e=>{e with val:=.slice A' ((mget [] m k).length+ys.length) c'}).toArray clock1)):=
  ((hc1.mono (by simp)).then (U:=b::rbl As) (hc2.mono fun x E=>.inl (hOb x E)) (fun x E=>.inl E) (fun x E=>.inl (Qd _ E))).then (U:=b::rbl As) hc3 (fun x E=>.inl E) (fun x E=>.inl (by rw[Qb]at E;subst E;exact Qi ..))
 refine⟨A,c,e1.born,_,A',c',O,_,hrun,happ,hstore,hall,?_⟩
 obtain⟨v,hv⟩: ∃v,v=Value.slice A' ((mget [] m k).length+ys.length) c':=⟨_,rfl⟩
 rw[←hv]at hc3 ⊢
 have hb3:(O.putObj b (.map (arr1.modify N fun e=>{e with val:=v}).toArray clock1)).heap[b]?=some (.map (arr1.modify N fun e=>{e with val:=v}).toArray clock1):=World.putObj_heap_same (Qj hblt hsz2)
 have hborn: ∀x,x∈arr1.modify N (fun e=>{e with val:=v})→x.born<clock1:=fun x E=>by
  obtain⟨j,hj⟩:=Wm.1 E
  rw[Qy]at hj
  cases L:arr1[j]? with
  |none=>rw[L]at hj;simp at hj
  |some e0=>
   rw[L]at hj
   have hb0:=hlt1 e0 (Qq L)
   simp only[Wt,Q9,Qh]at hj
   subst hj
   split<;>exact hb0
 have hborns:(arr1.modify N fun e=>{e with val:=v}).map (·.born)=arr1.map (·.born):=by
  refine Q2 fun j=>?_
  simp only[Qr,Qy]
  cases arr1[j]? with
  |none=>rfl
  |some e0=>simp only[Wt,Q9,Qh];split<;>rfl
 have hO3:Own t e 0 (O.putObj b (.map (arr1.modify N fun e=>{e with val:=v}).toArray clock1)) F A' c' (mget [] m k++ys):=Own.to hO2 hc3 (fun x E _ _=>by
   rw[Qb];rintro rfl
   rcases hnew x E with I|I
   ·exact hbA I
   ·omega) fun x E _=>⟨by rw[Qb];rintro rfl;exact hF x E (Qi ..),E⟩
 have hOj: ∀(j:Nat) (p:κ×List t.den) (a:Option Addr×Nat),m[j]?=some p→As[j]?=some a→(∀x,x∈obl a.1→x∉obl A)→Own t e 0 (O.putObj b (.map (arr1.modify N fun e=>{e with val:=v}).toArray clock1)) F a.1 a.2 p.2:=fun j p a hp L hdis=>by
  have I:=(he j p a hp L).2
  have h3:Own t e 0 (w.putObj b (.map arr1.toArray clock1)) F a.1 a.2 p.2:=Own.to I hc1 (fun x E _ _=>by rw[Qb];rintro rfl;exact V.1 (Qab L E)) fun x E _=>⟨by rw[Qb];rintro rfl;exact hF x E (Qi ..),E⟩
  have h4:Own t e 0 O F a.1 a.2 p.2:=Own.to h3 hc2 (fun x E _ _=>hdis x E) fun x E _=>⟨fun hxA=>hF x E (Qd _ (hOb x hxA)),E⟩
  exact Own.to h4 hc3 (fun x E _ _=>by rw[Qb];rintro rfl;exact V.1 (Qab L E)) fun x E _=>⟨by rw[Qb];rintro rfl;exact hF x E (Qi ..),E⟩
 have hsz3:(O.putObj b (.map (arr1.modify N fun e=>{e with val:=v}).toArray clock1)).heap.size=O.heap.size:=by simp
 have hbA':b∉obl A':=fun E=>by
  rcases hnew b E with I|I
  ·exact hbA I
  ·omega
 have hnew2: ∀x,x∈obl A'→x∈rbl As∨(w.heap.size≤x∧x<(O.putObj b (.map (arr1.modify N fun e=>{e with val:=v}).toArray clock1)).heap.size):=fun x E=>by
  rcases hnew x E with I|I
  ·exact .inl (hOb x I)
  ·exact .inr ⟨by omega,by rw[hsz3];exact hlt2 x E⟩
 rcases hcase2 with⟨hloc,rfl,hAi⟩|⟨hloc,hi0,harr,hA0⟩
 ·refine⟨As.set N (A',c'),⟨_,⟨_,_,hb3,rfl,hborn,by rw[hborns];exact hnd1⟩,?_,?_,?_,?_,?_⟩,?_⟩
  ·rw[Qal,hloc];simp[hlen]
  ·rw[Qal,hloc];simp[hA]
  ·rw[Wf]
   refine⟨fun E=>?_,rbl_set_nodup V.2 hAi (Qai A') hnew'⟩
   rcases Qbb hAi b E with I|I
   ·exact V.1 I
   ·exact hbA' I
  ·intro x E
   rw[hsz3]
   rcases Qbb hAi x E with I|I
   ·exact Qj (W x I) hsz2
   ·exact hlt2 x I
  ·intro j p a hp L
   rw[Qal,hloc]at hp
   simp only[Qy]at hp
   rw[Wp]at L
   have hil:=(Qa.1 hAi).1
   by_cases hij:N=j
   ·subst hij
    rw[Qch hloc []]at hp
    simp only[if_true,hil]at L
    injection L with L;subst L
    simp only[if_true,Wt,Q9,Qh]at hp
    subst hp
    refine⟨?_,hO3⟩
    rw[Qr,Qy,hi1]
    simp[hek,hv]
   ·simp only[hij,if_false]at L hp
    simp only[Wt,id_map']at hp
    have hp':m[j]?=some p:=by cases hmj:m[j]?<;>rw[hmj]at hp<;>simp at hp ⊢;exact hp
    refine⟨?_,hOj j p a hp' L (Qcy V.2 L hAi (Ne.symm hij))⟩
    have I:=(he j p a hp' L).1
    rw[←h1,Qr]at I
    rw[Qr,Qy]
    simp only[hij,if_false]
    cases harj:arr1[j]? with
    |none=>rw[harj]at I;cases I
    |some e0=>rw[harj]at I;simpa using I
  ·intro x E
   rcases Qbb hAi x E with I|I
   ·exact .inl I
   ·exact hnew2 x I
 ·have hmod:(arr1.modify N fun e=>{e with val:=v})=arr++[{e1 with val:=v}]:=by
   rw[harr,hi0]
   refine Q2 fun j=>?_
   rw[Qy]
   rcases Nat.lt_trichotomy j arr.length with I|I|I
   ·rw[Qs I,Qs I];have hne:arr.length≠j:=by omega
    simp[hne]
   ·subst I;simp
   ·rw[Wb (by simp;omega),Wb (by simp;omega)];rfl
  have hdis: ∀x,x∈obl A'→x∉rbl As:=fun x E hx2=>by
   rcases hnew x E with I|I
   ·rw[hA0]at I;cases I
   ·have:=W x hx2;omega
  have hrbl:rbl (As++[(A',c')])=rbl As++obl A':=by simp[rbl]
  refine⟨As++[(A',c')],⟨_,⟨_,_,hb3,rfl,hborn,by rw[hborns];exact hnd1⟩,?_,?_,?_,?_,?_⟩,?_⟩
  ·rw[Qal,hloc,hmod];simp[hlen]
  ·rw[Qal,hloc];simp[hA]
  ·rw[hrbl,Wf,Qv,Q0]
   exact⟨fun I=>I.elim V.1 hbA',V.2,Qai A',fun x E y hy e=>hdis y hy (e▸E)⟩
  ·intro x E
   rw[hsz3]
   rw[hrbl,Qv]at E
   rcases E with I|I
   ·exact Qj (W x I) hsz2
   ·exact hlt2 x I
  ·intro j p a hp L
   rw[Qal,hloc]at hp
   rcases Nat.lt_trichotomy j m.length with I|I|I
   ·rw[Qs I]at hp
    rw[Qs (by omega)]at L
    refine⟨?_,hOj j p a hp L fun x E hx2=>by rw[hA0]at hx2;cases hx2⟩
    have h3:=(he j p a hp L).1
    rw[←h1,Qr]at h3
    rw[hmod,Qr,Qs (by omega)]
    exact h3
   ·subst I
    rw[Qx (Q7 _)]at hp
    rw[Qx (by omega)]at L
    simp[hA]at hp L
    subst hp;subst L
    refine⟨?_,hO3⟩
    rw[hmod,Qr,Qx (by omega)]
    simp[hlen,hek,hv]
   ·rw[Wb (by simp;omega)]at hp;cases hp
  ·intro x E
   rw[hrbl,Qv]at E
   rcases E with I|I
   ·exact .inl I
   ·exact hnew2 x I
end
section
variable {r:Option Nat}{P:Program}{ops:Array Oper}{Q:Exit→Act→World→Prop}{rest:List Oper}{C:Cx}{l:List (Nat×Value)}{H:List (Nat×Res)}
theorem lk_hd (d:Nat)(v:Value)(l:List (Nat×Value)):lk ((d,v)::l) d=some v:=by simp[lk]
theorem AL.mkmr {d:Nat}{T tt:TypeId}{pos:String}{af:Array Edge}(k:Nat)(κ:Type)(enc:κ→Value)(t:Ty)(e:TypeId)(h: ∀b,AL r P ops Q rest C ((d,.map (some b))::l) ((k,.mr κ enc t e b [] [])::H))(I:Nat.ble (d+1) C.n=true:=by rfl)(L:hk H k=none:=by kernel_rfl):
  AL r P ops Q (⟨some d,.makeMap tt none,T,pos,af,none⟩::rest) C l H:=fun a w N O=>by
 refine Z.valw (w':=w.alloc (.map #[] 0)) (v:=.map (some w.heap.size)) N I (by simp[execOp,Instr.makeMap]) fun a' hf'=>h _ a' _ hf' (O.new L (Ch.alloc w _) (fun x E=>?_) (fun j V=>by cases V) fun F B _ _ _=>?_)
 ·simp[Res.bl,rbl]at E;subst E;simp
 ·exact⟨[],⟨[],0,heap_alloc_new w _,rfl,by simp,by simp⟩,rfl,rfl,by simp[rbl],by simp[rbl],fun i p a hp=>by simp at hp⟩
theorem frzM {X:Act→World→Prop}(k:Nat)(js:List Nat){κ:Type}{enc:κ→Value}{t:Ty}{e:TypeId}{b:Nat}{As:List (Option Addr×Nat)}{m:List (κ×List t.den)}(h: ∀a w,Fr a C.n C.ds l→Hp C ((k,.mp κ enc (.slice t) false b m)::ded js H) w→X a w)(E:hk H k=some (.mr κ enc t e b As m):=by rfl)(N:hng [k] js H=true:=by kernel_rfl): ∀a w,Fr a C.n C.ds l→Hp C H w→X a w:=fun a w hf V=>by
 refine h a w hf (Hp.dd (V.upd (S:=[]) (Ch.refl w) (by simp) (fun x I=>.inl ⟨_,E,by simp[Res.bl]at I ⊢;exact .inl I⟩) (fun j N=>by cases N) fun F B h1 h2 _ _ _=>?_) N)
 obtain⟨es,c1,c2,c3,c4,c5,c6⟩:Mr enc t e w (Fh C H) b As m:=V.hold k _ E
 refine⟨es,c1,c2,fun i p hp=>?_⟩
 have W:=(Qa.1 hp).1
 have O:As[i]?=some As[i]:=Qc (by omega)
 obtain⟨c7,cells,hr,o1,o2⟩:=c6 i p _ hp O
 refine⟨[.slice As[i].1 p.2.length As[i].2],c7,?_⟩
 have hO':Own t e 0 w F As[i].1 As[i].2 p.2:=⟨cells,hr,o1,fun i x W=>Qap (o2 i x W) fun b hb hl=>h1 b hb hl⟩
 refine hO'.rep (fun _ h=>h) fun x I=>h2 x ⟨_,E,by simp only[Res.bl];exact Qd _ (Qab O I)⟩ fun L=>?_
 simp only[Res.bl,Qb]at L
 subst L
 exact(Wf.1 c4).1 (Qab O I)
theorem AL.mapp {κ:Type}[DecidableEq κ]{enc:κ→Value}{kt et tt st e:TypeId}{t:Ty}{b I N O d4 n2:Nat}{As:List (Option Addr×Nat)}{m:List (κ×List t.den)}{mx kx y:Operand}{i:TypeInfo}{z:Value}{bytes sz:Nat}{A2:Option Addr}{c2:Nat}{ys:List t.den}
  {T1 T2 T3 T4 T5:TypeId} {p1 p2 p3 p4 p5:String} {f1 f2 f3 f4 f5:Array Edge} (k ky:Nat) (js:List Nat) (K:Ky P kt enc) (key:κ) (hz0: ∀w,(zeroValue et).run P w=.ok (.slice none 0 0) w)
  (hinf:P.info? e=some i∧i.zero=some z∧i.size=sz∧i.bytes=bytes∧z.cells.size=sz) (h63:((mget [] m key).length+ys.length)*bytes≤140737488355328)
  (h: ∀As' v1 v2 v3 v4,AL r P ops Q rest C ((d4,v4)::(O,v3)::(N,v2)::(I,v1)::l) ((k,.mr κ enc t e b As' (mins m key (mget [] m key++ys)))::ded js H))
  (hk1:hk H k=some (.mr κ enc t e b As m):=by rfl) (hk2:hk H ky=some (.own t e A2 c2 ys):=by rfl) (V:Nat.beq k ky=false:=by rfl) (E:ev l mx=some (.map (some b)):=by rfl) (hy:ev l kx=some (enc key):=by rfl) (hyy:ev l y=some (.slice A2 n2 c2):=by rfl) (hn2:n2=ys.length:=by rfl) (hsz:sz=t.size:=by rfl) (hbp:Nat.ble 1 bytes=true:=by rfl)
  (ht:P.underlying tt=some (.map kt et):=by rfl) (hst:P.underlying st=some (.slice e):=by rfl) (hd1:Nat.ble (I+1) C.n=true:=by rfl) (hd2:Nat.ble (N+1) C.n=true:=by rfl) (hd3:Nat.ble (O+1) C.n=true:=by rfl) (hd4:Nat.ble (d4+1) C.n=true:=by rfl)
  (hl: ∀v1 v2 v3 v4,ev ((N,v2)::(I,v1)::l) y=ev l y∧ev ((d4,v4)::(O,v3)::(N,v2)::(I,v1)::l) mx=ev l mx∧lk ((O,v3)::(N,v2)::(I,v1)::l) I=some v1∧lk ((d4,v4)::(O,v3)::(N,v2)::(I,v1)::l) O=some v3:=by exact fun _ _ _ _=>⟨rfl,rfl,rfl,rfl⟩) (hj:hng [k] js H=true:=by kernel_rfl):
  AL r P ops Q (⟨some I,.mapEntry tt mx kx,T1,p1,f1,none⟩::⟨some N,.extract (.tmp I) 0,T2,p2,f2,none⟩::⟨some O,.call {callee:=.builtin .append,args:=#[.tmp N,y],argTypes:=#[st,st]},T3,p3,f3,none⟩::⟨some d4,.extract (.tmp I) 1,T4,p4,f4,none⟩::⟨none,.entryStore tt mx (.tmp d4) (.tmp O),T5,p5,f5,none⟩::rest) C l H:=fun a w hf hh=>by
 subst hn2;subst hsz
 obtain⟨hi,hz,hsize,hby,hzs⟩:=hinf
 have V:k≠ky:=fun e=>by rw[e,Wz]at V;cases V
 have hM:Mr enc t e w (Fh C H) b As m:=hh.hold k _ hk1
 have hM2:Mr enc t e w (fun x=>Fh C H x∧x<w.heap.size) b As m:=by
  obtain⟨es,c1,c2,c3,c4,c5,c6⟩:=hM
  refine⟨es,c1,c2,c3,c4,c5,fun i p a hp ha=>?_⟩
  obtain⟨c7,cells,hr,o1,o2⟩:=c6 i p a hp ha
  exact⟨c7,cells,hr,o1,fun i x hi=>Qae t (o2 i x hi)⟩
 obtain⟨G,hR,hG⟩:=rowO hk2 w hh
 have hR2:Row t w (fun x=>Fh C H x∧x<w.heap.size) G A2 c2 ys:=by
  obtain⟨r1,r2,cs,r3,r4,r5⟩:=hR
  exact⟨r1,r2,cs,r3,r4,fun i x hi=>Qae t (r5 i x hi)⟩
 have L: ∀x,x∈b::rbl As→Bk H k x:=fun x E=>⟨_,hk1,E⟩
 obtain⟨A,c,n,w1,A',c',w2,w3,e1,e2,e3,hch,As',hM3,hnew⟩:=hM2.app (ty:=T3) K ht hz0 hst hi hz hsize hby hzs (Qn hbp) (fun x E hxb=>E.1.1 k (L x hxb)) (fun x E=>E.2) hR2 (fun x hgx hxb=>V (hh.dis k ky b (L b (Qi ..)) (hxb▸hG x hgx))) key h63
 refine Z.valw (w':=w1) (v:=.tuple #[.slice A (mget [] m key).length c,goInt n]) hf hd1 ?_ fun a1 hf1=>?_
 ·simp only[execOp,Sem.run_bind,hf.eval E,hf.eval hy,e1,Result.andThen_ok,Sem.run_pure]
 refine Z.val (v:=.slice A (mget [] m key).length c) hf1 hd2 (Z.r_extract (hf1.eval (x:=.tmp I) (lk_hd _ _ _)) rfl) fun a2 hf2=>?_
 obtain⟨q1,_,_,_⟩:=hl (.tuple #[.slice A (mget [] m key).length c,goInt n]) (.slice A (mget [] m key).length c) undef undef
 refine Z.valw (w':=w2) (v:=.slice A' ((mget [] m key).length+ys.length) c') hf2 hd3 ?_ fun a3 hf3=>?_
 ·simp only[execOp,resolve,invoke,builtin,Sem.run_bind,Sem.run_pure,Result.andThen_ok,Wv,Wa,List.map_nil,hf2.eval (x:=.tmp N) (v:=.slice A (mget [] m key).length c) (lk_hd _ _ _),hf2.eval (q1.trans hyy),e2]
 obtain⟨_,_,q3,_⟩:=hl (.tuple #[.slice A (mget [] m key).length c,goInt n]) (.slice A (mget [] m key).length c) (.slice A' ((mget [] m key).length+ys.length) c') undef
 refine Z.val (v:=goInt n) hf3 hd4 (Z.r_extract (hf3.eval (x:=.tmp I) q3) rfl) fun a4 W=>?_
 obtain⟨_,q2,_,q4⟩:=hl (.tuple #[.slice A (mget [] m key).length c,goInt n]) (.slice A (mget [] m key).length c) (.slice A' ((mget [] m key).length+ys.length) c') (goInt n)
 refine Z.skipw (w':=w3) W ?_ fun a5 hf5=>h As' _ _ _ _ a5 w3 hf5 (Hp.dd (hh.upd hch L (fun x E=>?_) (fun j hj=>by cases hj) fun F B hF _ _ _ _=>hM3.asF fun x E _=>hF x E.1 E.2) hj)
 ·simp only[execOp,Sem.run_bind,W.eval (q2.trans E),W.eval (x:=.tmp d4) (v:=goInt n) (lk_hd _ _ _),W.eval (x:=.tmp O) q4,e3,Result.andThen_ok,Sem.run_pure]
 ·simp only[Res.bl]at E
  rcases Qm.1 E with rfl|E
  ·exact .inl (L _ (Qi ..))
  ·rcases hnew x E with h2|h2
   ·exact .inl (L _ (Qd _ h2))
   ·exact .inr h2
end
end Go.A
end
section
namespace Go.A
open Go.RowKit Go.Z Go.Shelf Go.Proofs Go.Lib
def tabF:List Value:=(List.range 256).map fun c=>.int .u8 (firstT c)
def tabA:List Value:=(List.range 32).map fun j=>.int .u8 (if j%2=0 then accLo (j / 2)else accHi (j / 2))
theorem tabs_of {w:World}{E I:Nat}(N:Cells w ⟨E,0,none⟩ tabF)(L:Cells w ⟨I,0,none⟩ tabA):Lib.Utf8Tabs E I w:=by
 refine⟨fun c O=>?_,fun i hi=>⟨?_,?_⟩⟩
 ·have:=N c (.int .u8 (firstT c)) (by simp[tabF,O])
  rw[Addr.add_lit,Ws]at this;exact this
 ·have:=L (2*i) (.int .u8 (accLo i)) (by
   have:2*i<32:=by omega
   simp[tabA,this])
  rw[Addr.add_lit,Ws]at this;exact this
 ·have:=L (2*i+1) (.int .u8 (accHi i)) (by
   have V:2*i+1<32:=by omega
   have W:(2*i+1)%2=1:=by omega
   have h5:(2*i+1) / 2=i:=by omega
   simp[tabA,V,W,h5])
  rw[Addr.add_lit,Ws]at this;exact this
theorem Ct.valid {P:Program}{ρ:Ren}{f I N:Nat}(L:Lays.n196 P ρ)(V:ρ.f 196=f)(W:ρ.g 3=I)(h4:ρ.g 4=N)(s:ByteArray)(hs:s.size≤maxLen)(r:Bool)(E:some (Lib.validD s.data.toList)=some r):
  Ct P f [.string s] [(0,.el none I 0 tabF),(1,.el none N 0 tabA)] [] (fun v H'=>v=.bool r∧H'=[]):=fun w F O=>by
 subst V;subst W;subst h4
 have E:=Wq E
 subst E
 have h1:Cells w ⟨ρ.g 3,0,none⟩ tabF:=(O.hold 0 (.el none (ρ.g 3) 0 tabF) rfl).1
 have h2:Cells w ⟨ρ.g 4,0,none⟩ tabA:=(O.hold 1 (.el none (ρ.g 4) 0 tabA) rfl).1
 refine(Any.utf8_ValidString L s w (by simp only[maxLen]at hs;omega) (tabs_of h1 h2)).mono ?_
 rintro e w' ⟨rfl,hb⟩
 exact⟨_,[],rfl,⟨rfl,rfl⟩,(Ch.of_below hb),fun k r h=>(by cases h),fun k b ⟨_,h,_⟩=>(by cases h),fun k k' b ⟨_,h,_⟩=>(by cases h),fun k r j h=>(by cases h)⟩
end Go.A
end
section
namespace Go.A
open Go.RowKit
abbrev i (x:Int):Value:=.int .i64 x
abbrev h6:=IntKind.i64.has
abbrev ti:=Z.Ty.int .i64
abbrev TI:=Z.Ty.slice ti
theorem si{α:Type}{a b:α}(h:some a=some b):a=b:=Wq h
end Go.A
end
section
namespace Go.Proofs.YtdimhhfngpppoaaDoor
open Go.RowKit Go.Shelf Go.Lib
abbrev l1a:List Nat:=[0,1,3,4,5,6,112,113]
def Tryd.laysValid_ren:Go.Shelf.Ren:=⟨fun|196=>40|259=>45|n=>n,fun|9=>9|4=>4|3=>3|5=>5|12=>12|119=>93|0=>0|46=>97|139=>96|138=>95|53=>102|n=>n,fun|3=>0|4=>1|n=>n⟩
theorem Tryd.laysValid:Go.Proofs.Lays.n196 Tryd.prog Tryd.laysValid_ren where
 mixed:=by kernel_rfl
 f196:=Tryd.func40.trans (congrArg some (by kernel_rfl))
 f259:=Tryd.func45.trans (congrArg some (by kernel_rfl))
 t0:=Tryd.underlying0
 a0:=Tryd.isAgg0
 z0:=Tryd.sizeOf0
 v0:=Tryd.zeroValue0
 t3:=Tryd.underlying3
 a3:=Tryd.isAgg3
 z3:=Tryd.sizeOf3
 v3:=Tryd.zeroValue3
 t4:=Tryd.underlying4
 a4:=Tryd.isAgg4
 z4:=Tryd.sizeOf4
 v4:=Tryd.zeroValue4
 t5:=Tryd.underlying5
 a5:=Tryd.isAgg5
 z5:=Tryd.sizeOf5
 v5:=Tryd.zeroValue5
 t9:=Tryd.underlying9
 a9:=Tryd.isAgg9
 z9:=Tryd.sizeOf9
 v9:=Tryd.zeroValue9
 t12:=Tryd.underlying12
 a12:=Tryd.isAgg12
 z12:=Tryd.sizeOf12
 v12:=Tryd.zeroValue12
 t46:=Tryd.underlying97
 a46:=Tryd.isAgg97
 z46:=Tryd.sizeOf97
 v46:=Tryd.zeroValue97
 t53:=Tryd.underlying102
 a53:=Tryd.isAgg102
 z53:=Tryd.sizeOf102
 v53:=Tryd.zeroValue102
 t119:=Tryd.underlying93
 a119:=Tryd.isAgg93
 z119:=Tryd.sizeOf93
 t138:=Tryd.underlying95
 a138:=Tryd.isAgg95
 z138:=Tryd.sizeOf95
 v138:=Tryd.zeroValue95
 t139:=Tryd.underlying96
 a139:=Tryd.isAgg96
 z139:=Tryd.sizeOf96
 v139:=Tryd.zeroValue96
 g3:=by kernel_rfl
 g4:=by kernel_rfl
def F.aY (h:ByteArray):Option Bool:=some (Lib.validD h.data.toList)
theorem o_l (h:ByteArray)(h1:h.size≤maxLen)(r:Bool)(k:F.aY h=some r):
  A.Ct Tryd.prog 40 [.string h] [(0,.el none 0 0 A.tabF),(1,.el none 1 0 A.tabA)] [] (fun v H'=>v=.bool r∧H'=[]):=
 A.Ct.valid Tryd.laysValid rfl rfl rfl h h1 r k
end Go.Proofs.YtdimhhfngpppoaaDoor
end
section
namespace Go.A
open Go.RowKit Go.Z
def mb:Nat→Nat→List Bool
 |0,_=>[]
 |n+1,m=>Nat.beq (m%2) 1::mb n (m / 2)
def nxs:Nat→Option Code→List Kx→Option (Option Code×List Kx)
 |0,c,K=>some (c,K)
 |n+1,some (.seq x y),K=>nxs n (some x) (.c y::K)
 |n+1,some (.block id c),K=>nxs n (some c) (.b id::K)
 |n+1,some .skip,K=>nxs n none K
 |n+1,some (.label _),K=>nxs n none K
 |n+1,some (.exit id),K=>match popx id K with
  |some K'=>nxs n none K'
  |none=>none
 |n+1,none,.c y::K=>nxs n (some y) K
 |n+1,none,.b _::K=>nxs n none K
 |n+1,none,.s::K=>nxs n none K
 |_+1,_,_=>none
section
variable {r:Option Nat}{P:Program}{Y:Exit→Act→World→Prop}{C:Cx}{l:List (Nat×Value)}{H:List (Nat×Res)}{K K':List Kx}{c c':Code}
def GX (r:Option Nat)(P:Program)(Y:Exit→Act→World→Prop)(C:Cx)(l:List (Nat×Value))(H:List (Nat×Res)):Option Code→List Kx→Prop
 |some c,K=>AX r P Y K c C l H
 |none,K=>AE r P Y K .normal C l H
theorem o_ae: ∀{n:Nat} {c c':Option Code} {K K':List Kx},nxs n c K=some (c',K')→GX r P Y C l H c' K'→GX r P Y C l H c K:=by
 intro n;induction n with
 |zero=>intro c c' K K' e h;injection e with e;injection e with L N;subst L;subst N;exact h
 |succ n I=>
  intro c c' K K' e h
  unfold nxs at e
  split at e
  ·injection e with e;injection e with L N;subst L;subst N;exact h
  ·rename_i E;cases E;exact AX.seq (I e h)
  ·rename_i E;cases E;exact AX.block (I e h)
  ·rename_i E;cases E;exact AX.skip (I e h)
  ·rename_i E;cases E;exact AX.label (I e h)
  ·rename_i E
   cases E
   split at e
   ·rename_i hp;exact AX.exit hp (I e h)
   ·cases e
  ·rename_i E;cases E;exact AE.c (I e h)
  ·rename_i E;cases E;exact AE.b (I e h)
  ·rename_i E;cases E;exact AE.s (I e h)
  ·cases e
theorem xx (n:Nat)(h:AX r P Y K' c' C l H)(e:nxs n (some c) K=some (some c',K'):=by rfl):AX r P Y K c C l H:=o_ae (c:=some c) (c':=some c') e h
theorem xe (n:Nat)(h:AE r P Y K' .normal C l H)(e:nxs n (some c) K=some (none,K'):=by rfl):AX r P Y K c C l H:=o_ae (c:=some c) (c':=none) e h
theorem ex (n:Nat)(h:AX r P Y K' c' C l H)(e:nxs n none K=some (some c',K'):=by rfl):AE r P Y K .normal C l H:=o_ae (c:=none) (c':=some c') e h
theorem ee (n:Nat)(h:AE r P Y K' .normal C l H)(e:nxs n none K=some (none,K'):=by rfl):AE r P Y K .normal C l H:=o_ae (c:=none) (c':=none) e h
theorem xl (n:Nat){id:Nat}{lo:List Oper}(h:AL r P lo.toArray (kont r P Y K') lo C l H)(e:nxs n (some c) K=some (some (.region id lo.toArray false),K'):=by rfl):AX r P Y K c C l H:=xx n (AX.reg h) e
theorem el (n:Nat){id:Nat}{lo:List Oper}(h:AL r P lo.toArray (kont r P Y K') lo C l H)(e:nxs n none K=some (some (.region id lo.toArray false),K'):=by rfl):AE r P Y K .normal C l H:=ex n (AX.reg h) e
theorem dl (n:Nat){ops:Array Oper}{id:Nat}{lo:List Oper}(h:AL r P lo.toArray (kont r P Y K') lo C l H)(e:nxs n none K=some (some (.region id lo.toArray false),K'):=by rfl):AL r P ops (kont r P Y K) [] C l H:=AL.done (el n h e)
theorem dx (n:Nat){ops:Array Oper}(h:AX r P Y K' c' C l H)(e:nxs n none K=some (some c',K'):=by rfl):AL r P ops (kont r P Y K) [] C l H:=AL.done (ex n h e)
theorem de (n:Nat){ops:Array Oper}(h:AE r P Y K' .normal C l H)(e:nxs n none K=some (none,K'):=by rfl):AL r P ops (kont r P Y K) [] C l H:=AL.done (ee n h e)
end
section
variable {r:Option Nat}{P:Program}{ops:Array Oper}{Q:Exit→Act→World→Prop}{lst rest:List Oper}{C:Cx}{l:List (Nat×Value)}{H:List (Nat×Res)}{T:TypeId}{pos:String}{af:Array Edge}
theorem q0 (bs es:List Nat)(E:List Hint)(nl:List (Nat×Value))(h:AL r P ops Q (lst.drop E.length) C (cat nl l) H)
  (hq:((qs P ⟨knb H bs,kne H es⟩ C.n ops E lst (Z.q0 l)).bind (qfin l (nl.map Prod.fst)))=some ([],nl):=by kernel_rfl)
  (I:(qs P ⟨knb H bs,kne H es⟩ C.n ops E lst (Z.q0 l)).map (fun s=>s.q.map Prod.fst)=(qs P ⟨knb H bs,kne H es⟩ C.n ops E lst (Z.q0 l)).map (fun s=>s.q.map Prod.snd):=by kernel_rfl):AL r P ops Q lst C l H:=
 AL.q bs es E (nl.map Prod.fst) [] nl trivial h hq I
theorem q (bs es:List Nat)(E:List Hint)(cs:List Prop)(nl:List (Nat×Value))(I:conj cs)(h:AL r P ops Q (lst.drop E.length) C (cat nl l) H)
  (hq:((qs P ⟨knb H bs,kne H es⟩ C.n ops E lst (Z.q0 l)).bind (qfin l (nl.map Prod.fst)))=some (cs,nl):=by kernel_rfl)
  (L:(qs P ⟨knb H bs,kne H es⟩ C.n ops E lst (Z.q0 l)).map (fun s=>s.q.map Prod.fst)=(qs P ⟨knb H bs,kne H es⟩ C.n ops E lst (Z.q0 l)).map (fun s=>s.q.map Prod.snd):=by kernel_rfl):AL r P ops Q lst C l H:=
 AL.q bs es E (nl.map Prod.fst) cs nl I h hq L
theorem sw (k:Nat)(js:List Nat)(new:List Value){t bt:TypeId}{x y:Operand}{g o m:Nat}{cs:List Value}{v:Value}(h:AL r P ops Q rest C l ((k,.blk g bt new)::ded js H))
  (E:hk H k=some (.blk g bt cs):=by rfl) (I:ev l x=some (.pointer (some ⟨g,o,none⟩)):=by rfl) (L:ev l y=some v:=by rfl) (N:szB P t=some m:=by kernel_rfl)
  (O:v.cells=new.toArray:=by rfl) (V:new.length=m:=by rfl) (W:Nat.ble (o+m) cs.length=true:=by rfl) (h1:new.all (fun u=>u.oneCell')=true:=by rfl) (hc:cs.take o++new++cs.drop (o+m)=new:=by rfl) (hj:hng [k] js H=true:=by kernel_rfl):
  AL r P ops Q (⟨none,.store t x y,T,pos,af,none⟩::rest) C l H:=AL.store k js h E I L N O V W h1 hc hj
end
section
variable {r:Option Nat}{P:Program}{Y:Exit→Act→World→Prop}{K:List Kx}{C:Cx}{l:List (Nat×Value)}{H:List (Nat×Res)}
theorem j {l':List (Nat×Value)}{H':List (Nat×Res)}{ks E:List Nat}{J:List (Nat×Value)→List (Nat×Res)→Prop}{nl:List (Nat×Value)}{nh:List (Nat×Res)}(I:J nl nh)(L:kp l ((cat nl (kp l' ks)).map (·.1))=cat nl (kp l' ks):=by kernel_rfl)(N:kpH H (nh.map (·.1)++E) (nh.map (·.1)++E)=hcat nh (kpH H' E E):=by kernel_rfl):
  AE r P Y (.m (St C l' H' ks E J)::K) .normal C l H:=AE.j (nh.map (·.1)++E) nl nh I L N
theorem lp_ (ks E:List Nat)(J:Nat→List (Nat×Value)→List (Nat×Res)→Prop){nl:List (Nat×Value)}{nh:List (Nat×Res)}{x:Code}(I:J FU nl nh)
  (h: ∀f nl nh,J f nl nh→AX r P Y (.m (St C l H ks E fun nl nh=>∃f',f'<f∧J f' nl nh)::K) x C (cat nl (kp l ks)) (hcat nh (kpH H E E)))
  (L:kp l ((cat nl (kp l ks)).map (·.1))=cat nl (kp l ks):=by kernel_rfl) (N:kpH H (nh.map (·.1)++E) (nh.map (·.1)++E)=hcat nh (kpH H E E):=by kernel_rfl):AX r P Y K (.loop x) C l H:=
 AX.loop ks E (nh.map (·.1)++E) J FU nl nh I h L N
end
section
variable {r:Option Nat}{P:Program}{ops:Array Oper}{Q:Exit→Act→World→Prop}{Hq:List (Nat×Res)}{m g:Nat}{li:List Bool}{C:Cx}{l:List (Nat×Value)}{H:List (Nat×Res)}
theorem hq (I:Pq Q)(gs qs bs es:List Nat)(li':List Bool)(f:Nat)(is:List (Nat×Hint))(nl:List (Nat×Value))(h:AH r P ops Q (kpH H qs qs) m f li' C (cat nl l) H)
  (L:g=f+is.length:=by rfl) (N:is.all (fun p=>bon ops m p.1)=true:=by kernel_rfl) (E:cloB ops li.toArray=true:=by kernel_rfl) (O:(Region.noSelect ops&&Qas ops)=true:=by kernel_rfl)
  (hq:((dqs P ⟨knb (kpH H qs qs) bs,kne (kpH H qs qs) es⟩ C.n ops is li.toArray (Z.q0 l)).bind fun x=>(qfin l (nl.map Prod.fst) x.2).map fun y=>(x.1.toList,y))=some (li',[],nl):=by kernel_rfl)
  (V:(dqs P ⟨knb (kpH H qs qs) bs,kne (kpH H qs qs) es⟩ C.n ops is li.toArray (Z.q0 l)).map (fun s=>s.2.q.map Prod.fst)=(dqs P ⟨knb (kpH H qs qs) bs,kne (kpH H qs qs) es⟩ C.n ops is li.toArray (Z.q0 l)).map (fun s=>s.2.q.map Prod.snd):=by kernel_rfl)
  (e:kpH (kpH H qs qs) gs gs=Hq:=by kernel_rfl):AH r P ops Q Hq m g li C l H:=AH.q I gs qs bs es li' f is (nl.map Prod.fst) [] nl trivial h L N E O hq V e
end
section
variable {r:Option Nat}{P:Program}{l:List (Nat×Value)}{H:List (Nat×Res)}{fn:Func}{K:List Kx}{w0:World}{S:List Nat}{F:Nat→Prop}{n:Nat}{R:Value→List (Nat×Res)→Prop}
theorem rt1 (ps:List (Nat×Nat)){t:Nat}{v:Value}(E:R v (A.ren H ps))(I:fn.results=#[.tmp t]:=by rfl)(L:lk l t=some v:=by rfl)(N:nod (ps.map (·.1))=true:=by rfl)(O:nod (ps.map (·.2))=true:=by rfl):
  AX r P (bodyPost P fn fun e w'=>∃v H',e=.returned v∧R v H'∧Hp ⟨0,[],w0,S,F⟩ H' w') K .ret ⟨n,[],w0,S,F⟩ l H:=AX.ret ps v (fun a w h V=>Z.resv1 I (Z.rv_t h L)) E N O
theorem rt2 (ps:List (Nat×Nat)){t u:Nat}{v E:Value}(I:R (.tuple #[v,E]) (A.ren H ps))(L:fn.results=#[.tmp t,.tmp u]:=by rfl)(N:lk l t=some v:=by rfl)(O:lk l u=some E:=by rfl)(V:nod (ps.map (·.1))=true:=by rfl)(W:nod (ps.map (·.2))=true:=by rfl):
  AX r P (bodyPost P fn fun e w'=>∃v H',e=.returned v∧R v H'∧Hp ⟨0,[],w0,S,F⟩ H' w') K .ret ⟨n,[],w0,S,F⟩ l H:=AX.ret ps (.tuple #[v,E]) (fun a w h hh=>Z.resv2 L (Z.rv_t h N) (Z.rv_t h O)) I V W
end
theorem pb {r:Option Nat}{P:Program}{fn:Func}{R:Ending→World→Prop}{K:List Kx}:Pq (kont r P (bodyPost P fn R) K):=pk_kont (Z.Pq.body _ _ _)
section
variable {P:Program}{C:Cx}{l:List (Nat×Value)}{H:List (Nat×Res)}
end
end Go.A
end
section
namespace Go.Z
open Go.RowKit
section
variable {κ:Type}[DecidableEq κ]{α:Type}
end
section
variable {r:Option Nat}{P:Program}{ops:Array Oper}{Q:Exit→Act→World→Prop}{a:Act}{w:World}{rest:List Oper}{n:Nat}{ds:List Deferred}{l:List (Nat×Value)}{d:Nat}{T:TypeId}{pos:String}{af:Array Edge}
variable {κ:Type}[DecidableEq κ]{enc:κ→Value}{kt et tt kt2:TypeId}{t:Ty}{agg:Bool}{F:Nat→Prop}{b:Nat}{m:List (κ×t.den)}
end
end Go.Z
namespace Go.A
open Go.RowKit Go.Z
section
variable {r:Option Nat}{P:Program}{ops:Array Oper}{Q:Exit→Act→World→Prop}{rest lst:List Oper}{C:Cx}{l:List (Nat×Value)}{H:List (Nat×Res)}{d:Nat}{op:Op}{T:TypeId}{pos:String}{af:Array Edge}
variable {κ:Type}[DecidableEq κ]{enc:κ→Value}{kt et tt kt2:TypeId}{t:Ty}{agg:Bool}{b:Nat}{m:List (κ×t.den)}
end
section
variable {r:Option Nat}{P:Program}{ops:Array Oper}{Q:Exit→Act→World→Prop}{rest lst:List Oper}{C:Cx}{l:List (Nat×Value)}{H:List (Nat×Res)}{d:Nat}{op:Op}{T T2:TypeId}{pos pos2:String}{af af2:Array Edge}
end
end Go.A
end
section
namespace Go.Z
open Go.RowKit
section
variable {r:Option Nat}{P:Program}{ops:Array Oper}{Q:Exit→Act→World→Prop}{a:Act}{w:World}{rest:List Oper}{n:Nat}{ds:List Deferred}{l:List (Nat×Value)}{d:Nat}{T:TypeId}{pos:String}{af:Array Edge}
end
end Go.Z
namespace Go.A
open Go.RowKit Go.Z
section
variable {P:Program}{a:Act}{w:World}{d:Option Tmp}{T tt ty e:TypeId}{pos:String}{af:Array Edge}{n:Nat}{ds:List Deferred}{l:List (Nat×Value)}{x y:Operand}{A:Option Addr}
end
section
variable {C:Cx}{l:List (Nat×Value)}{H:List (Nat×Res)}{X:Act→World→Prop}
end
section
variable {r:Option Nat}{P:Program}{ops:Array Oper}{Q:Exit→Act→World→Prop}{rest lst:List Oper}{C:Cx}{l:List (Nat×Value)}{H:List (Nat×Res)}{d:Nat}{T:TypeId}{pos:String}{af:Array Edge}
end
section
variable {r:Option Nat}{P:Program}{ops:Array Oper}{Q:Exit→Act→World→Prop}{rest lst:List Oper}{C:Cx}{l:List (Nat×Value)}{H:List (Nat×Res)}{d:Nat}{T:TypeId}{pos:String}{af:Array Edge}
end
end Go.A
end
section
namespace Go.A
open Go.RowKit Go.Z
theorem z0:h6 0:=hasl .i64 (0) rfl
theorem ck{b:Bool}{p:Prop}(h:p)(e:b=true:=by kernel_rfl):b=true∧p:=⟨e,h⟩
theorem b{α β:Type}{x:Option α}{f:α→Option β}{y:β}(h:x.bind f=some y):∃v,x=some v∧f v=some y:=Xa.1 h
theorem g{α:Type}{p:Prop}[Decidable p]{x:Option α}{y:α}(h:gd p x=some y):p∧x=some y:=gd_some h
section
variable{r:Option Nat}{P:Program}{ops:Array Oper}{Q:Exit→Act→World→Prop}{lst rest:List Oper}{C:Cx}{l:List (Nat×Value)}{H:List (Nat×Res)}{Y:Exit→Act→World→Prop}{K:List Kx}
theorem n(k:Nat)(nl:List (Nat×Value))(h:AL r P ops Q (lst.drop k) C (cat nl l) H)
    (hq:((qs P ⟨knb H [],kne H []⟩ C.n ops (List.replicate k .n) lst (Z.q0 l)).bind (qfin l (nl.map Prod.fst)))=some ([],nl):=by kernel_rfl)
    (E:(qs P ⟨knb H [],kne H []⟩ C.n ops (List.replicate k .n) lst (Z.q0 l)).map (fun s=>s.q.map Prod.fst)=(qs P ⟨knb H [],kne H []⟩ C.n ops (List.replicate k .n) lst (Z.q0 l)).map (fun s=>s.q.map Prod.snd):=by kernel_rfl):AL r P ops Q lst C l H:=q0 [] [] (List.replicate k .n) nl (by rw[List.length_replicate];exact h) hq E
theorem m(k:Nat)(cs:List Prop)(nl:List (Nat×Value))(E:conj cs)(h:AL r P ops Q (lst.drop k) C (cat nl l) H)
    (hq:((qs P ⟨knb H [],kne H []⟩ C.n ops (List.replicate k .n) lst (Z.q0 l)).bind (qfin l (nl.map Prod.fst)))=some (cs,nl):=by kernel_rfl)
    (I:(qs P ⟨knb H [],kne H []⟩ C.n ops (List.replicate k .n) lst (Z.q0 l)).map (fun s=>s.q.map Prod.fst)=(qs P ⟨knb H [],kne H []⟩ C.n ops (List.replicate k .n) lst (Z.q0 l)).map (fun s=>s.q.map Prod.snd):=by kernel_rfl):AL r P ops Q lst C l H:=q [] [] (List.replicate k .n) cs nl E (by rw[List.length_replicate];exact h) hq I
theorem c{ρ:Type}{A B R:Option ρ}{c:Operand}{x y:Code}{p:Prop}[Decidable p](E:(if p then A else B)=R)(I:p→A=R→AX r P Y K x C l H)(L:¬p→B=R→AX r P Y K y C l H)(N:ev l c=some (.bool (decide p)):=by rfl):AX r P Y K (.cond c x y) C l H:=AX.cnd N E I L
theorem d{ρ:Type}{A B R:Option ρ}{c:Operand}{x y:Code}{b:Bool}(E:(if b=true then A else B)=R)(I:b=true→A=R→AX r P Y K x C l H)(L:b=false→B=R→AX r P Y K y C l H)(N:ev l c=some (.bool b):=by rfl):AX r P Y K (.cond c x y) C l H:=AX.cnb N E I L
theorem v{ρ σ:Type}{d:Tmp}{T:TypeId}{pos:String}{af:Array Edge}(n:Nat)(js:List Nat){f:FuncId}{c:Operand}{xs:List Operand}{vs:List Value}{ts:Array TypeId}{H0:List (Nat×Res)}{ms:List (Nat×Nat)}{ls:List Nat}{S:List Nat}{R:ρ→Value→List (Nat×Res)→Prop}{X:Option ρ}{fF:ρ→Option σ}{yF:σ}
    (E:X.bind fF=some yF)(I:∀x,X=some x→Ct P f vs H0 S (R x))(N:Sub H H0 ms ls)
    (h:∀x,X=some x→fF x=some yF→∀v H',R x v H'→(outs H'&&frs n H H')=true∧AL r P ops Q rest C ((d,v)::l) (hcat (sft n H') (kld js H (ms.map (·.2)))))
    (L:∀args w,(callFunc f args).run P w=.ok (.enter f args) w:=by intros;kernel_rfl)
    (O:ev l c=some (.func (.func f) #[] #[]):=by rfl)(V:evs l xs=some vs:=by rfl)(W:blks H ms=S:=by rfl)(h1:nod (H0.map (·.1))=true:=by rfl)(h2:nod (ms.map (·.2))=true:=by rfl)(h3:ls.all (fun k=>!(ms.map (·.2)).any (Nat.beq k))=true:=by rfl)(hd:Nat.ble (d+1) C.n=true:=by rfl)(hj:hng (ms.map (·.2)) js H=true:=by kernel_rfl):
    AL r P ops Q (⟨some d,.call {callee:=.value c,args:=xs.toArray,argTypes:=ts},T,pos,af,none⟩::rest) C l H:=by
 obtain⟨x,e,E⟩:=bd_some E
 exact AL.call n js (first:=[]) (cap:=[]) L (I x e) N (h x e E) O V (by rw[List.append_nil];rfl) W h1 h2 h3 hd hj
end
abbrev raa(x:Int×Int):List Value:=[i x.1,i x.2]
abbrev rab(x:Int×Int×Int×Int×Int×Int×Int×Int):List Value:=[i x.1,i x.2.1,i x.2.2.1,i x.2.2.2.1,i x.2.2.2.2.1,i x.2.2.2.2.2.1,i x.2.2.2.2.2.2.1,i x.2.2.2.2.2.2.2]
abbrev rac(x:Int×Int):Value:=.agg #[i x.1,i x.2]
abbrev rad(x:Int×Int×Int×Int×Int×Int×Int×Int):Value:=.agg #[i x.1,i x.2.1,i x.2.2.1,i x.2.2.2.1,i x.2.2.2.2.1,i x.2.2.2.2.2.1,i x.2.2.2.2.2.2.1,i x.2.2.2.2.2.2.2]
end Go.A
end
set_option linter.defProp false
def Xn:=@Go.A.xl
def Xo:=@Go.A.dx
def Xp:=@Go.A.AL.done
def Xq:=@Go.A.q0
def Xr:=@Go.A.AL.alloc
def Xs:=@Go.A.Ct.enter
def Xt:=@Go.A.n
def Xu:=@Go.A.hasl
def Xv:=@Go.Z.i64_has
def Xw:=@Go.A.dl
def Xx:=@Go.A.si
def Xy:=@Go.A.z0
def Xz:=@Go.A.AX.join
def X0:=@Go.A.AH.one
def X1:=@Go.A.rt1
def X2:=@Go.A.AL.box
def X3:=@Go.A.AH.done
def X4:=@Go.A.AH.nx
def X5:=@Go.A.pb
def X6:=@Go.A.ck
def X7:=@Go.A.lt_some
def X8:=@Go.A.hq
def X9:=@Go.A.AL.bsl
def Ya:=@Go.A.sw
def Yc:=@Go.A.no0
def Yd:=@Go.A.j
def Ye:=@Go.A.AL.on
def Yf:=@Go.A.lp_
def Yg:=@Go.A.AL.cnd
def Yh:=@Go.A.AL.ixs
def Yi:=@Go.A.AX.dr
def Yj:=@Go.A.Hp.blk
def Yk:=@Go.A.mvd
def Ym:=@Go.A.rt2
def Yn:=@Go.A.c
def Yo:=@Go.A.v
def Yp:=@Go.A.AL.app
def Yq:=@Go.A.AX.cnf
def Yr:=@Go.A.AL.val
def Ys:=@Go.A.AX.ret
def Yt:=@Go.A.xe
def Yu:=@Go.A.AH.v
def Yv:=@Go.A.g
def Yw:=@Go.A.AL.lku
def Yx:=@Go.A.szl
def Yy:=@Go.Z.resv1
def Yz:=@Go.A.b
def Y0:=@Go.A.r_ixa
def Y1:=@Go.A.AX.cnt
def Y2:=@Go.A.AH.pks
def Y3:=@Go.A.AL.ixo
def Y4:=@Go.A.seen_bd
def Y5:=@Go.Z.rv_n
def Y6:=@Go.A.xx
def Y7:=@Go.A.d
def Y8:=@Go.A.m
section
namespace Go.Proofs.YtdimhhfngpppoaaDoor
open Go.RowKit
variable(A0_ A1_ A2_ A5_ A7_ A12_ A13_:Option Addr)(g0_ b1_ c1_ c2_ g2_ c3_ b4_ b5_ b6_ c6_ c8_ g10_ c13_ c14_:Nat)
def F.ad (h:Int):Option Bool:=some (bif decide (h=1)then true else decide (h=15))
theorem o_e (h:Int)(o:A.h6 h)(r:Bool)(k:F.ad h=some r):
    A.Ct Tryd.prog 20 [A.i h] [] [] (fun v H'=>v=.bool r∧H'=[]):=by
 refine Xs Tryd.func20 rfl Tryd.ntmps20 rfl fun w0 p=>?_;rw[F.ad]at k;refine Xn 1 ?_;refine Xt 1 [] (Xw 2 ?_);refine Xq [] [] [.n,.n,.n,.sy .n,.sy .n,.pk,.n] [(2,.bool (bif decide (h=1)then true else decide (h=15)))] (Xo 1 ?_);obtain rfl:=Xx k;exact X1 [] ⟨rfl,rfl⟩
def F.bm (h:Int):Option Int:=if(bif decide (h<1)then true else decide ((16:Int)<h))=true then(some (-1))else(if h=1 then(some 0)else(if(bif decide (h=5)then true else decide (h=9))=true then(some 2)else(some 1)))
theorem o_x (k:Int)(p:A.h6 k)(r:Int)(h:F.bm k=some r):
    A.Ct Tryd.prog 29 [A.i k] [] [] (fun v H'=>v=A.i r∧H'=[]∧A.h6 r):=by
 refine Xs Tryd.func29 rfl Tryd.ntmps29 rfl fun w0 s=>?_;rw[F.bm]at h;refine Xn 1 ?_;refine Xt 1 [] (Xw 4 ?_);refine Xq [] [] [.n,.n,.n,.sy .n,.sy .n,.pk,.n] [(3,.bool (bif decide (k<1)then true else decide ((16:Int)<k)))] (Xo 1 ?_);refine Y7 h ?_ ?_<;>intro o h
 ·refine Xn 1 ?_;refine Xt 1 [(2,A.i (-1))] (Xo 1 ?_);obtain rfl:=Xx h;exact X1 [] ⟨rfl,rfl,(Xu .i64 (-1) rfl)⟩
 refine Xn 1 ?_;refine Xt 3 [(10,.bool (decide (k=1)))] (Xo 1 ?_);refine Yn h ?_ ?_<;>intro o h
 ·refine Xn 1 ?_;refine Xt 1 [(2,A.i 0)] (Xo 1 ?_);obtain rfl:=Xx h;exact X1 [] ⟨rfl,rfl,Xy⟩
 refine Xn 1 ?_;refine Xq [] [] [.n,.n,.n,.sy .n,.sy .n,.pk,.n] [(13,.bool (bif decide (k=5)then true else decide (k=9)))] (Xo 1 ?_);refine Y7 h ?_ ?_<;>intro o h
 ·refine Xn 1 ?_;refine Xt 1 [(2,A.i 2)] (Xo 1 ?_);obtain rfl:=Xx h;exact X1 [] ⟨rfl,rfl,(Xu .i64 (2) rfl)⟩
 refine Xn 4 ?_;refine Xt 1 [(2,A.i 1)] (Xo 1 ?_);obtain rfl:=Xx h;exact X1 [] ⟨rfl,rfl,(Xu .i64 (1) rfl)⟩
def F.aj (h:ByteArray):Nat→Nat→Option Bool
 |0,_=>none
 |f+1,k=>if k<h.size then(if(bif decide ((97:Int)≤((Utf8.decode h k).1:Int))then decide (((Utf8.decode h k).1:Int)≤122)else false)=true then((F.aj h f) (k+(Utf8.decode h k).2))else(if(!(bif decide ((65:Int)≤((Utf8.decode h k).1:Int))then decide (((Utf8.decode h k).1:Int)≤90)else false))=true then(if(bif bif decide ((k:Int)=0)then true else decide (((Utf8.decode h k).1:Int)<48)then true else decide ((57:Int)<((Utf8.decode h k).1:Int)))=true then(some false)else((F.aj h f) (k+(Utf8.decode h k).2)))else((F.aj h f) (k+(Utf8.decode h k).2))))else(some (bif decide (h≠(ByteArray.mk #[]))then decide ((h.size:Int)≤16)else false))
def F.aG (h:ByteArray):Option Bool:=F.aj h A.FU 0
theorem o_g (k:ByteArray)(I:k.size≤maxLen)(r:Bool)(h:F.aG k=some r):
    A.Ct Tryd.prog 30 [.string k] [] [] (fun v H'=>v=.bool r∧H'=[]):=by
 refine Xs Tryd.func30 rfl Tryd.ntmps30 rfl fun w0 L=>?_;rw[F.aG]at h;refine Xn 1 ?_;refine Xt 1 [] (Xw 3 ?_);refine Xt 1 [(6,.string k)] ?_;refine A.AL.rgs 0 fun s=>?_;refine Xo 2 ?_;refine Yf [0,7] [] (fun f u z=>∃(o:Nat),u=[]∧z=[(0,.si s k o)]∧F.aj k f o=some r) ⟨0,rfl,rfl,h⟩ ?_;rintro p _ _ ⟨o,rfl,rfl,h⟩;rcases p with _|p
 ·exact Yc h
 rw[F.aj]at h;refine Xn 1 ?_;refine A.AL.nxs 0 [] h (fun hb4 h=>?_) (fun E h=>?_)
 ·refine Xt 1 [(9,.bool true)] (Xo 2 ?_);refine Y1 rfl ?_;refine Xn 4 ?_;refine Xt 4 [(3,A.i (o:Int)),(4,.int .i32 ((Utf8.decode k o).1:Int))] (Xw 2 ?_);refine Xq [] [] [.n,.n,.n,.sy .n,.sy .n,.pk,.n] [(18,.bool (bif decide ((97:Int)≤((Utf8.decode k o).1:Int))then decide (((Utf8.decode k o).1:Int)≤122)else false))] ?_;refine Yg (j:=18) rfl h (fun h=>?_) (fun h=>?_)
  ·refine Xq [] [] [.off,.off,.off,.off,.off,.off,.n,.n] [(5,.bool true)] (Xw 2 ?_);refine Xq [] [] [.n,.n,.n,.off,.off,.off,.off,.off,.off,.off,.off,.off,.off,.n] [(39,.bool false)] (Xo 1 ?_);refine Yq rfl ?_;refine Yt 2 ?_;exact Yd ⟨_,Qg _,⟨(o+(Utf8.decode k o).2),rfl,rfl,h⟩⟩
  refine Xq [] [] [.on .n,.on .n,.on .n,.sy .n,.sy .n,.on .pk,.n,.n] [(5,.bool (bif decide ((65:Int)≤((Utf8.decode k o).1:Int))then decide (((Utf8.decode k o).1:Int)≤90)else false))] (Xw 2 ?_);refine Xt 3 [(28,.bool (!(bif decide ((65:Int)≤((Utf8.decode k o).1:Int))then decide (((Utf8.decode k o).1:Int)≤90)else false)))] ?_;refine Yg (j:=28) rfl h (fun h=>?_) (fun h=>?_)
  ·refine Xq [] [] [.on .n,.on .n,.on .n,.sy .n,.sy .n,.on .pk,.on .n,.sy .n,.sy .n,.on .pk,.n] [(39,.bool (bif bif decide ((o:Int)=0)then true else decide (((Utf8.decode k o).1:Int)<48)then true else decide ((57:Int)<((Utf8.decode k o).1:Int))))] (Xo 1 ?_);refine Y7 h ?_ ?_<;>intro E h
   ·refine Xn 1 ?_;refine Xt 1 [(2,.bool false)] (Xo 1 ?_);obtain rfl:=Xx h;exact X1 [] ⟨rfl,rfl⟩
   refine Yt 2 ?_;exact Yd ⟨_,Qg _,⟨(o+(Utf8.decode k o).2),rfl,rfl,h⟩⟩
  refine Xq [] [] [.off,.off,.off,.off,.off,.off,.off,.off,.off,.off,.n] [(39,.bool false)] (Xo 1 ?_);refine Yq rfl ?_;refine Yt 2 ?_;exact Yd ⟨_,Qg _,⟨(o+(Utf8.decode k o).2),rfl,rfl,h⟩⟩
 refine Xt 1 [(9,.bool false)] (Xo 2 ?_);refine Yq rfl ?_;refine Xn 3 ?_;refine Xq [] [] [.n,.n,.n,.sy .n,.sy .n,.sy .n,.pk,.n] [(2,.bool (bif decide (k≠(ByteArray.mk #[]))then decide ((k.size:Int)≤16)else false))] (Xo 1 ?_);obtain rfl:=Xx h;exact X1 [] ⟨rfl,rfl⟩
def F.a4:Option Bool:=some false
def F.a5 (h:D32)(k:Bool):Option Bool:=if k=true then(F.a4)else(if h.2.1=14 then(if(bif bif bif decide (h.2.2.2.2.2.1<1)then true else decide ((8:Int)<h.2.2.2.2.2.1)then true else decide (h.2.2.2.2.2.2<1)then true else decide ((4:Int)<h.2.2.2.2.2.2))=true then(some false)else(if(!(decide (h.2.1=14)))=true then(if(bif decide (h.2.2.2.2.2.1≠0)then true else decide (h.2.2.2.2.2.2≠0))=true then(some false)else((F.ad h.2.1).bind fun o=>(if o=true then((F.aG h.2.2.2.2.1).bind fun p=>(some p))else(some (decide (h.2.2.2.2.1=(ByteArray.mk #[])))))))else((F.ad h.2.1).bind fun s=>(if s=true then((F.aG h.2.2.2.2.1).bind fun u=>(some u))else(some (decide (h.2.2.2.2.1=(ByteArray.mk #[]))))))))else(if(!(decide (h.2.1=14)))=true then(if(bif decide (h.2.2.2.2.2.1≠0)then true else decide (h.2.2.2.2.2.2≠0))=true then(some false)else((F.ad h.2.1).bind fun z=>(if z=true then((F.aG h.2.2.2.2.1).bind fun E=>(some E))else(some (decide (h.2.2.2.2.1=(ByteArray.mk #[])))))))else((F.ad h.2.1).bind fun I=>(if I=true then((F.aG h.2.2.2.2.1).bind fun L=>(some L))else(some (decide (h.2.2.2.2.1=(ByteArray.mk #[]))))))))
def F.bt (h:D32):Option Bool:=if(bif decide (h.1<1)then true else decide ((255:Int)<h.1))=true then(F.a4)else((F.bm h.2.1).bind fun k=>(if k<0 then(F.a5 h true)else((F.bm h.2.1).bind fun o=>(F.a5 h (decide ((h.2.2.1.length:Int)≠o))))))
theorem o_av(h:D32)(W:A.h6 h.1)(p:A.h6 h.2.1)(a1:A.h6 h.2.2.2.1.1)(a2:A.h6 h.2.2.2.1.2.1)(a3:h.2.2.2.1.2.2.size≤maxLen)(s:h.2.2.2.2.1.size≤maxLen)(a6:A.h6 h.2.2.2.2.2.1)(a7:A.h6 h.2.2.2.2.2.2)(r:Bool)(k:F.bt h=some r):
    A.Ct Tryd.prog 23 [.agg #[A.i h.1,A.i h.2.1,.slice A2_ h.2.2.1.length c3_,A.i h.2.2.2.1.1,A.i h.2.2.2.1.2.1,.string h.2.2.2.1.2.2,.string h.2.2.2.2.1,A.i h.2.2.2.2.2.1,A.i h.2.2.2.2.2.2]] [(0,.sh A.TI [.slice A2_ h.2.2.1.length c3_] h.2.2.1)] [] (fun v H'=>v=.bool r∧H'=[]):=by
 refine Xs Tryd.func23 rfl Tryd.ntmps23 rfl fun w0 F0=>?_;rw[F.bt]at k;refine Xn 1 ?_;refine X2 1 (cs:=[A.i h.1,A.i h.2.1,.slice A2_ h.2.2.1.length c3_,A.i h.2.2.2.1.1,A.i h.2.2.2.1.2.1,.string h.2.2.2.1.2.2,.string h.2.2.2.2.1,A.i h.2.2.2.2.2.1,A.i h.2.2.2.2.2.2]) fun g1=>?_;refine Xt 1 [] (Xo 3 ?_);refine Xz [] [] (fun u z=>u=[]∧z=[]∧F.a4=some r) ?_ ?_
 ·refine Xn 5 ?_;refine Xq [1] [] [.n,.b 0 0,.n,.n,.sy .n,.sy (.b 0 0),.sy .n,.pk,.n] [(4,.bool (bif decide (h.1<1)then true else decide ((255:Int)<h.1)))] (Xo 1 ?_);refine Y7 k ?_ ?_<;>intro o k
  ·refine Yt 2 ?_;exact Yd ⟨rfl,rfl,k⟩
  refine Y6 2 ?_;refine Xz [1] [0,1] (fun u z=>∃(E:Bool),u=[(13,.bool E)]∧z=[]∧F.a5 h E=some r) ?_ ?_
  ·refine Yi mixed 14 14 (A.mb 14 0) ?_;refine X8 X5 [] [0,1] [1] [] (A.mb 14 3) 12 [(0,.n),(1,.b 0 1)] [(15,A.i h.2.1)] ?_;refine X0 2 ?_;refine Yo 2 [] k (o_x h.2.1 p) .nil ?_;rintro L - k _ _ ⟨rfl,rfl,hr21⟩;refine X6 ?_;refine X4 (A.mb 14 7) [0,1] ?_;refine X8 X5 [0,1] [0,1] [] [] (A.mb 14 31) 9 [(3,.n),(4,.n)] [(18,.bool (decide (L<0)))] ?_;refine A.AH.cnp (j:=18) rfl k ?_ ?_<;>intro o k
   ·refine X8 X5 [0,1] [0,1] [] [] (A.mb 14 16383) 0 [(5,.off),(8,.off),(6,.off),(9,.off),(7,.off),(10,.off),(11,.off),(12,.n),(13,.n)] [(13,.bool true)] (X3 ?_);exact Yd ⟨true,rfl,rfl,k⟩
   refine X8 X5 [0,1] [0,1] [1] [] (A.mb 14 1023) 4 [(5,.on .n),(8,.on .n),(6,.on (.b 0 2)),(9,.on (.b 0 1)),(7,.on .n)] [(23,A.i h.2.1),(21,A.i (h.2.2.1.length:Int))] ?_;refine X0 10 ?_;refine Ye (dj:=18) rfl rfl ?_;refine Yo 42 [] k (o_x h.2.1 p) .nil ?_;rintro I - k _ _ ⟨rfl,rfl,hr24⟩;refine X6 ?_;refine X4 (A.mb 14 2047) [0,1] ?_;refine X8 X5 [0,1] [0,1] [] [] (A.mb 14 16383) 0 [(11,.on .n),(12,.n),(13,.n)] [(13,.bool (decide ((h.2.2.1.length:Int)≠I)))] (X3 ?_);exact Yd ⟨(decide ((h.2.2.1.length:Int)≠I)),rfl,rfl,k⟩
  rintro _ _ ⟨E,rfl,rfl,k⟩;rw[F.a5]at k;refine Y7 k ?_ ?_<;>intro o k
  ·refine Yt 1 ?_;exact Yd ⟨rfl,rfl,k⟩
  refine Xn 5 ?_;refine Xq [1] [] [.n,.b 0 1,.n,.n] [(3,.bool (decide (h.2.1=14)))] (Xw 3 ?_);refine Xt 2 [(31,.bool (decide (h.2.1=14)))] ?_;refine A.AL.cnp (j:=31) rfl k ?_ ?_<;>intro o k
  ·refine Xq [1] [] [.on .n,.on (.b 0 7),.on .n,.on .n,.sy .n,.sy (.b 0 7),.sy .n,.on .pk,.on .n,.sy .n,.sy (.b 0 8),.sy .n,.on .pk,.on .n,.sy .n,.sy (.b 0 8),.sy .n,.on .pk,.n,.n] [(51,.bool (bif bif bif decide (h.2.2.2.2.2.1<1)then true else decide ((8:Int)<h.2.2.2.2.2.1)then true else decide (h.2.2.2.2.2.2<1)then true else decide ((4:Int)<h.2.2.2.2.2.2)))] ?_;refine Yg (j:=51) rfl k (fun k=>?_) (fun k=>?_)
   ·refine Xq [] [] [.off,.off,.off,.off,.off,.off,.off,.off,.off,.off,.off,.off,.n] [(64,.bool true)] (Xo 1 ?_);refine Y1 rfl ?_;refine Xn 1 ?_;refine Xt 1 [(2,.bool false)] (Xo 1 ?_);obtain rfl:=Xx k;exact X1 [] ⟨rfl,rfl⟩
   refine Xq [] [] [.on .n,.on .n,.on .n] [(54,.bool (!(decide (h.2.1=14))))] ?_;refine Yg (j:=54) rfl k (fun k=>?_) (fun k=>?_)
   ·refine Xq [1] [] [.on .n,.on (.b 0 7),.on .n,.on .n,.sy .n,.sy (.b 0 8),.sy .n,.on .pk,.on .n,.n] [(64,.bool (bif decide (h.2.2.2.2.2.1≠0)then true else decide (h.2.2.2.2.2.2≠0)))] (Xo 1 ?_);refine Y7 k ?_ ?_<;>intro o k
    ·refine Xn 1 ?_;refine Xt 1 [(2,.bool false)] (Xo 1 ?_);obtain rfl:=Xx k;exact X1 [] ⟨rfl,rfl⟩
    refine Xn 4 ?_;refine Xq [1] [] [.n,.b 0 1] [(66,A.i h.2.1)] ?_;refine Yo 82 [] k (o_e h.2.1 p) .nil ?_;rintro r3 - k _ _ ⟨rfl,rfl⟩;refine X6 ?_;refine Xo 1 ?_;refine Y7 k ?_ ?_<;>intro o k
    ·refine Xn 1 ?_;refine Xq [1] [] [.n,.b 0 6] [(69,.string h.2.2.2.2.1)] ?_;refine Yo 122 [] k (o_g h.2.2.2.2.1 s) .nil ?_;rintro N - k _ _ ⟨rfl,rfl⟩;refine X6 ?_;refine Xt 1 [(2,.bool N)] (Xo 1 ?_);obtain rfl:=Xx k;exact X1 [] ⟨rfl,rfl⟩
    refine Xn 3 ?_;refine Xq [1] [] [.n,.b 0 6,.n,.n] [(2,.bool (decide (h.2.2.2.2.1=(ByteArray.mk #[]))))] (Xo 1 ?_);obtain rfl:=Xx k;exact X1 [] ⟨rfl,rfl⟩
   refine Xq [] [] [.off,.off,.off,.off,.off,.off,.off,.off,.on .n,.n] [(64,.bool false)] (Xo 1 ?_);refine Yq rfl ?_;refine Xn 4 ?_;refine Xq [1] [] [.n,.b 0 1] [(66,A.i h.2.1)] ?_;refine Yo 162 [] k (o_e h.2.1 p) .nil ?_;rintro r7 - k _ _ ⟨rfl,rfl⟩;refine X6 ?_;refine Xo 1 ?_;refine Y7 k ?_ ?_<;>intro o k
   ·refine Xn 1 ?_;refine Xq [1] [] [.n,.b 0 6] [(69,.string h.2.2.2.2.1)] ?_;refine Yo 202 [] k (o_g h.2.2.2.2.1 s) .nil ?_;rintro O - k _ _ ⟨rfl,rfl⟩;refine X6 ?_;refine Xt 1 [(2,.bool O)] (Xo 1 ?_);obtain rfl:=Xx k;exact X1 [] ⟨rfl,rfl⟩
   refine Xn 3 ?_;refine Xq [1] [] [.n,.b 0 6,.n,.n] [(2,.bool (decide (h.2.2.2.2.1=(ByteArray.mk #[]))))] (Xo 1 ?_);obtain rfl:=Xx k;exact X1 [] ⟨rfl,rfl⟩
  refine Xq [] [] [.off,.off,.off,.off,.off,.off,.off,.off,.off,.off,.off,.off,.off,.off,.off,.off,.off,.off,.n,.n,.on .n,.on .n,.on .n] [(51,.bool false),(54,.bool (!(decide (h.2.1=14))))] ?_;refine Yg (j:=54) rfl k (fun k=>?_) (fun k=>?_)
  ·refine Xq [1] [] [.on .n,.on (.b 0 7),.on .n,.on .n,.sy .n,.sy (.b 0 8),.sy .n,.on .pk,.on .n,.n] [(64,.bool (bif decide (h.2.2.2.2.2.1≠0)then true else decide (h.2.2.2.2.2.2≠0)))] (Xo 1 ?_);refine Y7 k ?_ ?_<;>intro o k
   ·refine Xn 1 ?_;refine Xt 1 [(2,.bool false)] (Xo 1 ?_);obtain rfl:=Xx k;exact X1 [] ⟨rfl,rfl⟩
   refine Xn 4 ?_;refine Xq [1] [] [.n,.b 0 1] [(66,A.i h.2.1)] ?_;refine Yo 242 [] k (o_e h.2.1 p) .nil ?_;rintro a8 - k _ _ ⟨rfl,rfl⟩;refine X6 ?_;refine Xo 1 ?_;refine Y7 k ?_ ?_<;>intro o k
   ·refine Xn 1 ?_;refine Xq [1] [] [.n,.b 0 6] [(69,.string h.2.2.2.2.1)] ?_;refine Yo 282 [] k (o_g h.2.2.2.2.1 s) .nil ?_;rintro U - k _ _ ⟨rfl,rfl⟩;refine X6 ?_;refine Xt 1 [(2,.bool U)] (Xo 1 ?_);obtain rfl:=Xx k;exact X1 [] ⟨rfl,rfl⟩
   refine Xn 3 ?_;refine Xq [1] [] [.n,.b 0 6,.n,.n] [(2,.bool (decide (h.2.2.2.2.1=(ByteArray.mk #[]))))] (Xo 1 ?_);obtain rfl:=Xx k;exact X1 [] ⟨rfl,rfl⟩
  refine Xq [] [] [.off,.off,.off,.off,.off,.off,.off,.off,.on .n,.n] [(64,.bool false)] (Xo 1 ?_);refine Yq rfl ?_;refine Xn 4 ?_;refine Xq [1] [] [.n,.b 0 1] [(66,A.i h.2.1)] ?_;refine Yo 322 [] k (o_e h.2.1 p) .nil ?_;rintro a9 - k _ _ ⟨rfl,rfl⟩;refine X6 ?_;refine Xo 1 ?_;refine Y7 k ?_ ?_<;>intro o k
  ·refine Xn 1 ?_;refine Xq [1] [] [.n,.b 0 6] [(69,.string h.2.2.2.2.1)] ?_;refine Yo 362 [] k (o_g h.2.2.2.2.1 s) .nil ?_;rintro V - k _ _ ⟨rfl,rfl⟩;refine X6 ?_;refine Xt 1 [(2,.bool V)] (Xo 1 ?_);obtain rfl:=Xx k;exact X1 [] ⟨rfl,rfl⟩
  refine Xn 3 ?_;refine Xq [1] [] [.n,.b 0 6,.n,.n] [(2,.bool (decide (h.2.2.2.2.1=(ByteArray.mk #[]))))] (Xo 1 ?_);obtain rfl:=Xx k;exact X1 [] ⟨rfl,rfl⟩
 rintro _ _ ⟨rfl,rfl,k⟩;rw[F.a4]at k;refine Xn 2 ?_;refine Xt 1 [(2,.bool false)] (Xo 1 ?_);obtain rfl:=Xx k;exact X1 [] ⟨rfl,rfl⟩
def F.bx (h:Int):Option (Int×Int):=if h=2 then(some (1,8))else(if h=3 then(some (11,13))else(if h=4 then(some (21,22))else(if h=8 then(some (31,34))else(if h=11 then(some (41,42))else(some (0,-1))))))
theorem o_af (k:Int)(p:A.h6 k)(r:Int×Int)(h:F.bx k=some r):
    A.Ct Tryd.prog 31 [A.i k] [] [] (fun v H'=>v=.tuple #[A.i r.1,A.i r.2]∧H'=[]∧A.h6 r.1∧A.h6 r.2):=by
 refine Xs Tryd.func31 rfl Tryd.ntmps31 rfl fun w0 s=>?_;rw[F.bx]at h;refine Xn 1 ?_;refine Xt 2 [] (Xw 3 ?_);refine Xt 1 [(4,A.i k)] (Xw 3 ?_);refine Xt 2 [(5,.bool (decide (k=2)))] (Xo 1 ?_);refine Yn h ?_ ?_<;>intro o h
 ·refine Xn 1 ?_;refine Xt 2 [(2,A.i 1),(3,A.i 8)] (Xo 1 ?_);obtain rfl:=Xx h;exact Ym [] ⟨rfl,rfl,(Xu .i64 (1) rfl),(Xu .i64 (8) rfl)⟩
 refine Xn 1 ?_;refine Xt 2 [(7,.bool (decide (k=3)))] (Xo 1 ?_);refine Yn h ?_ ?_<;>intro o h
 ·refine Xn 1 ?_;refine Xt 2 [(2,A.i 11),(3,A.i 13)] (Xo 1 ?_);obtain rfl:=Xx h;exact Ym [] ⟨rfl,rfl,(Xu .i64 (11) rfl),(Xu .i64 (13) rfl)⟩
 refine Xn 1 ?_;refine Xt 2 [(9,.bool (decide (k=4)))] (Xo 1 ?_);refine Yn h ?_ ?_<;>intro o h
 ·refine Xn 1 ?_;refine Xt 2 [(2,A.i 21),(3,A.i 22)] (Xo 1 ?_);obtain rfl:=Xx h;exact Ym [] ⟨rfl,rfl,(Xu .i64 (21) rfl),(Xu .i64 (22) rfl)⟩
 refine Xn 1 ?_;refine Xt 2 [(11,.bool (decide (k=8)))] (Xo 1 ?_);refine Yn h ?_ ?_<;>intro o h
 ·refine Xn 1 ?_;refine Xt 2 [(2,A.i 31),(3,A.i 34)] (Xo 1 ?_);obtain rfl:=Xx h;exact Ym [] ⟨rfl,rfl,(Xu .i64 (31) rfl),(Xu .i64 (34) rfl)⟩
 refine Xn 1 ?_;refine Xt 2 [(13,.bool (decide (k=11)))] (Xo 1 ?_);refine Yn h ?_ ?_<;>intro o h
 ·refine Xn 1 ?_;refine Xt 2 [(2,A.i 41),(3,A.i 42)] (Xo 1 ?_);obtain rfl:=Xx h;exact Ym [] ⟨rfl,rfl,(Xu .i64 (41) rfl),(Xu .i64 (42) rfl)⟩
 refine Xn 4 ?_;refine Xt 2 [(2,A.i 0),(3,A.i (-1))] (Xo 1 ?_);obtain rfl:=Xx h;exact Ym [] ⟨rfl,rfl,Xy,(Xu .i64 (-1) rfl)⟩
def F.bB (h:Int):Option (Int×Int):=(F.bx h).bind fun k=>(some k)
theorem o_aB (h:Int)(u:A.h6 h)(r:(Int×Int))(k:F.bB h=some r):
    A.Ct Tryd.prog 32 [A.i h] [] [] (fun v H'=>∃(g0':Nat) (g1':Nat),v=.func (.func 39) #[] #[.pointer (some ⟨g0',0,none⟩),.pointer (some ⟨g1',0,none⟩)]∧H'=[(0,.blk g0' 3 [A.i r.1]),(1,.blk g1' 3 [A.i r.2])]∧A.h6 r.1∧A.h6 r.2):=by
 refine Xs Tryd.func32 rfl Tryd.ntmps32 rfl fun w0 z=>?_;rw[F.bB]at k;refine Xn 1 ?_;refine Xt 1 [] (Xw 2 ?_);refine Xt 1 [(6,A.i h)] ?_;refine Yo 0 [] k (o_af h u) .nil ?_;rintro o - k _ _ ⟨rfl,rfl,hr3,hr4⟩;refine X6 ?_;refine Xt 3 [(8,A.i o.1),(9,A.i o.2)] ?_;refine Xr 40 (cs:=[A.i 0]) Tryd.zeroValue3 fun p=>?_;refine Xr 41 (cs:=[A.i 0]) Tryd.zeroValue3 fun s=>?_;refine Ya 40 [] [A.i o.1] ?_;refine Ya 41 [] [A.i o.2] ?_;refine Xw 2 ?_;refine Xt 2 [(2,.func (.func 39) #[] #[.pointer (some ⟨p,0,none⟩),.pointer (some ⟨s,0,none⟩)])] (Xo 1 ?_);obtain rfl:=Xx k;exact X1 [(0,40),(1,41)] ⟨p,s,rfl,rfl,hr3,hr4⟩
def F.a6 (h:D30)(k:Bool):Option Bool:=if k=true then(some (bif decide ((1:Int)≤h.2.1)then decide (h.2.1≤1048576)else false))else(some (decide (h.2.1=0)))
def F.a7 (h:D30)(k:Bool):Option Bool:=if k=true then(some (bif decide ((0:Int)≤h.2.1)then decide (h.2.1≤64)else false))else(if h.1=6 then(F.a6 h (decide (h.1=6)))else(F.a6 h (decide (h.1=11))))
def F.bu (h:D30):Option Bool:=if h.1=3 then(F.a7 h (decide (h.1=3)))else(F.a7 h (decide (h.1=13)))
theorem o_aw (h:D30)(E:A.h6 h.1)(I:A.h6 h.2.1)(L:h.2.2.size≤maxLen)(r:Bool)(k:F.bu h=some r):
    A.Ct Tryd.prog 33 [.agg #[A.i h.1,A.i h.2.1,.string h.2.2]] [] [] (fun v H'=>v=.bool r∧H'=[]):=by
 refine Xs Tryd.func33 rfl Tryd.ntmps33 rfl fun w0 N=>?_;rw[F.bu]at k;refine Xn 1 ?_;refine X2 0 (cs:=[A.i h.1,A.i h.2.1,.string h.2.2]) fun O=>?_;refine Xt 1 [] (Xw 3 ?_);refine Xq [0] [] [.n,.b 0 0] [(4,A.i h.1)] (Xo 2 ?_);refine Xz [1,4] [0] (fun o p=>∃(s:Bool),o=[(5,.bool s)]∧p=[]∧F.a7 h s=some r) ?_ ?_
 ·refine Xn 1 ?_;refine Xt 2 [(5,.bool (decide (h.1=3)))] (Xo 1 ?_);refine Yn k ?_ ?_<;>intro u k
  ·refine Yt 1 ?_;exact Yd ⟨(decide (h.1=3)),rfl,rfl,k⟩
  refine Xn 0 ?_;refine Xt 2 [(5,.bool (decide (h.1=13)))] (Xp ?_);exact Yd ⟨(decide (h.1=13)),rfl,rfl,k⟩
 rintro _ _ ⟨s,rfl,rfl,k⟩;rw[F.a7]at k;refine Y7 k ?_ ?_<;>intro u k
 ·refine Xn 1 ?_;refine Xq [0] [] [.n,.b 0 1,.n,.n,.sy .n,.sy (.b 0 1),.sy .n,.pk,.n] [(2,.bool (bif decide ((0:Int)≤h.2.1)then decide (h.2.1≤64)else false))] (Xo 1 ?_);obtain rfl:=Xx k;exact X1 [] ⟨rfl,rfl⟩
 refine Xz [1] [0] (fun o p=>∃(z:Bool),o=[(16,.bool z)]∧p=[]∧F.a6 h z=some r) ?_ ?_
 ·refine Xn 1 ?_;refine Xt 2 [(16,.bool (decide (h.1=6)))] (Xo 1 ?_);refine Yn k ?_ ?_<;>intro u k
  ·refine Yt 1 ?_;exact Yd ⟨(decide (h.1=6)),rfl,rfl,k⟩
  refine Xn 0 ?_;refine Xt 2 [(16,.bool (decide (h.1=11)))] (Xp ?_);exact Yd ⟨(decide (h.1=11)),rfl,rfl,k⟩
 rintro _ _ ⟨z,rfl,rfl,k⟩;rw[F.a6]at k;refine Y7 k ?_ ?_<;>intro u k
 ·refine Xn 1 ?_;refine Xq [0] [] [.n,.b 0 1,.n,.n,.sy .n,.sy (.b 0 1),.sy .n,.pk,.n] [(2,.bool (bif decide ((1:Int)≤h.2.1)then decide (h.2.1≤1048576)else false))] (Xo 1 ?_);obtain rfl:=Xx k;exact X1 [] ⟨rfl,rfl⟩
 refine Xn 4 ?_;refine Xq [0] [] [.n,.b 0 1,.n,.n] [(2,.bool (decide (h.2.1=0)))] (Xo 1 ?_);obtain rfl:=Xx k;exact X1 [] ⟨rfl,rfl⟩
def F.a8 (h:Bool):Option Bool:=some h
def F.a9 (h:ByteArray):Nat→Nat→Int→Option Bool
 |0,_,_=>none
 |f+1,k,o=>if k<h.size then(A.gd (Z.R64 (o+1)) ((F.a9 h f) (k+(Utf8.decode h k).2) (o+1)))else(if o=1 then((F.aY h).bind fun p=>(F.a8 p))else(F.a8 false))
def F.bv (h:ByteArray):Option Bool:=F.a9 h A.FU 0 0
theorem o_ax (k:ByteArray)(O:k.size≤maxLen)(r:Bool)(h:F.bv k=some r):
    A.Ct Tryd.prog 41 [.string k] [(0,.el none 0 0 A.tabF),(1,.el none 1 0 A.tabA)] [] (fun v H'=>v=.bool r∧H'=[]):=by
 refine Xs Tryd.func41 rfl Tryd.ntmps41 rfl fun w0 W=>?_;rw[F.bv]at h;refine Xn 1 ?_;refine Xt 1 [] (Xw 2 ?_);refine Xt 1 [(3,A.i 0)] (Xw 3 ?_);refine Xt 1 [(4,.string k)] ?_;refine A.AL.rgs 2 fun U=>?_;refine Xo 2 ?_;refine Yf [0,5] [0,1] (fun f u z=>∃(p:Nat),∃(o:Int),u=[(3,A.i o)]∧z=[(2,.si U k p)]∧A.h6 o∧F.a9 k f p o=some r) ⟨0,0,rfl,rfl,Xy,h⟩ ?_;rintro I _ _ ⟨p,o,rfl,rfl,a1,h⟩;rcases I with _|I
 ·exact Yc h
 rw[F.a9]at h;refine Xn 1 ?_;refine A.AL.nxs 2 [] h (fun hb6 h=>?_) (fun V h=>?_)
 ·refine Xt 1 [(7,.bool true)] (Xo 2 ?_);refine Y1 rfl ?_;refine Xn 3 ?_;have⟨L,h⟩:=Yv h;refine Y8 3 [Z.R64 (o+1)] [(3,A.i (o+1))] L (A.de 1 ?_);exact Yd ⟨_,Qg _,⟨(p+(Utf8.decode k p).2),(o+1),rfl,rfl,(Xv L),h⟩⟩
 refine Xt 1 [(7,.bool false)] (Xo 2 ?_);refine Yq rfl ?_;refine Y6 2 ?_;refine Xz [] [0,1] (fun u z=>∃(E:Bool),u=[(2,.bool E)]∧z=[]∧F.a8 E=some r) ?_ ?_
 ·refine Xn 0 ?_;refine Xt 3 [(12,.bool (decide (o=1)))] ?_;refine A.AL.cnp (j:=12) rfl h ?_ ?_<;>intro V h
  ·refine Xq [] [] [.on .n] [(13,.string k)] ?_;refine Ye (dj:=12) rfl rfl ?_;refine Yo 83 [] h (o_l k O) (.s 0 (.s 1 .nil)) ?_;rintro N - h _ _ ⟨rfl,rfl⟩;refine X6 ?_;refine Xt 2 [(2,.bool N)] (Xp ?_);exact Yd ⟨N,rfl,rfl,h⟩
  refine Xq [] [] [.off,.off,.n,.n] [(2,.bool false)] (Xp ?_);exact Yd ⟨false,rfl,rfl,h⟩
 rintro _ _ ⟨E,rfl,rfl,h⟩;rw[F.a8]at h;obtain rfl:=Xx h;exact X1 [] ⟨rfl,rfl⟩
def F.bg (h:Bool):Option Bool:=some h
def F.bh (h:D30)(k:Bool):Option Bool:=if k=true then((F.bv h.2.2).bind fun o=>(some o))else(some (decide (h.2.2=(ByteArray.mk #[]))))
def F.bC (h:D30):Option Bool:=if h.1=5 then(if(bif decide (h.2.2≠(ByteArray.mk #[]))then decide ((h.2.2.size:Int)≤16)else false)=true then((F.aY h.2.2).bind fun k=>(F.bg k))else(F.bg false))else(if h.1=12 then(F.bh h (decide (h.1=12)))else(F.bh h (decide (h.1=22))))
theorem o_aC (k:D30)(O:A.h6 k.1)(U:A.h6 k.2.1)(E:k.2.2.size≤maxLen)(r:Bool)(h:F.bC k=some r):
    A.Ct Tryd.prog 34 [.agg #[A.i k.1,A.i k.2.1,.string k.2.2]] [(0,.el none 0 0 A.tabF),(1,.el none 1 0 A.tabA)] [] (fun v H'=>v=.bool r∧H'=[]):=by
 refine Xs Tryd.func34 rfl Tryd.ntmps34 rfl fun w0 V=>?_;rw[F.bC]at h;refine Xn 1 ?_;refine X2 2 (cs:=[A.i k.1,A.i k.2.1,.string k.2.2]) fun W=>?_;refine Xt 1 [] (Xw 3 ?_);refine Xq [2] [] [.n,.b 0 0] [(4,A.i k.1)] (Xw 3 ?_);refine Xt 2 [(5,.bool (decide (k.1=5)))] (Xo 1 ?_);refine Yn h ?_ ?_<;>intro I h
 ·refine Xz [] [0,1] (fun o p=>∃(u:Bool),o=[(2,.bool u)]∧p=[]∧F.bg u=some r) ?_ ?_
  ·refine Xn 0 ?_;refine Xq [2] [] [.n,.b 0 2,.n,.n,.sy .n,.sy (.b 0 2),.sy .n,.sy .n,.pk,.n] [(16,.bool (bif decide (k.2.2≠(ByteArray.mk #[]))then decide ((k.2.2.size:Int)≤16)else false))] ?_;refine Yg (j:=16) rfl h (fun h=>?_) (fun h=>?_)
   ·refine Xq [2] [] [.on .n,.on (.b 0 2)] [(18,.string k.2.2)] ?_;refine Ye (dj:=16) rfl rfl ?_;refine Yo 3 [] h (o_l k.2.2 E) (.s 0 (.s 1 .nil)) ?_;rintro L - h _ _ ⟨rfl,rfl⟩;refine X6 ?_;refine Xt 2 [(2,.bool L)] (Xp ?_);exact Yd ⟨L,rfl,rfl,h⟩
   refine Xq [] [] [.off,.off,.off,.n,.n] [(2,.bool false)] (Xp ?_);exact Yd ⟨false,rfl,rfl,h⟩
  rintro _ _ ⟨u,rfl,rfl,h⟩;rw[F.bg]at h;obtain rfl:=Xx h;exact X1 [] ⟨rfl,rfl⟩
 refine Xz [1] [0,1,2] (fun o p=>∃(z:Bool),o=[(21,.bool z)]∧p=[]∧F.bh k z=some r) ?_ ?_
 ·refine Xn 1 ?_;refine Xt 2 [(21,.bool (decide (k.1=12)))] (Xo 1 ?_);refine Yn h ?_ ?_<;>intro I h
  ·refine Yt 1 ?_;exact Yd ⟨(decide (k.1=12)),rfl,rfl,h⟩
  refine Xn 0 ?_;refine Xt 2 [(21,.bool (decide (k.1=22)))] (Xp ?_);exact Yd ⟨(decide (k.1=22)),rfl,rfl,h⟩
 rintro _ _ ⟨z,rfl,rfl,h⟩;rw[F.bh]at h;refine Y7 h ?_ ?_<;>intro I h
 ·refine Xn 1 ?_;refine Xq [2] [] [.n,.b 0 2] [(25,.string k.2.2)] ?_;refine Yo 43 [] h (o_ax k.2.2 E) (.s 0 (.s 1 .nil)) ?_;rintro N - h _ _ ⟨rfl,rfl⟩;refine X6 ?_;refine Xt 1 [(2,.bool N)] (Xo 1 ?_);obtain rfl:=Xx h;exact X1 [] ⟨rfl,rfl⟩
 refine Xn 4 ?_;refine Xq [2] [] [.n,.b 0 2,.n,.n] [(2,.bool (decide (k.2.2=(ByteArray.mk #[]))))] (Xo 1 ?_);obtain rfl:=Xx h;exact X1 [] ⟨rfl,rfl⟩
def F.aK (k:Int):Nat→Int→Option (List Int)
 |0,_=>none
 |f+1,h=>if h≤k then(A.cns h (A.gd (Z.R64 (h+1)) ((F.aK k f) (h+1))))else(some [])
def F.bj (h:Int)(k:Int):Option (List Int):=F.aK k A.FU h
theorem o_ag(o:Int)(p:Int)(E:A.h6 o)(U:A.h6 p)(xs:List Int)(h:F.bj o p=some xs):
    A.Sq Tryd.prog 39 [.pointer (some ⟨g0_,0,none⟩),.pointer (some ⟨g2_,0,none⟩)] [(0,.el none g0_ 0 [A.i o]),(1,.el none g2_ 0 [A.i p])] A.ti (fun cs=>[Z.vof false cs]) xs:=by
 refine A.Sq.enter Tryd.func39 rfl Tryd.ntmps39 rfl fun lid w0 J Jx Φ hY hJ0=>?_;obtain⟨rs0,hrs⟩: ∃rs0,rs0=xs:=⟨_,rfl⟩
 have hR0:A.Rem xs 0 rs0:=hrs▸A.Rem.zero xs
 rw[F.bj,←hrs]at h
 clear hrs
 refine Xn 1 ?_;refine Xq [] [0] [.e 0 0,.n] [(4,A.i o)] (Xo 2 ?_);refine A.AX.loopC (A.CY 15 Φ) (0,w0) [0,2] [1] [1] (fun f i I L=>∃(k:Int),∃(rs:List Int),I=[(4,A.i k)]∧L=[]∧A.h6 k∧J i.1 i.2∧A.Rem xs i.1 rs∧F.aK p f k=some rs) A.FU [(4,A.i o)] [] ⟨o,_,rfl,rfl,E,hJ0,hR0,h⟩ ?_;rintro s ⟨N,V⟩ _ _ ⟨k,rs8,rfl,rfl,O,hJ6,hR7,h⟩;rcases s with _|s
 ·exact Yc h
 rw[F.aK]at h;refine Xn 2 ?_;refine Xq [] [1] [.n,.e 0 0,.n] [(8,.bool (decide (k≤p)))] (Xo 1 ?_);refine Yn h ?_ ?_<;>intro W h
 ·refine Xn 5 ?_;refine Xt 2 [(11,.func (.yield lid) #[] #[]),(12,A.i k)] ?_;obtain⟨rs9,hqrs9,h⟩:=A.cns_some h;refine A.AL.yield hY hJ6 (hqrs9▸hR7) [A.i k] ⟨rfl,O⟩ (fun u hJ11 hR12=>?_) (fun u hX13=>?_)
  ·refine Xt 1 [(14,.bool false)] (Xo 1 ?_);refine Yq rfl ?_;refine Xn 3 ?_;have⟨z,h⟩:=Yv h;refine Y8 3 [Z.R64 (k+1)] [(4,A.i (k+1))] z (Xp ?_);exact A.AE.jC (N+1,u) [1] [(4,A.i (k+1))] [] ⟨_,Qg _,⟨(k+1),_,rfl,rfl,(Xv z),hJ11,hR12,h⟩⟩
  refine Xt 1 [(14,.bool true)] (Xo 1 ?_);refine Y1 rfl ?_;exact A.AX.rtX hY hX13
 refine Yt 1 ?_;obtain rfl:=Xx h;exact A.AE.rtY hY hJ6 hR7
def F.aV (h:Option Int)(k:Bool):Option Int:=if k=true then(some 0)else(h)
def F.ai (h:D30):List Int→Option Int
 | []=>some 60
 |k::f=>if k=h.1 then((F.bu h).bind fun o=>(if o=true then((F.bC h).bind fun p=>(F.aV (F.ai h f) p))else(F.aV (F.ai h f) false)))else(F.aV (F.ai h f) false)
def F.bA (h:Int)(k:D30):Option Int:=(F.bx h).bind fun p=>(if p.2<0 then(if k≠(0,0,ByteArray.mk #[])then(some 60)else(some 0))else((F.bB h).bind fun o=>((F.bj o.1 o.2).bind fun s=>F.ai k s)))
theorem o_aA (u:Int)(p:D30)(O:A.h6 u)(U:A.h6 p.1)(V:A.h6 p.2.1)(W:p.2.2.size≤maxLen)(r:Int)(h:F.bA u p=some r):
    A.Ct Tryd.prog 24 [A.i u,.agg #[A.i p.1,A.i p.2.1,.string p.2.2]] [(0,.el none 0 0 A.tabF),(1,.el none 1 0 A.tabA)] [] (fun v H'=>v=A.i r∧H'=[]∧A.h6 r):=by
 refine A.Ct.enterM Tryd.func24 rfl Tryd.ntmps24 rfl fun w0 F0=>?_;rw[F.bA]at h;refine Xn 1 ?_;refine X2 2 (cs:=[A.i p.1,A.i p.2.1,.string p.2.2]) fun g1=>?_;refine Xr 3 (cs:=[A.i 0]) Tryd.zeroValue34 fun g2=>?_;refine Xw 3 ?_;refine Xt 1 [(9,A.i u)] ?_;refine Yo 4 [] h (o_af u O) .nil ?_;rintro r3 - h _ _ ⟨rfl,rfl,hr5,hr6⟩;refine X6 ?_;refine Xt 5 [(6,A.i r3.2)] (Xw 2 ?_);refine Xt 2 [(14,.bool (decide (r3.2<0)))] (Xo 1 ?_);refine Yn h ?_ ?_<;>intro E h
 ·refine Xn 2 ?_;refine Xq [2] [] [.b 0 0,.n] [(15,.agg #[A.i p.1,A.i p.2.1,.string p.2.2]),(16,.agg #[A.i 0,A.i 0,.string (ByteArray.mk #[])])] ?_;refine Yr rfl (fun a w hf hh=>eqagg_neq31 (x:=p) (y:=(0,0,ByteArray.mk #[])) (hf.eval rfl) (hf.eval rfl)) ?_;refine Xo 1 ?_;refine Yn h ?_ ?_<;>intro E h
  ·refine Xn 1 ?_;refine Ya 3 [] [A.i 60] ?_;refine Xo 1 ?_;obtain rfl:=Xx h;exact A.AX.rtM (Ds:=[]) [] [] (A.i 60) (trivial) (fun a w hf hh=>Yy rfl (Z.rv_1 hf rfl Tryd.isAgg34 (Yj hh 3))) (⟨rfl,rfl,(Xu .i64 (60) rfl)⟩)
  refine Xn 3 ?_;refine Ya 3 [] [A.i 0] ?_;refine Xo 1 ?_;obtain rfl:=Xx h;exact A.AX.rtM (Ds:=[]) [] [] (A.i 0) (trivial) (fun a w hf hh=>Yy rfl (Z.rv_1 hf rfl Tryd.isAgg34 (Yj hh 3))) (⟨rfl,rfl,Xy⟩)
 refine Xn 4 ?_;refine Xt 1 [(18,A.i u)] ?_;refine Yo 44 [] h (o_aB u O) .nil ?_;rintro z - h _ _ ⟨g9,a2,rfl,rfl,hr10,hr12⟩;refine X6 ?_;refine Xo 2 ?_;have⟨I,a7,h⟩:=Yz h;refine A.AX.rgf 84 85 86 [0,1,2,3,44,45] [0,1,2,3,44,45] [85,84,0,1,2,3,44,45] (fun k L=>L=[]∧F.ai p (List.drop k I)=some r) [] cf39 (o_ag g9 a2 z.1 z.2 hr10 hr12 I a7) (fun _=>rfl) ⟨rfl,h⟩ ?_ ?_ ?_
 ·rintro a3 _ D15 L16 ⟨rfl,h⟩;exact⟨⟨_,(.b 44 (.b 45 .nil))⟩,rfl,fun o=>rfl⟩
 ·rintro a3 _ a4 D15 L16 a9 aa ⟨rfl,h⟩ hx23 hxo24 a5;rw[A.drop_at hx23,F.ai]at h
  refine Xn 0 ?_;refine Xt 1 [(7,A.i a4)] (Xp ?_);refine A.AE.flip 84 85 fun ab=>?_;refine Y6 1 ?_;refine Xz [3,4] [0,1,2,3,44,45,84,85] (fun nl L=>∃(N:Bool),nl=[(32,.bool N)]∧L=[]∧F.aV (F.ai p (List.drop (a3+1) I)) N=some r) ?_ ?_
  ·refine Xn 0 ?_;refine Xq [2] [] [.n,.n,.b 0 0,.n,.n] [(25,.bool (decide (a4=p.1)))] ?_;refine A.AL.cnp (j:=25) rfl h ?_ ?_<;>intro E h
   ·refine Xq [2] [] [.on (.b 0 0)] [(26,.agg #[A.i p.1,A.i p.2.1,.string p.2.2])] ?_;refine Ye (dj:=25) rfl rfl ?_;refine Yo 167 [] h (o_aw p U V W) .nil ?_;rintro a8 - h _ _ ⟨rfl,rfl⟩;refine X6 ?_;refine Xt 2 [(29,.bool a8)] ?_;refine Yg (j:=29) rfl h (fun h=>?_) (fun h=>?_)
    ·refine Xq [2] [] [.on (.b 0 0)] [(30,.agg #[A.i p.1,A.i p.2.1,.string p.2.2])] ?_;refine Ye (dj:=29) rfl rfl ?_;refine Yo 207 [] h (o_aC p U V W) (.s 0 (.s 1 .nil)) ?_;rintro a6 - h _ _ ⟨rfl,rfl⟩;refine X6 ?_;refine Xt 1 [(32,.bool a6)] (Xp ?_);exact Yd ⟨a6,rfl,rfl,h⟩
    refine Xq [] [] [.off,.off,.n] [(32,.bool false)] (Xp ?_);exact Yd ⟨false,rfl,rfl,h⟩
   refine Xq [] [] [.off,.off,.n,.n,.off,.off,.n] [(32,.bool false)] (Xp ?_);exact Yd ⟨false,rfl,rfl,h⟩
  rintro _ _ ⟨N,rfl,rfl,h⟩;rw[F.aV]at h;refine Y7 h ?_ ?_<;>intro E h
  ·refine Xn 1 ?_;refine Ya 3 [] [A.i 0] ?_;refine Xo 1 ?_;refine A.AX.bret a5 [85,2,3,44,45,84] 100000 [(85,100085),(2,100002),(3,100003),(44,100044),(45,100045),(84,100084),(0,0),(1,1)] [(2,.blk g1 31 [A.i p.1,A.i p.2.1,.string p.2.2]),(3,.blk g2 34 [A.i 0]),(44,.blk g9 3 [A.i z.1]),(45,.blk a2 3 [A.i z.2]),(84,.ob D15 A.dfT),(0,.el none 0 0 A.tabF),(1,.el none 1 0 A.tabA)] ?_ rfl rfl
   obtain rfl:=Xx h;exact A.AE.rtM (Ds:=[D15]) [84] [] (A.i 0) (⟨rfl,trivial⟩) (fun a w hf hh=>Yy rfl (Z.rv_1 hf rfl Tryd.isAgg34 (Yj hh 3))) (⟨rfl,rfl,Xy⟩)
  refine Yt 2 ?_;exact A.AE.bn a5 [85,84,2,3,44,45] 100000 [(85,100085),(84,100084),(0,0),(1,1),(2,100002),(3,100003),(44,100044),(45,100045)] [] ⟨rfl,h⟩ rfl rfl
 rintro _ D15 L16 ⟨rfl,h⟩;rw[List.drop_length,F.ai]at h
 refine A.el 3 ?_;refine Ya 3 [] [A.i 60] ?_;refine Xo 1 ?_;obtain rfl:=Xx h;exact A.AX.rtM (Ds:=[D15]) [84] [] (A.i 60) (⟨rfl,trivial⟩) (fun a w hf hh=>Yy rfl (Z.rv_1 hf rfl Tryd.isAgg34 (Yj hh 3))) (⟨rfl,rfl,(Xu .i64 (60) rfl)⟩)
def F.aw (k:(List Int)→(List (Int×Bool))→Int→Option (Bool×((List (Int×D32))×(List Int)×(List (Int×Int)))))(h:Int)(o:List Int)(p:List (Int×Bool)):Option (Bool×((List (Int×D32))×(List Int)×(List (Int×Int)))):=A.gd (Z.R64 (h+1)) (k o p (h+1))
def F.ax (k:Int→Option (Bool×((List (Int×D32))×(List Int)×(List (Int×Int)))))(h:Int):Option (Bool×((List (Int×D32))×(List Int)×(List (Int×Int)))):=A.gd (Z.R64 (h+1)) (k (h+1))
def F.ay (s:(List Int)→(List (Int×Bool))→Int→Option (Bool×((List (Int×D32))×(List Int)×(List (Int×Int)))))(u:Int→Option (Bool×((List (Int×D32))×(List Int)×(List (Int×Int)))))(o:List Int)(p:List (Int×Bool))(z:Int)(E:Int)(h:D32):Nat→Int→Option (Bool×((List (Int×D32))×(List Int)×(List (Int×Int))))
 |0,_=>none
 |f+1,k=>if k<(h.2.2.1.length:Int)then((A.ix h.2.2.1 k).bind fun I=>(A.lt (Z.mget (false:Bool) p I) fun L=>(if(bif !L then decide (h.2.1≠14)else false)=true then(F.ax u E)else(A.gd (Z.R64 (k+1)) ((F.ay s u o p z E h f) (k+1))))))else(A.gd ((List.length (α:=Int) o+List.length (α:=Int) [h.1])*8≤140737488355328) (F.aw s z (o++[h.1]) (Z.mins p h.1 true)))
def F.m (k:(List Int)→(List (Int×Bool))→Int→Option (Bool×((List (Int×D32))×(List Int)×(List (Int×Int)))))(o:D23)(p:List Int)(h:List (Int×Bool))(s:Int):Nat→Int→Option (Bool×((List (Int×D32))×(List Int)×(List (Int×Int))))
 |0,_=>none
 |f+1,u=>if u<(o.length:Int)then((A.ix o u).bind fun z=>(A.lt (Z.mget (false:Bool) h z.1) fun E=>(if E=true then(F.ax (F.m k o p h s f) u)else(F.ay k (F.m k o p h s f) p h s u z A.FU 0))))else(F.aw k s p h)
def F.j (k:((List (Int×D32))×(List Int)×(List (Int×Int))))(h:D23):Nat→(List Int)→(List (Int×Bool))→Int→Option (Bool×((List (Int×D32))×(List Int)×(List (Int×Int))))
 |0,_,_,_=>none
 |f+1,o,s,p=>if p<(h.length:Int)then(F.m (F.j k h f) h o s p A.FU 0)else(some (decide ((o.length:Int)=(h.length:Int)),(k.1,o,k.2.2)))
def F.ba (h:((List (Int×D32))×(List Int)×(List (Int×Int))))(k:D23):Option (Bool×((List (Int×D32))×(List Int)×(List (Int×Int)))):=F.j h k A.FU h.2.1 [] 0
theorem o_y(I:((List (Int×D32))×(List Int)×(List (Int×Int))))(p:D23)(r:Bool×((List (Int×D32))×(List Int)×(List (Int×Int))))(h:F.ba I p=some r):
    A.Ct Tryd.prog 25 [.pointer (some ⟨g0_,0,none⟩),.agg #[.slice A5_ p.length c6_]] [(0,.blk g0_ 53 [.map (some b1_),.slice A2_ I.2.1.length c3_,.map (some b4_)]),(1,.mp Int (fun i:Int=>A.i i) T32 true b1_ I.1),(2,.own A.ti 3 A2_ c3_ I.2.1),(3,.mp Int (fun i:Int=>A.i i) A.ti false b4_ I.2.2),(4,.sh (.slice T32) [.slice A5_ p.length c6_] p)] ([g0_]++([b1_]++(Z.obl A2_++([b4_]++[])))) (fun v H'=>∃(b0':Nat) (A1':Option Addr) (c2':Nat) (b3':Nat),v=.bool r.1∧H'=[(0,.blk g0_ 53 [.map (some b0'),.slice A1' r.2.2.1.length c2',.map (some b3')]),(1,.mp Int (fun i:Int=>A.i i) T32 true b0' r.2.1),(2,.own A.ti 3 A1' c2' r.2.2.1),(3,.mp Int (fun i:Int=>A.i i) A.ti false b3' r.2.2.2)]):=by
 refine Xs Tryd.func25 rfl Tryd.ntmps25 rfl fun w0 F0=>?_;rw[F.ba]at h;refine Xn 1 ?_;refine X2 5 (cs:=[.slice A5_ p.length c6_]) fun g1=>?_;refine Xt 1 [] (Xw 2 ?_);refine A.AL.mkm 6 Int (fun i:Int=>A.i i) Z.Ty.bool false fun b2=>?_;refine Xt 1 [(5,.map (some b2))] (Xw 3 ?_);refine Xq [5] [] [.n,.b 0 0,.n,.n] [(13,A.i (p.length:Int)),(14,A.i 0)] (Xo 2 ?_);refine Yf [0,3,5,13] [1,3,4,5] (fun f N O=>∃(s:List Int),∃(U:List (Int×Bool)),∃(E:Int),∃(A3:Option Addr),∃(c4:Nat),N=[(14,A.i E)]∧O=[(0,.blk g0_ 53 [.map (some b1_),.slice A3 s.length c4,.map (some b4_)]),(2,.own A.ti 3 A3 c4 s),(6,.mp Int (fun i:Int=>A.i i) Z.Ty.bool false b2 U)]∧A.h6 E∧F.j I p f s U E=some r) ⟨I.2.1,[],0,A2_,c3_,rfl,rfl,Xy,h⟩ ?_;rintro W _ _ ⟨s,U,E,A3,c4,rfl,rfl,ao,h⟩;rcases W with _|W
 ·exact Yc h
 rw[F.j]at h;refine Xn 1 ?_;refine Xt 1 [(15,.bool (decide (E<(p.length:Int))))] (Xo 2 ?_);refine Yn h ?_ ?_<;>intro hb h
 ·refine Y6 2 ?_;refine Xz [0,3,5,13,14] [1,3,4,5] (fun N O=>∃(a2:List Int),∃(a3:List (Int×Bool)),∃(a4:Option Addr),∃(a5:Nat),N=[]∧O=[(0,.blk g0_ 53 [.map (some b1_),.slice a4 a2.length a5,.map (some b4_)]),(2,.own A.ti 3 a4 a5 a2),(6,.mp Int (fun i:Int=>A.i i) Z.Ty.bool false b2 a3)]∧F.aw (F.j I p W) E a2 a3=some r) ?_ ?_
  ·refine Y6 1 ?_;refine A.AX.scope ?_;refine Xn 4 ?_;refine Xq [5] [] [.n,.b 0 0,.n,.n] [(17,.slice A5_ p.length c6_),(18,A.i (p.length:Int)),(19,A.i 0)] (Xo 2 ?_);refine Yf [0,3,5,13,14,17,18] [0,1,2,3,4,5,6] (fun f N O=>∃(L:Int),N=[(19,A.i L)]∧O=[]∧A.h6 L∧F.m (F.j I p W) p s U E f L=some r) ⟨0,rfl,rfl,Xy,h⟩ ?_;rintro a6 _ _ ⟨L,rfl,rfl,ap,h⟩;rcases a6 with _|a6
   ·exact Yc h
   rw[F.m]at h;refine Xn 1 ?_;refine Xt 1 [(20,.bool (decide (L<(p.length:Int))))] (Xo 2 ?_);refine Yn h ?_ ?_<;>intro hb h
   ·refine Y6 2 ?_;refine Xz [0,3,5,13,14,17,18,19] [0,1,2,3,4,5,6] (fun N O=>N=[]∧O=[]∧F.ax (F.m (F.j I p W) p s U E a6) L=some r) ?_ ?_
    ·refine Xn 2 ?_;have⟨o,ai,h⟩:=Yz h;refine Yh 4 111 ai fun aj=>?_;intro a7 a8 aq ar;refine Xq [] [111] [.e 0 0] [(22,.agg #[A.i o.1,A.i o.2.1,.slice a7 o.2.2.1.length a8,A.i o.2.2.2.1.1,A.i o.2.2.2.1.2.1,.string o.2.2.2.1.2.2,.string o.2.2.2.2.1,A.i o.2.2.2.2.2.1,A.i o.2.2.2.2.2.2])] ?_;refine Xr 113 (cs:=[A.i 0,A.i 0,.slice none 0 0,A.i 0,A.i 0,.string (ByteArray.mk #[]),.string (ByteArray.mk #[]),A.i 0,A.i 0]) Tryd.zeroValue33 fun au=>?_;refine Ya 113 [] [A.i o.1,A.i o.2.1,.slice a7 o.2.2.1.length a8,A.i o.2.2.2.1.1,A.i o.2.2.2.1.2.1,.string o.2.2.2.1.2.2,.string o.2.2.2.2.1,A.i o.2.2.2.2.2.1,A.i o.2.2.2.2.2.2] ?_;refine Xw 3 ?_;refine Xq [113] [] [.n,.n,.b 0 0] [(23,.map (some b2)),(25,A.i o.1)] ?_;obtain⟨av,ak,h⟩:=X7 h;refine Yw (t:=Z.Ty.bool) 6 114 (z:=(false:Bool)) (zs:=[.bool false]) ky3 o.1 Tryd.zeroValue4 rfl ak fun az=>?_;refine Xo 1 ?_;refine Y7 h ?_ ?_<;>intro hb h
     ·refine Yt 1 ?_;exact Yd ⟨rfl,rfl,h⟩
     refine Xn 4 ?_;refine Xq [113] [] [.n,.b 0 2,.n,.n] [(28,.slice a7 o.2.2.1.length a8),(29,A.i (o.2.2.1.length:Int)),(30,A.i 0)] (Xo 2 ?_);refine Yf [0,3,5,7,13,14,17,18,19,28,29] [0,1,2,3,4,5,6,112,113] (fun f N O=>∃(V:Int),N=[(30,A.i V)]∧O=[]∧A.h6 V∧F.ay (F.j I p W) (F.m (F.j I p W) p s U E a6) s U E L o f V=some r) ⟨0,rfl,rfl,Xy,h⟩ ?_;rintro ac _ _ ⟨V,rfl,rfl,b0,h⟩;rcases ac with _|ac
     ·exact Yc h
     rw[F.ay]at h;refine Xn 1 ?_;refine Xt 1 [(31,.bool (decide (V<(o.2.2.1.length:Int))))] (Xo 2 ?_);refine Yn h ?_ ?_<;>intro hb h
     ·refine Xn 5 ?_;have⟨a9,al,h⟩:=Yz h;refine Yh 112 121 al fun b1=>?_;intro b3 b4;refine Xq [] [121] [.e 0 0,.n] [(9,A.i a9)] (Xw 2 ?_);refine Xt 2 [(34,.map (some b2)),(35,A.i a9)] ?_;obtain⟨am,an,h⟩:=X7 h;refine Yw (t:=Z.Ty.bool) 6 122 (z:=(false:Bool)) (zs:=[.bool false]) ky3 a9 Tryd.zeroValue4 rfl an fun b5=>?_;refine Xq [113] [] [.n,.n,.sy .n,.sy (.b 0 1),.sy .n,.pk] [(42,.bool (bif !am then decide (o.2.1≠14)else false))] (Xo 1 ?_);refine Y7 h ?_ ?_<;>intro hb h
      ·refine Yt 1 ?_;exact Yd ⟨rfl,rfl,h⟩
      refine Xn 3 ?_;have⟨ad,h⟩:=Yv h;refine Y8 2 [Z.R64 (V+1)] [(30,A.i (V+1))] ad (Xp ?_);exact Yd ⟨_,Qg _,⟨(V+1),rfl,rfl,(Xv ad),h⟩⟩
     refine Xn 3 ?_;refine Xq [113] [] [.n,.n,.b 0 0] [(44,.map (some b2)),(46,A.i o.1)] ?_;refine A.AL.mup (t:=Z.Ty.bool) 6 [] (cs:=[.bool true]) (u:=true) ky3 o.1 rfl ?_;refine Xo 2 ?_;refine Yi mixed 11 12 (A.mb 12 0) ?_;refine X8 X5 [] l1a [113,0] [] (A.mb 12 127) 5 [(0,.n),(1,.n),(5,.n),(2,.n),(6,.b 0 0),(3,.n),(4,.b 1 1)] [(47,.pointer (some ⟨g0_,0,none⟩)),(53,A.i o.1),(51,.slice A3 s.length c4)] ?_;refine X0 7 ?_;refine X9 123 (ty:=A.ti) (cs:=[A.i o.1]) [o.1] ⟨⟨rfl,aj.1⟩,rfl⟩ (fun b6=>?_) Tryd.zeroValue3 Tryd.sizeOf3
     refine X4 (A.mb 12 255) l1a ?_;refine X0 8 ?_;have⟨hl46,h⟩:=Yv h;refine Yp (k:=2) [] (A.rowO (k:=123) rfl) inf3 hl46 fun aa ab=>?_;refine X4 (A.mb 12 511) l1a ?_;refine X8 X5 l1a [0,1,2,3,4,5,6,112,113,123] [] [] (A.mb 12 2047) 1 [(9,.n),(10,.n)] [(57,.pointer (some ⟨g0_,1,none⟩))] ?_;refine X0 11 ?_;refine A.AL.store 0 [] (new:=[.slice aa ((s++[o.1]).length) ab]) (cs':=[.map (some b1_),.slice aa ((s++[o.1]).length) ab,.map (some b4_)]) ?_;refine A.AH.nm (A.mb 12 4095) ?_;refine X3 ?_;refine A.ee 4 ?_;exact Yd ⟨(s++[o.1]),(Z.mins U o.1 true),aa,ab,rfl,rfl,h⟩
    rintro _ _ ⟨rfl,rfl,h⟩;rw[F.ax]at h;refine Xn 0 ?_;have⟨ae,h⟩:=Yv h;refine Y8 2 [Z.R64 (L+1)] [(19,A.i (L+1))] ae (Xp ?_);exact Yd ⟨_,Qg _,⟨(L+1),rfl,rfl,(Xv ae),h⟩⟩
   refine Yt 3 ?_;exact Yd ⟨s,U,A3,c4,rfl,rfl,h⟩
  rintro _ _ ⟨a2,a3,a4,a5,rfl,rfl,h⟩;rw[F.aw]at h;refine Xn 0 ?_;have⟨ah,h⟩:=Yv h;refine Y8 2 [Z.R64 (E+1)] [(14,A.i (E+1))] ah (Xp ?_);exact Yd ⟨_,Qg _,⟨a2,a3,(E+1),a4,a5,rfl,rfl,(Xv ah),h⟩⟩
 refine Y6 3 ?_;refine Yi mixed 10 10 (A.mb 10 0) ?_;refine X8 X5 [] [0,1,2,3,4,5,6] [5,0] [] (A.mb 10 1023) 0 [(0,.n),(5,.n),(1,.n),(6,.b 0 0),(2,.n),(7,.n),(3,.b 1 1),(4,.n),(8,.n),(9,.n)] [(4,.bool (decide ((s.length:Int)=(p.length:Int))))] (X3 ?_);refine A.ex 1 ?_;obtain rfl:=Xx h;exact X1 [(0,0),(1,1),(2,2),(3,3)] ⟨b1_,A3,c4,b4_,rfl,rfl⟩
end Go.Proofs.YtdimhhfngpppoaaDoor
end
