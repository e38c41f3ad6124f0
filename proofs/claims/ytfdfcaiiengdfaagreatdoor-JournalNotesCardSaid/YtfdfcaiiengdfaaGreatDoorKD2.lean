/- Functions on data, what they tell, and that the code computes them. -/
import Derived.Test.YtfdfcaiiengdfaaGreatDoorKD1
import Derived.Test.YtfdfcaiiengdfaaGreatDoorKD0
section
set_option linter.unusedVariables false
namespace Go.A
open Go.RowKit Go.Z
def mb:Nat→Nat→List Bool
 |0,_=>[]
 |n+1,m=>Nat.beq (m%2) 1::mb n (m / 2)
def nxs:Nat→Option Code→List Kx→Option (Option Code×List Kx)
 |0,c,K=>some (c,K)
 |n+1,some (.seq x y),K=>nxs n (some x) (.c y::K)
 |n+1,some (.block id c),K=>nxs n (some c) (.b id::K)
 |n+1,some .skip,K=>nxs n none K
 |n+1,some (.label _),K=>nxs n none K
 |n+1,some (.exit id),K=>match popx id K with
  |some K'=>nxs n none K'
  |none=>none
 |n+1,none,.c y::K=>nxs n (some y) K
 |n+1,none,.b _::K=>nxs n none K
 |n+1,none,.s::K=>nxs n none K
 |_+1,_,_=>none
section
variable {r:Option Nat}{P:Program}{Y:Exit→Act→World→Prop}{C:Cx}{l:List (Nat×Value)}{H:List (Nat×Res)}{K K':List Kx}{c c':Code}
def GX (r:Option Nat)(P:Program)(Y:Exit→Act→World→Prop)(C:Cx)(l:List (Nat×Value))(H:List (Nat×Res)):Option Code→List Kx→Prop
 |some c,K=>AX r P Y K c C l H
 |none,K=>AE r P Y K .normal C l H
theorem o_aZ: ∀{n:Nat} {c c':Option Code} {K K':List Kx},nxs n c K=some (c',K')→GX r P Y C l H c' K'→GX r P Y C l H c K:=by
 intro n;induction n with
 |zero=>intro c c' K K' e h;injection e with e;injection e with e1 e2;subst e1;subst e2;exact h
 |succ n ih=>
  intro c c' K K' e h
  unfold nxs at e
  split at e
  ·injection e with e;injection e with e1 e2;subst e1;subst e2;exact h
  ·rename_i e0;cases e0;exact AX.seq (ih e h)
  ·rename_i e0;cases e0;exact AX.block (ih e h)
  ·rename_i e0;cases e0;exact AX.skip (ih e h)
  ·rename_i e0;cases e0;exact AX.label (ih e h)
  ·rename_i e0
   cases e0
   split at e
   ·rename_i hp;exact AX.exit hp (ih e h)
   ·cases e
  ·rename_i e0;cases e0;exact AE.c (ih e h)
  ·rename_i e0;cases e0;exact AE.b (ih e h)
  ·rename_i e0;cases e0;exact AE.s (ih e h)
  ·cases e
theorem xx (n:Nat)(h:AX r P Y K' c' C l H)(e:nxs n (some c) K=some (some c',K'):=by rfl):AX r P Y K c C l H:=o_aZ (c:=some c) (c':=some c') e h
theorem xe (n:Nat)(h:AE r P Y K' .normal C l H)(e:nxs n (some c) K=some (none,K'):=by rfl):AX r P Y K c C l H:=o_aZ (c:=some c) (c':=none) e h
theorem ex (n:Nat)(h:AX r P Y K' c' C l H)(e:nxs n none K=some (some c',K'):=by rfl):AE r P Y K .normal C l H:=o_aZ (c:=none) (c':=some c') e h
theorem ee (n:Nat)(h:AE r P Y K' .normal C l H)(e:nxs n none K=some (none,K'):=by rfl):AE r P Y K .normal C l H:=o_aZ (c:=none) (c':=none) e h
theorem xl (n:Nat){id:Nat}{lo:List Oper}(h:AL r P lo.toArray (kont r P Y K') lo C l H)(e:nxs n (some c) K=some (some (.region id lo.toArray false),K'):=by rfl):AX r P Y K c C l H:=xx n (AX.reg h) e
theorem el (n:Nat){id:Nat}{lo:List Oper}(h:AL r P lo.toArray (kont r P Y K') lo C l H)(e:nxs n none K=some (some (.region id lo.toArray false),K'):=by rfl):AE r P Y K .normal C l H:=ex n (AX.reg h) e
theorem dl (n:Nat){ops:Array Oper}{id:Nat}{lo:List Oper}(h:AL r P lo.toArray (kont r P Y K') lo C l H)(e:nxs n none K=some (some (.region id lo.toArray false),K'):=by rfl):AL r P ops (kont r P Y K) [] C l H:=AL.done (el n h e)
theorem dx (n:Nat){ops:Array Oper}(h:AX r P Y K' c' C l H)(e:nxs n none K=some (some c',K'):=by rfl):AL r P ops (kont r P Y K) [] C l H:=AL.done (ex n h e)
theorem de (n:Nat){ops:Array Oper}(h:AE r P Y K' .normal C l H)(e:nxs n none K=some (none,K'):=by rfl):AL r P ops (kont r P Y K) [] C l H:=AL.done (ee n h e)
end
section
variable {r:Option Nat}{P:Program}{ops:Array Oper}{Q:Exit→Act→World→Prop}{lst rest:List Oper}{C:Cx}{l:List (Nat×Value)}{H:List (Nat×Res)}{T:TypeId}{pos:String}{af:Array Edge}
theorem q0 (bs es:List Nat)(hs:List Hint)(nl:List (Nat×Value))(h:AL r P ops Q (lst.drop hs.length) C (cat nl l) H)
  (hq:((qs P ⟨knb H bs,kne H es⟩ C.n ops hs lst (Z.q0 l)).bind (qfin l (nl.map Prod.fst)))=some ([],nl):=by kernel_rfl)
  (he:(qs P ⟨knb H bs,kne H es⟩ C.n ops hs lst (Z.q0 l)).map (fun s=>s.q.map Prod.fst)=(qs P ⟨knb H bs,kne H es⟩ C.n ops hs lst (Z.q0 l)).map (fun s=>s.q.map Prod.snd):=by kernel_rfl):AL r P ops Q lst C l H:=
 AL.q bs es hs (nl.map Prod.fst) [] nl trivial h hq he
theorem q (bs es:List Nat)(hs:List Hint)(cs:List Prop)(nl:List (Nat×Value))(hc:conj cs)(h:AL r P ops Q (lst.drop hs.length) C (cat nl l) H)
  (hq:((qs P ⟨knb H bs,kne H es⟩ C.n ops hs lst (Z.q0 l)).bind (qfin l (nl.map Prod.fst)))=some (cs,nl):=by kernel_rfl)
  (he:(qs P ⟨knb H bs,kne H es⟩ C.n ops hs lst (Z.q0 l)).map (fun s=>s.q.map Prod.fst)=(qs P ⟨knb H bs,kne H es⟩ C.n ops hs lst (Z.q0 l)).map (fun s=>s.q.map Prod.snd):=by kernel_rfl):AL r P ops Q lst C l H:=
 AL.q bs es hs (nl.map Prod.fst) cs nl hc h hq he
theorem sw (k:Nat)(js:List Nat)(new:List Value){t bt:TypeId}{x y:Operand}{g o m:Nat}{cs:List Value}{v:Value}(h:AL r P ops Q rest C l ((k,.blk g bt new)::ded js H))
  (hb:hk H k=some (.blk g bt cs):=by rfl) (hx:ev l x=some (.pointer (some ⟨g,o,none⟩)):=by rfl) (hy:ev l y=some v:=by rfl) (hS:szB P t=some m:=by kernel_rfl)
  (hv:v.cells=new.toArray:=by rfl) (hm:new.length=m:=by rfl) (ho:Nat.ble (o+m) cs.length=true:=by rfl) (h1:new.all (fun u=>u.oneCell')=true:=by rfl) (hc:cs.take o++new++cs.drop (o+m)=new:=by rfl) (hj:hng [k] js H=true:=by kernel_rfl):
  AL r P ops Q (⟨none,.store t x y,T,pos,af,none⟩::rest) C l H:=AL.store k js h hb hx hy hS hv hm ho h1 hc hj
end
section
variable {r:Option Nat}{P:Program}{Y:Exit→Act→World→Prop}{K:List Kx}{C:Cx}{l:List (Nat×Value)}{H:List (Nat×Res)}
theorem j {l':List (Nat×Value)}{H':List (Nat×Res)}{ks hs:List Nat}{J:List (Nat×Value)→List (Nat×Res)→Prop}{nl:List (Nat×Value)}{nh:List (Nat×Res)}(hJ:J nl nh)(h1:kp l ((cat nl (kp l' ks)).map (·.1))=cat nl (kp l' ks):=by kernel_rfl)(h2:kpH H (nh.map (·.1)++hs) (nh.map (·.1)++hs)=hcat nh (kpH H' hs hs):=by kernel_rfl):
  AE r P Y (.m (St C l' H' ks hs J)::K) .normal C l H:=AE.j (nh.map (·.1)++hs) nl nh hJ h1 h2
theorem lp_ (ks hs:List Nat)(J:Nat→List (Nat×Value)→List (Nat×Res)→Prop){nl:List (Nat×Value)}{nh:List (Nat×Res)}{x:Code}(hJ:J FU nl nh)
  (h: ∀f nl nh,J f nl nh→AX r P Y (.m (St C l H ks hs fun nl nh=>∃f',f'<f∧J f' nl nh)::K) x C (cat nl (kp l ks)) (hcat nh (kpH H hs hs)))
  (h1:kp l ((cat nl (kp l ks)).map (·.1))=cat nl (kp l ks):=by kernel_rfl) (h2:kpH H (nh.map (·.1)++hs) (nh.map (·.1)++hs)=hcat nh (kpH H hs hs):=by kernel_rfl):AX r P Y K (.loop x) C l H:=
 AX.loop ks hs (nh.map (·.1)++hs) J FU nl nh hJ h h1 h2
end
section
variable {r:Option Nat}{P:Program}{ops:Array Oper}{Q:Exit→Act→World→Prop}{Hq:List (Nat×Res)}{m g:Nat}{li:List Bool}{C:Cx}{l:List (Nat×Value)}{H:List (Nat×Res)}
theorem hq (hQ:Pq Q)(gs qs bs es:List Nat)(li':List Bool)(f:Nat)(is:List (Nat×Hint))(nl:List (Nat×Value))(h:AH r P ops Q (kpH H qs qs) m f li' C (cat nl l) H)
  (hg:g=f+is.length:=by rfl) (hb:is.all (fun p=>bon ops m p.1)=true:=by kernel_rfl) (hcl:cloB ops li.toArray=true:=by kernel_rfl) (hn:(Region.noSelect ops&&noDefer ops)=true:=by kernel_rfl)
  (hq:((dqs P ⟨knb (kpH H qs qs) bs,kne (kpH H qs qs) es⟩ C.n ops is li.toArray (Z.q0 l)).bind fun x=>(qfin l (nl.map Prod.fst) x.2).map fun y=>(x.1.toList,y))=some (li',[],nl):=by kernel_rfl)
  (he:(dqs P ⟨knb (kpH H qs qs) bs,kne (kpH H qs qs) es⟩ C.n ops is li.toArray (Z.q0 l)).map (fun s=>s.2.q.map Prod.fst)=(dqs P ⟨knb (kpH H qs qs) bs,kne (kpH H qs qs) es⟩ C.n ops is li.toArray (Z.q0 l)).map (fun s=>s.2.q.map Prod.snd):=by kernel_rfl)
  (e:kpH (kpH H qs qs) gs gs=Hq:=by kernel_rfl):AH r P ops Q Hq m g li C l H:=AH.q hQ gs qs bs es li' f is (nl.map Prod.fst) [] nl trivial h hg hb hcl hn hq he e
end
section
variable {r:Option Nat}{P:Program}{l:List (Nat×Value)}{H:List (Nat×Res)}{fn:Func}{K:List Kx}{w0:World}{S:List Nat}{F:Nat→Prop}{n:Nat}{R:Value→List (Nat×Res)→Prop}
theorem rt1 (ps:List (Nat×Nat)){t:Nat}{v:Value}(hR:R v (A.ren H ps))(hf:fn.results=#[.tmp t]:=by rfl)(hv:lk l t=some v:=by rfl)(h1:nod (ps.map (·.1))=true:=by rfl)(h2:nod (ps.map (·.2))=true:=by rfl):
  AX r P (bodyPost P fn fun e w'=>∃v H',e=.returned v∧R v H'∧Hp ⟨0,[],w0,S,F⟩ H' w') K .ret ⟨n,[],w0,S,F⟩ l H:=AX.ret ps v (fun a w h hh=>Z.resv1 hf (Z.rv_t h hv)) hR h1 h2
theorem rt2 (ps:List (Nat×Nat)){t u:Nat}{v v2:Value}(hR:R (.tuple #[v,v2]) (A.ren H ps))(hf:fn.results=#[.tmp t,.tmp u]:=by rfl)(hv:lk l t=some v:=by rfl)(hu:lk l u=some v2:=by rfl)(h1:nod (ps.map (·.1))=true:=by rfl)(h2:nod (ps.map (·.2))=true:=by rfl):
  AX r P (bodyPost P fn fun e w'=>∃v H',e=.returned v∧R v H'∧Hp ⟨0,[],w0,S,F⟩ H' w') K .ret ⟨n,[],w0,S,F⟩ l H:=AX.ret ps (.tuple #[v,v2]) (fun a w h hh=>Z.resv2 hf (Z.rv_t h hv) (Z.rv_t h hu)) hR h1 h2
end
theorem pb {r:Option Nat}{P:Program}{fn:Func}{R:Ending→World→Prop}{K:List Kx}:Pq (kont r P (bodyPost P fn R) K):=pk_kont (Z.Pq.body _ _ _)
section
variable {P:Program}{C:Cx}{l:List (Nat×Value)}{H:List (Nat×Res)}
end
end Go.A
end
section
set_option linter.unusedVariables false
set_option linter.unusedSimpArgs false
namespace Go.Z
open Go.RowKit
section
variable {κ:Type}[DecidableEq κ]{α:Type}
def mdel:List (κ×α)→κ→List (κ×α)
 | [],_=>[]
 |(a,y)::r,k=>if k=a then r else(a,y)::mdel r k
theorem map_era {β γ:Type}(f:β→γ): ∀(l:List β) (i:Nat),(l.eraseIdx i).map f=(l.map f).eraseIdx i
 | [],_=>rfl
 |_::_,0=>rfl
 |a::l,i+1=>by simp only[List.eraseIdx_cons_succ,List.map_cons,map_era f l i]
theorem mdel_loc {m:List (κ×α)}{k:κ}:mdel m k=match loc k (m.map Prod.fst)with
  |some i=>m.eraseIdx i
  |none=>m:=by
 induction m with
 |nil=>simp[mdel,loc]
 |cons p r ih=>
  obtain⟨a,y⟩:=p
  simp only[List.map_cons,loc,mdel]
  by_cases hk:k=a
  ·subst hk;simp
  ·rw[if_neg hk,if_neg hk,ih]
   cases loc k (r.map Prod.fst)<;>simp
theorem mdel_ne (z:α)(m:List (κ×α))(k j:κ)(h:j≠k):mget z (mdel m k) j=mget z m j∧mhas (mdel m k) j=mhas m j:=by
 induction m with
 |nil=>exact⟨rfl,rfl⟩
 |cons p r ih=>
  obtain⟨a,y⟩:=p
  unfold mdel
  by_cases hk:k=a
  ·subst hk;simp[mget,mhas,h]
  ·rw[if_neg hk];simp only[mget,mhas,ih.1,ih.2,and_self]
theorem mdel_keys (m:List (κ×α))(k x:κ)(h:x∈(mdel m k).map Prod.fst):x∈m.map Prod.fst:=by
 induction m with
 |nil=>exact h
 |cons p r ih=>
  obtain⟨a,y⟩:=p
  unfold mdel at h
  by_cases hk:k=a
  ·rw[if_pos hk]at h;exact List.mem_cons_of_mem _ h
  ·rw[if_neg hk,List.map_cons]at h
   rcases List.mem_cons.1 h with h|h
   ·rw[h];exact List.mem_cons_self ..
   ·exact List.mem_cons_of_mem _ (ih h)
theorem mdel_nodup {m:List (κ×α)}(h:(m.map Prod.fst).Nodup)(k:κ):((mdel m k).map Prod.fst).Nodup∧mhas (mdel m k) k=false:=by
 induction m with
 |nil=>exact⟨List.nodup_nil,rfl⟩
 |cons p r ih=>
  obtain⟨a,y⟩:=p
  rw[List.map_cons,List.nodup_cons]at h
  unfold mdel
  by_cases hk:k=a
  ·subst hk;rw[if_pos rfl]
   refine⟨h.2,?_⟩
   cases hh:mhas r k with
   |false=>rfl
   |true=>exact absurd ((mhas_iff _ _).1 hh) h.1
  ·rw[if_neg hk,List.map_cons,List.nodup_cons]
   refine⟨⟨fun hm=>h.1 (mdel_keys r k a hm),(ih h.2).1⟩,?_⟩
   simp only[mhas,if_neg hk];exact(ih h.2).2
end
section
variable {r:Option Nat}{P:Program}{ops:Array Oper}{Q:Exit→Act→World→Prop}{a:Act}{w:World}{rest:List Oper}{n:Nat}{ds:List Deferred}{l:List (Nat×Value)}{d:Nat}{T:TypeId}{pos:String}{af:Array Edge}
variable {κ:Type}[DecidableEq κ]{enc:κ→Value}{kt et tt kt2:TypeId}{t:Ty}{agg:Bool}{F:Nat→Prop}{b:Nat}{m:List (κ×t.den)}
theorem valw0 {op:Op}{v:Value}{w':World}(hf:Fr a n ds l)(hr:(execOp a.eval ⟨none,op,T,pos,af,none⟩).run P w=.ok (.value v) w')
  (h: ∀a',Fr a' n ds l→WL r P ops Q rest a' w'):WL r P ops Q (⟨none,op,T,pos,af,none⟩::rest) a w:=
 stepw rfl hr (fun _ h=>by cases h) fun _ hK=>hK _ _ (h _ (hf.put_none v))
theorem run_mapDelete {ty:TypeId}(K:Ky P kt enc)(ht:P.underlying tt=some (.map kt et))(hm:Mt enc t agg w F b m)(k:κ)(hF: ∀b',F b'→b'≠b):
  ∃w',(Builtin.delete_ #[tt,kt2] ty #[.map (some b),enc k]).run P w=.ok (.tuple #[]) w'∧Ch [b] w w'∧w'.heap.size=w.heap.size∧Mt enc t agg w' F b (mdel m k):=by
 have hlt:=hm.lt
 obtain⟨es,⟨arr,clock,hb,h1,h4,h5⟩,hl,h3⟩:=hm
 have hk:=keys_of h1 hl h3
 have hfind:=findKey_run K k w arr (m.map Prod.fst) hk
 have hget:(getObj b).run P w=.ok (.map arr.toArray clock) w:=by simp[getObj,Sem.run,hb]
 have hlen:arr.length=m.length:=by rw[←hl,←h1,List.length_map]
 have step: ∀o,∀cs' x,t.rep w F cs' x→t.rep (w.putObj b o) F cs' x:=fun o cs' x h=>rep_to h (Ch.putObj w b o) fun b' hb' _=>⟨by simp only[List.mem_singleton];exact hF b' hb',hb'⟩
 cases hloc:loc k (m.map Prod.fst)with
 |none=>
  rw[hloc]at hfind
  refine⟨w.putObj b (.map arr.toArray clock),?_,Ch.putObj w b _,by simp,?_⟩
  ·simp only[Builtin.delete_,List.getElem?_toArray,List.getElem?_cons_zero,List.getElem?_cons_succ,Sem.run_bind,run_underlying ht,Result.andThen_ok,hget,K.check,hfind,Option.bind_none,MapC.set hb,Sem.run_pure]
  ·rw[mdel_loc,hloc]
   exact⟨es,⟨arr,clock,World.putObj_heap_same (o:=.map arr.toArray clock) hlt,h1,h4,h5⟩,hl,fun i p hp=>by obtain⟨cs,h6,h7⟩:=h3 i p hp;exact⟨cs,h6,step _ _ _ h7⟩⟩
 |some i=>
  rw[hloc]at hfind
  have hil:i<m.length:=by
   have: ∀(ks:List κ) i,loc k ks=some i→i<ks.length:=by
    intro ks
    induction ks with
    |nil=>intro i h;simp[loc]at h
    |cons x r ih=>
     intro i h
     simp only[loc]at h
     by_cases hx:k=x
     ·rw[if_pos hx]at h;injection h with h;subst h;simp
     ·rw[if_neg hx,Option.map_eq_some_iff]at h
      obtain⟨j,hj,rfl⟩:=h
      have:=ih j hj;simp;omega
   have:=this _ _ hloc;rwa[List.length_map]at this
  obtain⟨e,he⟩: ∃e,arr[i]?=some e:=⟨_,List.getElem?_eq_getElem (by omega)⟩
  have hera:(arr.toArray.eraseIdxIfInBounds i)=(arr.eraseIdx i).toArray:=by
   rw[Array.eraseIdxIfInBounds,dif_pos (by simp;omega)];simp
  refine⟨w.putObj b (.map (arr.toArray.eraseIdxIfInBounds i) clock),?_,Ch.putObj w b _,by simp,?_⟩
  ·simp only[Builtin.delete_,List.getElem?_toArray,List.getElem?_cons_zero,List.getElem?_cons_succ,Sem.run_bind,run_underlying ht,Result.andThen_ok,hget,K.check,hfind,Option.bind_some,he,Option.map_some,MapC.set hb,Sem.run_pure]
  ·rw[mdel_loc,hloc]
   refine⟨es.eraseIdx i,⟨arr.eraseIdx i,clock,?_,?_,fun e he=>h4 e (List.mem_of_mem_eraseIdx he),?_⟩,?_,fun j p hp=>?_⟩
   ·rw[←hera];exact World.putObj_heap_same (o:=.map (arr.toArray.eraseIdxIfInBounds i) clock) hlt
   ·rw[←h1,map_era]
   ·rw[map_era];exact h5.sublist (List.eraseIdx_sublist ..)
   ·rw[List.length_eraseIdx,List.length_eraseIdx,hl]
   ·rw[List.getElem?_eraseIdx]at hp
    rw[List.getElem?_eraseIdx]
    split at hp
    ·rename_i hji
     obtain⟨cs,h6,h7⟩:=h3 j p hp
     exact⟨cs,by rw[if_pos hji];exact h6,step _ _ _ h7⟩
    ·rename_i hji
     obtain⟨cs,h6,h7⟩:=h3 _ p hp
     exact⟨cs,by rw[if_neg hji];exact h6,step _ _ _ h7⟩
end
end Go.Z
namespace Go.A
open Go.RowKit Go.Z
section
variable {r:Option Nat}{P:Program}{ops:Array Oper}{Q:Exit→Act→World→Prop}{rest lst:List Oper}{C:Cx}{l:List (Nat×Value)}{H:List (Nat×Res)}{d:Nat}{op:Op}{T:TypeId}{pos:String}{af:Array Edge}
variable {κ:Type}[DecidableEq κ]{enc:κ→Value}{kt et tt kt2:TypeId}{t:Ty}{agg:Bool}{b:Nat}{m:List (κ×t.den)}
theorem AL.mdl (k:Nat)(js:List Nat){x y:Operand}(K:Ky P kt enc)(key:κ)(h:AL r P ops Q rest C l ((k,.mp κ enc t agg b (mdel m key))::ded js H))
  (hk1:hk H k=some (.mp κ enc t agg b m):=by rfl) (hx:ev l x=some (.map (some b)):=by rfl) (hy:ev l y=some (enc key):=by rfl) (ht:P.underlying tt=some (.map kt et):=by rfl) (hj:hng [k] js H=true:=by kernel_rfl):
  AL r P ops Q (⟨none,.call {callee:=.builtin .delete,args:=#[x,y],argTypes:=#[tt,kt2]},T,pos,af,none⟩::rest) C l H:=fun a w hf hh=>by
 have hm:Mt enc t agg w (Fh C H) b m:=hh.hold k _ hk1
 have hm':Mt enc t agg w (fun b=>Fh C H b∧b<w.heap.size) b m:=by
  obtain⟨es,h1,h2,h3⟩:=hm
  refine⟨es,h1,h2,fun i p hp=>?_⟩
  obtain⟨cs,h4,h5⟩:=h3 i p hp
  exact⟨cs,h4,rep_in t h5⟩
 obtain⟨w',h1,h2,h3,h4⟩:=run_mapDelete (kt2:=kt2) (ty:=T) K ht hm' key (fun b' hb' e=>hb'.1.1 k ⟨_,hk1,by rw[e];simp[Res.bl]⟩)
 refine Z.valw0 (w':=w') (v:=.tuple #[]) hf ?_ fun a' hf'=>h a' w' hf' (Hp.dd (hh.upd h2 (fun b' hb'=>⟨_,hk1,hb'⟩) (fun b' hb'=>.inl ⟨_,hk1,hb'⟩) (fun j hj=>by cases hj) fun F B hF _ _ _ _=>?_) hj)
 ·simp only[execOp,resolve,invoke,builtin,Sem.run_bind,Sem.run_pure,Result.andThen_ok,List.map_toArray,List.map_cons,List.map_nil,hf.eval hx,hf.eval hy,h1]
 ·exact h4.to (Ch.refl w') (by simp) fun b' hb' _=>⟨by simp,hF b' hb'.1 hb'.2⟩
end
section
variable {r:Option Nat}{P:Program}{ops:Array Oper}{Q:Exit→Act→World→Prop}{rest lst:List Oper}{C:Cx}{l:List (Nat×Value)}{H:List (Nat×Res)}{d:Nat}{op:Op}{T T2:TypeId}{pos pos2:String}{af af2:Array Edge}
theorem Dat.rep0 {w:World}: ∀(t:Ty) {cs:List Value} {x:t.den},Dat [] t cs x→t.rep w no cs x
 | .int _,_,_,h=>h
 | .byte,_,_,h=>h
 | .bool,_,_,h=>h
 | .str,_,_,h=>h
 | .slice e,cs,xs,h=>by
  rcases h with⟨k,h⟩|⟨h1,h2⟩
  ·cases h
  ·subst h1;subst h2;exact rep_nil e
 | .pair a b,cs,x,h=>⟨_,_,(List.take_append_drop a.size cs).symm,Dat.rep0 a h.1,Dat.rep0 b h.2⟩
end
end Go.A
end
section
set_option linter.unusedVariables false
set_option linter.unusedSimpArgs false
namespace Go.Z
open Go.RowKit
theorem r_eqp {P:Program}{a:Act}{w:World}{d:Option Tmp}{T t ty e:TypeId}{pos:String}{af:Array Edge}{gd:Option (Nat×Bool)}{x y:Operand}{A:Option Addr}(ht:P.underlying t=some (.pointer e))(hx:a.eval x=.pointer A)(hy:a.eval y=.pointer none):
  (execOp a.eval ⟨d,.binOp .eql t x y ty,T,pos,af,gd⟩).run P w=.ok (.value (.bool A.isNone)) w:=by
 have h: ∀m,(Op.equalIn (m+1) t (.pointer A) (.pointer none)).run P w=.ok A.isNone w:=fun m=>by
  cases A<;>simp[Op.equalIn,run_underlying ht]
 have h2:(Op.equal t (.pointer A) (.pointer none)).run P w=.ok A.isNone w:=h 9999
 simp[execOp,hx,hy,eqGuard,binOp,h2]
theorem r_nep {P:Program}{a:Act}{w:World}{d:Option Tmp}{T t ty e:TypeId}{pos:String}{af:Array Edge}{gd:Option (Nat×Bool)}{x y:Operand}{A:Option Addr}(ht:P.underlying t=some (.pointer e))(hx:a.eval x=.pointer A)(hy:a.eval y=.pointer none):
  (execOp a.eval ⟨d,.binOp .neq t x y ty,T,pos,af,gd⟩).run P w=.ok (.value (.bool (!A.isNone))) w:=by
 have h: ∀m,(Op.equalIn (m+1) t (.pointer A) (.pointer none)).run P w=.ok A.isNone w:=fun m=>by
  cases A<;>simp[Op.equalIn,run_underlying ht]
 have h2:(Op.equal t (.pointer A) (.pointer none)).run P w=.ok A.isNone w:=h 9999
 simp[execOp,hx,hy,eqGuard,binOp,h2]
section
variable {r:Option Nat}{P:Program}{ops:Array Oper}{Q:Exit→Act→World→Prop}{a:Act}{w:World}{rest:List Oper}{n:Nat}{ds:List Deferred}{l:List (Nat×Value)}{d:Nat}{T:TypeId}{pos:String}{af:Array Edge}
theorem made_get {zs:List Value}{n q:Nat}(hq:q<n)(h0:0<zs.length):(madeCells zs.toArray n).toList[q]?=zs[q%zs.length]?:=by
 have hm:=Nat.mod_lt q h0
 simp[madeCells,hq,hm]
theorem st_makeN {t:Ty}{tt e:TypeId}{x y:Operand}{i:TypeInfo}{z:Value}{zs:List Value}{bytes u:Nat}{k1 k2:IntKind}{p q:Int}(hf:Fr a n ds l)(hd:Nat.ble (d+1) n=true)(ht:P.underlying tt=some (.slice e))(hi:P.info? e=some i)(hz:i.zero=some z)(hsize:i.size=t.size)(hby:i.bytes=bytes)(hzs:z.cells=zs.toArray)(hts:zs.length=t.size)
  (hx:ev l x=some (.int k1 p)) (hy:ev l y=some (.int k2 q)) (hp:p=(u:Int)) (hq:q=(u:Int)) (hu:bytes*u≤140737488355328) (hm:u≤maxLen) (z0:t.den) (hz0:t.rep w no zs z0) (h1: ∀v∈zs,v.oneCell'=true)
  (h: ∀g w' a',g=w.heap.size→w'.heap.size=g+1→Own t e g w' no (some ⟨g,0,none⟩) u (List.replicate u z0)→Ch [] w w'→Fr a' n ds ((d,.slice (some ⟨g,0,none⟩) u u)::l)→WL r P ops Q rest a' w'):
  WL r P ops Q (⟨some d,.makeSlice tt x y,T,pos,af,none⟩::rest) a w:=by
 subst hp;subst hq
 have hpos:=pos_size t
 have hrun:=run_make (P:=P) w tt e i z ht hi hz k1 k2 (u:Int) (u:Int) (by omega) (by omega) (by rw[hby,←Int.natCast_mul];omega) (by rw[show maxLen=9223372036854775807 from rfl]at hm;omega)
 rw[hzs,hsize,Int.toNat_natCast]at hrun
 obtain⟨L,hL⟩: ∃L,L=(madeCells zs.toArray (u*t.size)).toList:=⟨_,rfl⟩
 have hLl:L.length=u*t.size:=by rw[hL];simp[size_madeCells]
 have hLq: ∀q,q<u*t.size→L[q]?=zs[q%t.size]?:=fun q hq=>by rw[hL,made_get hq (by omega),hts]
 have hLa:madeCells zs.toArray (u*t.size)=L.toArray:=by rw[hL]
 rw[hLa]at hrun
 refine valw (w':=w.alloc (.cells L.toArray e)) (v:=.slice (some ⟨w.heap.size,0,none⟩) u u) hf hd ?_ fun a' hf'=>h _ _ a' rfl (by simp) ?_ (Ch.alloc w _) hf'
 ·simp only[execOp,hf.eval hx,hf.eval hy,Sem.run_bind,hrun,Result.andThen_ok,Sem.run_pure]
 ·have:=Own.made (t:=t) (F:=no) (B:=w.heap.size) (xs:=List.replicate u z0) (Blk.new w e L) (Nat.le_refl _) (by rw[hLl,List.length_replicate]) (by simpa using hm) (fun v hv=>by
   obtain⟨q,hq⟩:=List.mem_iff_getElem?.1 hv
   have hql:=(List.getElem?_eq_some_iff.1 hq).1
   rw[hLq q (by omega)]at hq
   exact h1 v (List.mem_of_getElem? hq)) fun j x hx=>by
   have hj:=(List.getElem?_eq_some_iff.1 hx).1
   rw[List.length_replicate]at hj
   have hx0:x=z0:=by
    rw[List.getElem?_replicate,if_pos hj]at hx;injection hx with hx;exact hx.symm
   subst hx0
   have his:j*t.size+t.size≤u*t.size:=by
    have:(j+1)*t.size≤u*t.size:=Nat.mul_le_mul_right _ hj
    rwa[Nat.add_mul,Nat.one_mul]at this
   have:(L.drop (j*t.size)).take t.size=zs:=by
    refine List.ext_getElem? fun q=>?_
    rw[seg_get]
    split
    ·rename_i hq
     rw[hLq _ (by omega),Nat.mul_comm j,Nat.mul_add_mod,Nat.mod_eq_of_lt hq]
    ·rw[List.getElem?_eq_none (by omega)]
   rw[this]
   exact rep_ch0 (Ch.alloc w _) t hz0
  rwa[List.length_replicate]at this
end
theorem run_copyN {P:Program}(w:World)(dT sT ty elem:TypeId)(g o dLen dCap:Nat)(a:Addr)(sLen sCap m:Nat)(cur:Array Value)(t:TypeId)(cs:List Value)
  (hu:P.underlying dT=some (.slice elem)) (hs:(P.info? elem).map (·.size)=some m)
  (hg:w.heap[g]?=some (.cells cur t (0,0))) (hn:cs.length=Nat.min sLen dLen*m)
  (hsrc: ∀j v,cs[j]?=some v→w.cell? (a.add j)=some v) (hfit:o+cs.length≤cur.size) (h1: ∀v∈cs,v.oneCell'=true):
  (Builtin.copy_ #[dT,sT] ty #[.slice (some ⟨g,o,none⟩) dLen dCap,.slice (some a) sLen sCap]).run P w=
   .ok (goInt (Nat.min sLen dLen)) (w.setRow g (cur.toList.take o++cs++cur.toList.drop (o+cs.length)).toArray):=by
 have hl:=run_loadCells_list (P:=P) w a cs hsrc
 have hst:=run_storeCells_at P g o t cs 0 cur w hg (by simpa using hfit) h1
 cases hq:P.info? elem with
 |none=>simp[hq]at hs
 |some i=>
  have hi:i.size=m:=by simpa[hq] using hs
  simp[Builtin.copy_,run_underlying hu,Builtin.lenOf,Builtin.firstCells,sizeOf,typeInfo,hq,hi,←hn,hl,hst]
theorem run_copy0 {P:Program}(w:World)(dT sT ty elem:TypeId)(d a:Option Addr)(dCap sCap m:Nat)(hu:P.underlying dT=some (.slice elem))(hs:(P.info? elem).map (·.size)=some m):
  (Builtin.copy_ #[dT,sT] ty #[.slice d 0 dCap,.slice a 0 sCap]).run P w=.ok (goInt 0) w:=by
 cases hq:P.info? elem with
 |none=>simp[hq]at hs
 |some i=>
  have hl: ∀(x:Addr),(loadCells x 0).run P w=.ok #[] w:=fun x=>by simpa using run_loadCells_list (P:=P) w x [] (by simp)
  cases d<;>cases a<;>simp[Builtin.copy_,run_underlying hu,Builtin.lenOf,Builtin.firstCells,sizeOf,typeInfo,hq,storeCells,hl]
end Go.Z
namespace Go.A
open Go.RowKit Go.Z
def pn {α:Type}(A:Option Addr)(xs:List α):Prop:=A.isNone=xs.isEmpty∧xs.length≤1
theorem pn0 {α:Type}:pn none ([]:List α):=⟨rfl,by simp⟩
theorem pn1 {α:Type}(a:Addr)(x:α):pn (some a) [x]:=⟨rfl,by simp⟩
section
variable {P:Program}{a:Act}{w:World}{d:Option Tmp}{T tt ty e:TypeId}{pos:String}{af:Array Edge}{n:Nat}{ds:List Deferred}{l:List (Nat×Value)}{x y:Operand}{A:Option Addr}
theorem r_pn {α:Type}{xs:List α}(hp:pn A xs)(hf:Fr a n ds l)(hx:ev l x=some (.pointer A):=by rfl)(hy:ev l y=some (.pointer none):=by rfl)(ht:P.underlying tt=some (.pointer e):=by rfl):
  (execOp a.eval ⟨d,.binOp .eql tt x y ty,T,pos,af,none⟩).run P w=.ok (.value (.bool xs.isEmpty)) w:=by
 rw[←hp.1];exact Z.r_eqp ht (hf.eval hx) (hf.eval hy)
theorem r_pnn {α:Type}{xs:List α}(hp:pn A xs)(hf:Fr a n ds l)(hx:ev l x=some (.pointer A):=by rfl)(hy:ev l y=some (.pointer none):=by rfl)(ht:P.underlying tt=some (.pointer e):=by rfl):
  (execOp a.eval ⟨d,.binOp .neq tt x y ty,T,pos,af,none⟩).run P w=.ok (.value (.bool (!xs.isEmpty))) w:=by
 rw[←hp.1];exact Z.r_nep ht (hf.eval hx) (hf.eval hy)
end
section
variable {C:Cx}{l:List (Nat×Value)}{H:List (Nat×Res)}{X:Act→World→Prop}
theorem opn (k kn:Nat){t:Ty}{e:TypeId}{A:Option Addr}{c:Nat}{xs:List t.den}{v:t.den}(hi:ix xs 0=some v)(h:t.ok v→tele (lv t) fun ps=>∀g,A=some ⟨g,0,none⟩→∀a w,Fr a C.n C.ds l→Hp C (hcat (kx (kn+1) (rs t v ps)) ((kn,.el (some k) g 0 (cl t v ps))::H)) w→X a w)
  (hk1:hk H k=some (.own t e A c xs):=by rfl) (hn:nok H kn (1+lv t)=true:=by kernel_rfl): ∀a w,Fr a C.n C.ds l→Hp C H w→X a w:=fun a w hf hh=>by
 obtain⟨k',hk0,hv⟩:=ix_some hi
 obtain rfl:k'=0:=by omega
 obtain⟨G,hR,hG⟩:=rowO hk1 w hh
 obtain⟨b,o,es,hA,hb,hbl,hc,hr⟩:=hR.at hv
 have ho:o=0:=by
  obtain⟨cells,hrow,_⟩:Own t e 0 w (Fh C H) A c xs:=hh.hold k _ hk1
  rcases hrow.2 with⟨hv,_⟩|⟨g,cap,cur,hv,_⟩
  ·injection hv with hA' _ _;rw[hA]at hA';cases hA'
  ·injection hv with hA' _ _;rw[hA]at hA';injection hA' with hA';injection hA' with _ h2 _
 subst ho
 rw[Nat.zero_add]at hc
 obtain⟨ps,hl,rfl,hrs⟩:=rep_cl (B:=Bk H) t (rep_in t hr)
 have hnk:hk H kn=none:=nok_none hn (Nat.le_refl _) (by omega)
 have h1:Hp C ((kn,.el (some k) b (0*t.size) (cl t v ps))::H) w:=hh.add hnk rfl (fun j hj r hr=>by injection hj with hj;subst hj;rw[hk1]at hr;injection hr with hr;subst hr;rfl) ⟨hc,hbl,hG b hb⟩
 have hn2:nok H (kn+1) (rs t v ps).length=true:=by
  rw[rs_len t v ps hl]
  rw[Nat.add_comm 1]at hn
  simp only[nok,Bool.and_eq_true]at hn;exact hn.2
 have hnn: ∀n k2,nok H k2 n=true→(∀j,k2≤j→j<k2+n→j≠kn)→nok ((kn,.el (some k) b (0*t.size) (cl t v ps))::H) k2 n=true:=by
  intro n
  induction n with
  |zero=>intro _ _ _;rfl
  |succ n ih=>
   intro k2 h2 h3
   simp only[nok,Bool.and_eq_true]at h2 ⊢
   refine⟨?_,ih (k2+1) h2.2 fun j h4 h5=>h3 j (by omega) (by omega)⟩
   rw[hk_cons,if_neg (Ne.symm (h3 k2 (Nat.le_refl _) (by omega)))];exact h2.1
 have h2:Hp C (hcat (kx (kn+1) (rs t v ps)) ((kn,.el (some k) b (0*t.size) (cl t v ps))::H)) w:=by
  refine h1.adds (hnn _ _ hn2 fun j h4 _=>by omega) fun r2 h4=>?_
  obtain⟨h5,h6,h7⟩:=hrs r2 h4
  have hbk: ∀j b',Bk ((kn,.el (some k) b (0*t.size) (cl t v ps))::H) j b'↔Bk H j b':=fun j b'=>by
   by_cases hj:j=kn
   ·subst hj
    rw[Bk.cons_eq]
    exact⟨fun h=>by simp[Res.bl]at h,fun⟨_,h8,_⟩=>by rw[hnk]at h8;cases h8⟩
   ·exact Bk.cons_ne hj
  exact⟨h6,h7,Res.to h5 (S:=[]) (Ch.refl w) (fun b' hF _=>⟨by simp,⟨fun j hj=>hF.1.1 j ((hbk j b').1 hj),hF.1.2⟩,hF.2⟩) (fun b' hB _=>⟨by simp,fun j hj=>hB j ((hbk j b').1 hj)⟩) (fun i b' _ hB=>⟨by simp,(hbk i b').2 hB⟩) (by simp)⟩
 rw[Nat.zero_mul]at h2
 exact tele_at (h (rep_ok t hr)) ps hl b hA a w hf h2
theorem bto (k:Nat)(js:List Nat){t:Ty}{g:Nat}{T:TypeId}{cs:List Value}(x:t.den)(hD:Dat H t cs x)(h: ∀a w,Fr a C.n C.ds l→Hp C ((k,.own t T (some ⟨g,0,none⟩) 1 [x])::ded js H) w→X a w)
  (hk1:hk H k=some (.blk g T cs):=by rfl) (h1:cs.all (fun u=>u.oneCell')=true:=by rfl) (hl:cs.length=t.size:=by rfl) (hj:hng [k] js H=true:=by kernel_rfl): ∀a w,Fr a C.n C.ds l→Hp C H w→X a w:=fun a w hf hh=>by
 refine h a w hf (Hp.dd (hh.upd (S:=[]) (Ch.refl w) (by simp) (fun b hb=>.inl ⟨_,hk1,hb⟩) (fun j hj=>by cases hj) fun F B q1 q2 _ _ _=>?_) hj)
 have hB:Blk w g T cs:=hh.hold k _ hk1
 have hr:=Dat.rep hh t hD
 refine⟨cs,⟨by rw[List.length_singleton,Nat.one_mul];exact hl,.inr ⟨g,1,cs.toArray,rfl,Nat.zero_le _,hB,by simp,by simp[maxLen],by simp[hl],by simp[←hl]⟩⟩,fun u hu=>List.all_eq_true.1 h1 u hu,fun i y hi=>?_⟩
 have h0:i=0:=by have:=(List.getElem?_eq_some_iff.1 hi).1;simpa using this
 subst h0
 simp only[List.getElem?_cons_zero,Option.some.injEq]at hi
 subst hi
 rw[Nat.zero_mul,List.drop_zero,←hl,List.take_length]
 exact rep_as hr fun b hb hlt=>q1 b hb hlt
end
section
variable {r:Option Nat}{P:Program}{ops:Array Oper}{Q:Exit→Act→World→Prop}{rest lst:List Oper}{C:Cx}{l:List (Nat×Value)}{H:List (Nat×Res)}{d:Nat}{T:TypeId}{pos:String}{af:Array Edge}
theorem AL.mkn (k:Nat){t:Ty}{tt e:TypeId}{x y:Operand}{i:TypeInfo}{z:Value}(zs:List Value){bytes m u:Nat}{k1 k2:IntKind}{p q:Int}(z0:t.den)(hu:bytes*u≤140737488355328)(hinf:P.info? e=some i∧i.zero=some z∧i.size=m∧i.bytes=bytes∧z.cells.size=m)
  (h: ∀g,AL r P ops Q rest C ((d,.slice (some ⟨g,0,none⟩) u u)::l) ((k,.own t e (some ⟨g,0,none⟩) u (List.replicate u z0))::H))
  (hx:ev l x=some (.int k1 p)) (hy:ev l y=some (.int k2 q)) (hp:p=(u:Int)) (hq:q=(u:Int)) (hz0:Dat [] t zs z0) (hbp:Nat.ble 1 bytes=true:=by rfl) (hm:m=t.size:=by rfl) (hzc:z.cells=zs.toArray:=by rfl) (hts:zs.length=t.size:=by rfl) (h1:zs.all (fun v=>v.oneCell')=true:=by rfl)
  (ht:P.underlying tt=some (.slice e):=by rfl) (hd:Nat.ble (d+1) C.n=true:=by rfl) (hn:hk H k=none:=by kernel_rfl):AL r P ops Q (⟨some d,.makeSlice tt x y,T,pos,af,none⟩::rest) C l H:=fun a w hf hh=>by
 obtain⟨hi,hz,hsize,hby,hzs⟩:=hinf
 refine Z.st_makeN hf hd ht hi hz (hsize.trans hm) hby hzc hts hx hy hp hq hu ?_ z0 (Dat.rep0 t hz0) (fun v hv=>List.all_eq_true.1 h1 v hv) fun g w' a' hg hs hO hch hf'=>h g a' w' hf' (hh.new hn hch (fun b hb=>?_) (fun j hj=>by cases hj) fun F B _ _ _=>?_)
 ·have:=Nat.le_of_ble_eq_true hbp
  have h2:u≤bytes*u:=Nat.le_mul_of_pos_left _ this
  simp only[maxLen];omega
 ·simp only[Res.bl,obl,List.mem_singleton]at hb;omega
 ·exact(hO.base (Nat.zero_le _)).more fun _ hb=>hb.elim
end
section
variable {r:Option Nat}{P:Program}{ops:Array Oper}{Q:Exit→Act→World→Prop}{rest lst:List Oper}{C:Cx}{l:List (Nat×Value)}{H:List (Nat×Res)}{d:Nat}{T:TypeId}{pos:String}{af:Array Edge}
theorem AL.cpy (k:Nat)(js:List Nat){t:Ty}{dT sT e e2:TypeId}{x y:Operand}{A A2:Option Addr}{c c2 n1 n2:Nat}{xs ys:List t.den}{kp':(Nat→Prop)→Prop}(hrow: ∀w,Hp C H w→∃G:Nat→Prop,Row t w (Fh C H) G A2 c2 ys∧kp' G)(hlen:xs.length=ys.length)
  (h:AL r P ops Q rest C ((d,.int .i64 ((ys.length:Nat):Int))::l) ((k,.own t e A c ys)::ded js H)) (hs:(P.info? e2).map (·.size)=some t.size)
  (hk1:hk H k=some (.own t e A c xs):=by rfl) (hx:ev l x=some (.slice A n1 c):=by rfl) (hy:ev l y=some (.slice A2 n2 c2):=by rfl) (hn1:n1=xs.length:=by rfl) (hn2:n2=ys.length:=by rfl)
  (ht:P.underlying dT=some (.slice e2):=by rfl) (hj:hng [k] js H=true:=by kernel_rfl) (hd:Nat.ble (d+1) C.n=true:=by rfl):AL r P ops Q (⟨some d,.call {callee:=.builtin .copy,args:=#[x,y],argTypes:=#[dT,sT]},T,pos,af,none⟩::rest) C l H:=fun a w hf hh=>by
 subst hn1;subst hn2
 have hO:Own t e 0 w (Fh C H) A c xs:=hh.hold k _ hk1
 obtain⟨G,hR,_⟩:=hrow w hh
 obtain⟨cells0,hrw,h1c,h2⟩:=hO
 have hpos:=pos_size t
 rcases hrw.2 with⟨hv0,hn⟩|⟨g,cap,cur,hv0,hb,hg,hnc,hcm,hcs,htake⟩
 ·have hxs:xs=[]:=List.eq_nil_of_length_eq_zero hn
  have hys:ys=[]:=List.eq_nil_of_length_eq_zero (by omega)
  subst hxs;subst hys
  have hrun:=Z.run_copy0 (P:=P) w dT sT T e2 A A2 c c2 _ ht hs
  refine Z.valw (w':=w) (v:=goInt 0) hf hd ?_ fun a' hf'=>h a' w hf' (Hp.dd (hh.upd (S:=[]) (Ch.refl w) (by simp) (fun b hb=>.inl ⟨_,hk1,hb⟩) (fun j hj=>by cases hj) fun F B q1 _ _ _ _=>?_) hj)
  ·simp only[execOp,resolve,invoke,builtin,Sem.run_bind,Sem.run_pure,Result.andThen_ok,List.map_toArray,List.map_cons,List.map_nil,hf.eval hx,hf.eval hy,List.length_nil,hrun]
  ·exact⟨cells0,hrw,h1c,fun i x hi=>by cases hi⟩
 ·injection hv0 with hA _ hc
  subst hA;subst hc
  by_cases h0:ys.length=0
  ·have hys:ys=[]:=List.eq_nil_of_length_eq_zero h0
   have hxs:xs=[]:=List.eq_nil_of_length_eq_zero (by omega)
   subst hxs;subst hys
   have hrun:=Z.run_copy0 (P:=P) w dT sT T e2 (some ⟨g,0,none⟩) A2 c c2 _ ht hs
   refine Z.valw (w':=w) (v:=goInt 0) hf hd ?_ fun a' hf'=>h a' w hf' (Hp.dd (hh.upd (S:=[]) (Ch.refl w) (by simp) (fun b hb=>.inl ⟨_,hk1,hb⟩) (fun j hj=>by cases hj) fun F B q1 _ _ _ _=>?_) hj)
   ·simp only[execOp,resolve,invoke,builtin,Sem.run_bind,Sem.run_pure,Result.andThen_ok,List.map_toArray,List.map_cons,List.map_nil,hf.eval hx,hf.eval hy,List.length_nil,hrun]
   ·exact⟨cells0,hrw,h1c,fun i x hi=>by cases hi⟩
  ·obtain⟨cells,d1,d2,d3,d4⟩:=hR.cells
   obtain⟨ad,rfl,hcell⟩: ∃ad,A2=some ad∧∀j u,cells[j]?=some u→w.cell? (ad.add j)=some u:=by
    rcases d3 with d3|⟨ad,e1,e2⟩
    ·exact absurd d3 h0
    ·exact⟨ad,e1,e2⟩
   have hmin:Nat.min ys.length xs.length=ys.length:=by rw[hlen];exact Nat.min_self _
   have hfit:0+cells.length≤cur.size:=by rw[d1,hcs,Nat.zero_add,←hlen];exact Nat.mul_le_mul_right _ hnc
   have hrun:=Z.run_copyN (P:=P) w dT sT T e2 g 0 xs.length c ad ys.length c2 t.size cur e cells ht hs hg (by rw[hmin];exact d1) hcell hfit d2
   rw[List.take_zero,List.nil_append,Nat.zero_add]at hrun
   obtain⟨cs',hcs'⟩: ∃cs',cs'=cells++cur.toList.drop cells.length:=⟨_,rfl⟩
   rw[←hcs']at hrun
   have hlen':cs'.length=cur.size:=by rw[hcs'];simp;omega
   have hch:Ch [g] w (w.setRow g cs'.toArray):=Ch.setRow w g _
   have hBlk:Blk w g e cur.toList:=by unfold Blk;simpa using hg
   have hB2:(w.setRow g cs'.toArray).heap[g]?=some (.cells cs'.toArray e (0,0)):=by
    have:=hBlk.setRow (cs':=cs')
    unfold Blk at this;exact this
   refine Z.valw (w':=w.setRow g cs'.toArray) (v:=goInt ys.length) hf hd ?_ fun a' hf'=>h a' _ hf' (Hp.dd (hh.upd (S:=[g]) hch (fun b hb=>⟨_,hk1,by simpa[Res.bl,obl] using hb⟩) (fun b hb=>.inl ⟨_,hk1,hb⟩) (fun j hj=>by cases hj) fun F B q1 _ _ _ _=>?_) hj)
   ·simp only[execOp,resolve,invoke,builtin,Sem.run_bind,Sem.run_pure,Result.andThen_ok,List.map_toArray,List.map_cons,List.map_nil,hf.eval hx,hf.eval hy,hrun,hmin]
   ·refine⟨cells,⟨d1,.inr ⟨g,c,cs'.toArray,rfl,hb,hB2,by omega,hcm,by rw[List.size_toArray,hlen',hcs],?_⟩⟩,d2,fun i x hi=>?_⟩
    ·rw[←d1,hcs'];simp
    ·refine rep_to (rep_in t (d4 i x hi)) hch fun b hb _=>⟨?_,q1 b hb.1 hb.2⟩
     rw[List.mem_singleton]
     intro e
     exact hb.1.1 k ⟨_,hk1,by simp[Res.bl,obl,e]⟩
end
theorem gd_sw {α:Type}{p q:Prop}[Decidable p][Decidable q]{x:Option α}{y:α}(h:gd p (gd q x)=some y):gd q (gd p x)=some y:=by
 obtain⟨h1,h⟩:=gd_some h
 obtain⟨h2,h⟩:=gd_some h
 rw[gd_pos h2,gd_pos h1,h]
end Go.A
end
section
namespace Go.A
open Go.RowKit Go.Z
set_option linter.unusedVariables false
theorem z0:h6 0:=hasl .i64 (0) rfl
theorem ck{b:Bool}{p:Prop}(h:p)(e:b=true:=by kernel_rfl):b=true∧p:=⟨e,h⟩
theorem b{α β:Type}{x:Option α}{f:α→Option β}{y:β}(h:x.bind f=some y):∃v,x=some v∧f v=some y:=Option.bind_eq_some_iff.1 h
theorem g{α:Type}{p:Prop}[Decidable p]{x:Option α}{y:α}(h:gd p x=some y):p∧x=some y:=gd_some h
section
variable{r:Option Nat}{P:Program}{ops:Array Oper}{Q:Exit→Act→World→Prop}{lst rest:List Oper}{C:Cx}{l:List (Nat×Value)}{H:List (Nat×Res)}{Y:Exit→Act→World→Prop}{K:List Kx}
theorem n(k:Nat)(nl:List (Nat×Value))(h:AL r P ops Q (lst.drop k) C (cat nl l) H)
    (hq:((qs P ⟨knb H [],kne H []⟩ C.n ops (List.replicate k .n) lst (Z.q0 l)).bind (qfin l (nl.map Prod.fst)))=some ([],nl):=by kernel_rfl)
    (he:(qs P ⟨knb H [],kne H []⟩ C.n ops (List.replicate k .n) lst (Z.q0 l)).map (fun s=>s.q.map Prod.fst)=(qs P ⟨knb H [],kne H []⟩ C.n ops (List.replicate k .n) lst (Z.q0 l)).map (fun s=>s.q.map Prod.snd):=by kernel_rfl):AL r P ops Q lst C l H:=q0 [] [] (List.replicate k .n) nl (by rw[List.length_replicate];exact h) hq he
theorem m(k:Nat)(cs:List Prop)(nl:List (Nat×Value))(hc:conj cs)(h:AL r P ops Q (lst.drop k) C (cat nl l) H)
    (hq:((qs P ⟨knb H [],kne H []⟩ C.n ops (List.replicate k .n) lst (Z.q0 l)).bind (qfin l (nl.map Prod.fst)))=some (cs,nl):=by kernel_rfl)
    (he:(qs P ⟨knb H [],kne H []⟩ C.n ops (List.replicate k .n) lst (Z.q0 l)).map (fun s=>s.q.map Prod.fst)=(qs P ⟨knb H [],kne H []⟩ C.n ops (List.replicate k .n) lst (Z.q0 l)).map (fun s=>s.q.map Prod.snd):=by kernel_rfl):AL r P ops Q lst C l H:=q [] [] (List.replicate k .n) cs nl hc (by rw[List.length_replicate];exact h) hq he
theorem c{ρ:Type}{A B R:Option ρ}{c:Operand}{x y:Code}{p:Prop}[Decidable p](hF:(if p then A else B)=R)(ht:p→A=R→AX r P Y K x C l H)(he:¬p→B=R→AX r P Y K y C l H)(hc:ev l c=some (.bool (decide p)):=by rfl):AX r P Y K (.cond c x y) C l H:=AX.cnd hc hF ht he
theorem d{ρ:Type}{A B R:Option ρ}{c:Operand}{x y:Code}{b:Bool}(hF:(if b=true then A else B)=R)(ht:b=true→A=R→AX r P Y K x C l H)(he:b=false→B=R→AX r P Y K y C l H)(hc:ev l c=some (.bool b):=by rfl):AX r P Y K (.cond c x y) C l H:=AX.cnb hc hF ht he
theorem v{ρ σ:Type}{d:Tmp}{T:TypeId}{pos:String}{af:Array Edge}(n:Nat)(js:List Nat){f:FuncId}{c:Operand}{xs:List Operand}{vs:List Value}{ts:Array TypeId}{H0:List (Nat×Res)}{ms:List (Nat×Nat)}{ls:List Nat}{S:List Nat}{R:ρ→Value→List (Nat×Res)→Prop}{X:Option ρ}{fF:ρ→Option σ}{yF:σ}
    (hF:X.bind fF=some yF)(hct:∀x,X=some x→Ct P f vs H0 S (R x))(hs:Sub H H0 ms ls)
    (h:∀x,X=some x→fF x=some yF→∀v H',R x v H'→(outs H'&&frs n H H')=true∧AL r P ops Q rest C ((d,v)::l) (hcat (sft n H') (kld js H (ms.map (·.2)))))
    (hcf:∀args w,(callFunc f args).run P w=.ok (.enter f args) w:=by intros;kernel_rfl)
    (hc:ev l c=some (.func (.func f) #[] #[]):=by rfl)(hx:evs l xs=some vs:=by rfl)(hS:blks H ms=S:=by rfl)(h1:nod (H0.map (·.1))=true:=by rfl)(h2:nod (ms.map (·.2))=true:=by rfl)(h3:ls.all (fun k=>!(ms.map (·.2)).any (Nat.beq k))=true:=by rfl)(hd:Nat.ble (d+1) C.n=true:=by rfl)(hj:hng (ms.map (·.2)) js H=true:=by kernel_rfl):
    AL r P ops Q (⟨some d,.call {callee:=.value c,args:=xs.toArray,argTypes:=ts},T,pos,af,none⟩::rest) C l H:=by
 obtain⟨x,e,hF⟩:=bd_some hF
 exact AL.call n js (first:=[]) (cap:=[]) hcf (hct x e) hs (h x e hF) hc hx (by rw[List.append_nil];rfl) hS h1 h2 h3 hd hj
end
end Go.A
end
section
set_option linter.unusedVariables false
set_option linter.unusedSimpArgs false
set_option maxRecDepth 20000
set_option maxHeartbeats 8000000
set_option synthInstance.maxSize 1000000
set_option synthInstance.maxHeartbeats 400000
namespace Go.Proofs.YtfdfcaiiengdfaaGreatDoor
open Go.RowKit
abbrev l2a:List Value:=[A.i 0,A.i 0,.slice none 0 0,A.i 0,A.i 0,.string (ByteArray.mk #[]),.string (ByteArray.mk #[]),A.i 0,A.i 0]
abbrev l2b:List Nat:=[0,1,2,3,4,5,3600,6676,6677,6678]
abbrev l2c:List Value:=[A.i 0,A.i 0,A.i 0,A.i 0,A.i 0,A.i 0,A.i 0,A.i 0]
abbrev l2d:List Nat:=[0,1,2,3,4,5,6676,6677,6678,7701]
abbrev l2e:List Nat:=[0,1,2,3,4,5,6]
abbrev l2f:List Nat:=[0,1,2,3,138,139,140,141]
abbrev l2g:List Nat:=[0,1,2,3,4,64,65,72]
abbrev l2h:List Nat:=[0,1,2,3,4,64,65]
abbrev l2i:List Nat:=[0,1,2,3,4,5,6,7,8,588]
abbrev l2j:List Nat:=[0,1,2,3,138,139,140]
abbrev l2k:List Nat:=[0,1,2,3,4,5,6,7]
abbrev l2l:List Nat:=[0,1,3,4,5,6,112,113]
abbrev l2m:List Nat:=[0,1,2,3,4,5,3600,6676,6677,6678,8073]
abbrev l2n:List Nat:=[0,1,2,3,4,5,6,2908,2909]
abbrev l2o:List Value:=[A.i 0]
abbrev l2p:List Nat:=[0,1,2,3,4,5]
abbrev l2q:List Value:=[A.i 0,A.i 0]
variable(A0_ A1_ A2_ A3_ A4_ A5_ A6_ A7_ A8_ A9_ A10_ A11_ A12_ A13_ A14_ A15_ A16_ A17_ A18_ A19_ A21_ A24_ A26_ A28_:Option Addr)(b0_ g0_ b1_ c1_ c2_ g2_ c3_ b4_ c4_ b5_ c5_ b6_ c6_ c7_ c8_ c9_ c10_ g10_ c11_ c12_ c13_ c14_ c15_ c16_ c17_ c18_ c19_ c20_ c22_ c25_ c27_ c29_:Nat)
def F.aT (a0:Int):Option Bool:=some (bif decide (a0=1)then true else decide (a0=15))
theorem o_g (a0:Int)(h0_:A.h6 a0)(r:Bool)(hF:F.aT a0=some r):
    A.Ct Tryz.prog 79 [A.i a0] [] [] (fun v H'=>v=.bool r∧H'=[]):=by
 refine A.Ct.enter Tryz.func79 rfl Tryz.ntmps79 rfl fun w0 F0=>?_;rw[F.aT]at hF;refine A.xl 1 ?_;refine A.n 1 [] (A.dl 2 ?_);refine A.q0 [] [] [.n,.n,.n,.sy .n,.sy .n,.pk,.n] [(2,.bool (bif decide (a0=1)then true else decide (a0=15)))] (A.dx 1 ?_);obtain rfl:=A.si hF;exact A.rt1 [] ⟨rfl,rfl⟩
def F.d1 (a0:Int):Option Int:=if(bif decide (a0<1)then true else decide ((16:Int)<a0))=true then(some (-1))else(if a0=1 then(some 0)else(if(bif decide (a0=5)then true else decide (a0=9))=true then(some 2)else(some 1)))
theorem o_aG (a0:Int)(h0_:A.h6 a0)(r:Int)(hF:F.d1 a0=some r):
    A.Ct Tryz.prog 105 [A.i a0] [] [] (fun v H'=>v=A.i r∧H'=[]∧A.h6 r):=by
 refine A.Ct.enter Tryz.func105 rfl Tryz.ntmps105 rfl fun w0 F0=>?_;rw[F.d1]at hF;refine A.xl 1 ?_;refine A.n 1 [] (A.dl 4 ?_);refine A.q0 [] [] [.n,.n,.n,.sy .n,.sy .n,.pk,.n] [(3,.bool (bif decide (a0<1)then true else decide ((16:Int)<a0)))] (A.dx 1 ?_);refine A.d hF ?_ ?_<;>intro hb hF
 ·refine A.xl 1 ?_;refine A.n 1 [(2,A.i (-1))] (A.dx 1 ?_);obtain rfl:=A.si hF;exact A.rt1 [] ⟨rfl,rfl,(A.hasl .i64 (-1) rfl)⟩
 refine A.xl 1 ?_;refine A.n 3 [(10,.bool (decide (a0=1)))] (A.dx 1 ?_);refine A.c hF ?_ ?_<;>intro hb hF
 ·refine A.xl 1 ?_;refine A.n 1 [(2,A.i 0)] (A.dx 1 ?_);obtain rfl:=A.si hF;exact A.rt1 [] ⟨rfl,rfl,A.z0⟩
 refine A.xl 1 ?_;refine A.q0 [] [] [.n,.n,.n,.sy .n,.sy .n,.pk,.n] [(13,.bool (bif decide (a0=5)then true else decide (a0=9)))] (A.dx 1 ?_);refine A.d hF ?_ ?_<;>intro hb hF
 ·refine A.xl 1 ?_;refine A.n 1 [(2,A.i 2)] (A.dx 1 ?_);obtain rfl:=A.si hF;exact A.rt1 [] ⟨rfl,rfl,(A.hasl .i64 (2) rfl)⟩
 refine A.xl 4 ?_;refine A.n 1 [(2,A.i 1)] (A.dx 1 ?_);obtain rfl:=A.si hF;exact A.rt1 [] ⟨rfl,rfl,(A.hasl .i64 (1) rfl)⟩
def F.aq (a0:ByteArray):Nat→Nat→Option Bool
 |0,_=>none
 |f+1,p2=>if p2<a0.size then(if(bif decide ((97:Int)≤((Utf8.decode a0 p2).1:Int))then decide (((Utf8.decode a0 p2).1:Int)≤122)else false)=true then((F.aq a0 f) (p2+(Utf8.decode a0 p2).2))else(if(!(bif decide ((65:Int)≤((Utf8.decode a0 p2).1:Int))then decide (((Utf8.decode a0 p2).1:Int)≤90)else false))=true then(if(bif bif decide ((p2:Int)=0)then true else decide (((Utf8.decode a0 p2).1:Int)<48)then true else decide ((57:Int)<((Utf8.decode a0 p2).1:Int)))=true then(some false)else((F.aq a0 f) (p2+(Utf8.decode a0 p2).2)))else((F.aq a0 f) (p2+(Utf8.decode a0 p2).2))))else(some (bif decide (a0≠(ByteArray.mk #[]))then decide ((a0.size:Int)≤16)else false))
def F.bY (a0:ByteArray):Option Bool:=F.aq a0 A.FU 0
theorem o_l (a0:ByteArray)(h0_:a0.size≤maxLen)(r:Bool)(hF:F.bY a0=some r):
    A.Ct Tryz.prog 106 [.string a0] [] [] (fun v H'=>v=.bool r∧H'=[]):=by
 refine A.Ct.enter Tryz.func106 rfl Tryz.ntmps106 rfl fun w0 F0=>?_;rw[F.bY]at hF;refine A.xl 1 ?_;refine A.n 1 [] (A.dl 3 ?_);refine A.n 1 [(6,.string a0)] ?_;refine A.AL.rgs 0 fun g1=>?_;refine A.dx 2 ?_;refine A.lp_ [0,7] [] (fun f nl nh=>∃(p2:Nat),nl=[]∧nh=[(0,.si g1 a0 p2)]∧F.aq a0 f p2=some r) ⟨0,rfl,rfl,hF⟩ ?_;rintro f3 _ _ ⟨p2,rfl,rfl,hF⟩;rcases f3 with _|f3
 ·exact A.no0 hF
 rw[F.aq]at hF;refine A.xl 1 ?_;refine A.AL.nxs 0 [] hF ?_ ?_<;>intro hb hF
 ·refine A.n 1 [(9,.bool true)] (A.dx 2 ?_);refine A.AX.cnt rfl ?_;refine A.xl 4 ?_;refine A.n 4 [(3,A.i (p2:Int)),(4,.int .i32 ((Utf8.decode a0 p2).1:Int))] (A.dl 2 ?_);refine A.q0 [] [] [.n,.n,.n,.sy .n,.sy .n,.pk,.n] [(18,.bool (bif decide ((97:Int)≤((Utf8.decode a0 p2).1:Int))then decide (((Utf8.decode a0 p2).1:Int)≤122)else false))] ?_;refine A.AL.cnd (j:=18) rfl hF (fun hF=>?_) (fun hF=>?_)
  ·refine A.q0 [] [] [.off,.off,.off,.off,.off,.off,.n,.n] [(5,.bool true)] (A.dl 2 ?_);refine A.q0 [] [] [.n,.n,.n,.off,.off,.off,.off,.off,.off,.off,.off,.off,.off,.n] [(39,.bool false)] (A.dx 1 ?_);refine A.AX.cnf rfl ?_;refine A.xe 2 ?_;exact A.j ⟨_,Nat.lt_succ_self _,⟨(p2+(Utf8.decode a0 p2).2),rfl,rfl,hF⟩⟩
  refine A.q0 [] [] [.on .n,.on .n,.on .n,.sy .n,.sy .n,.on .pk,.n,.n] [(5,.bool (bif decide ((65:Int)≤((Utf8.decode a0 p2).1:Int))then decide (((Utf8.decode a0 p2).1:Int)≤90)else false))] (A.dl 2 ?_);refine A.n 3 [(28,.bool (!(bif decide ((65:Int)≤((Utf8.decode a0 p2).1:Int))then decide (((Utf8.decode a0 p2).1:Int)≤90)else false)))] ?_;refine A.AL.cnd (j:=28) rfl hF (fun hF=>?_) (fun hF=>?_)
  ·refine A.q0 [] [] [.on .n,.on .n,.on .n,.sy .n,.sy .n,.on .pk,.on .n,.sy .n,.sy .n,.on .pk,.n] [(39,.bool (bif bif decide ((p2:Int)=0)then true else decide (((Utf8.decode a0 p2).1:Int)<48)then true else decide ((57:Int)<((Utf8.decode a0 p2).1:Int))))] (A.dx 1 ?_);refine A.d hF ?_ ?_<;>intro hb hF
   ·refine A.xl 1 ?_;refine A.n 1 [(2,.bool false)] (A.dx 1 ?_);obtain rfl:=A.si hF;exact A.rt1 [] ⟨rfl,rfl⟩
   refine A.xe 2 ?_;exact A.j ⟨_,Nat.lt_succ_self _,⟨(p2+(Utf8.decode a0 p2).2),rfl,rfl,hF⟩⟩
  refine A.q0 [] [] [.off,.off,.off,.off,.off,.off,.off,.off,.off,.off,.n] [(39,.bool false)] (A.dx 1 ?_);refine A.AX.cnf rfl ?_;refine A.xe 2 ?_;exact A.j ⟨_,Nat.lt_succ_self _,⟨(p2+(Utf8.decode a0 p2).2),rfl,rfl,hF⟩⟩
 refine A.n 1 [(9,.bool false)] (A.dx 2 ?_);refine A.AX.cnf rfl ?_;refine A.xl 3 ?_;refine A.q0 [] [] [.n,.n,.n,.sy .n,.sy .n,.sy .n,.pk,.n] [(2,.bool (bif decide (a0≠(ByteArray.mk #[]))then decide ((a0.size:Int)≤16)else false))] (A.dx 1 ?_);obtain rfl:=A.si hF;exact A.rt1 [] ⟨rfl,rfl⟩
def F.cD:Option Bool:=some false
def F.cE (a0:D70)(y2:Bool):Option Bool:=if y2=true then(F.cD)else(if a0.2.1=14 then(if(bif bif bif decide (a0.2.2.2.2.2.1<1)then true else decide ((8:Int)<a0.2.2.2.2.2.1)then true else decide (a0.2.2.2.2.2.2<1)then true else decide ((4:Int)<a0.2.2.2.2.2.2))=true then(some false)else(if(!(decide (a0.2.1=14)))=true then(if(bif decide (a0.2.2.2.2.2.1≠0)then true else decide (a0.2.2.2.2.2.2≠0))=true then(some false)else((F.aT a0.2.1).bind fun r3=>(if r3=true then((F.bY a0.2.2.2.2.1).bind fun r5=>(some r5))else(some (decide (a0.2.2.2.2.1=(ByteArray.mk #[])))))))else((F.aT a0.2.1).bind fun r7=>(if r7=true then((F.bY a0.2.2.2.2.1).bind fun r9=>(some r9))else(some (decide (a0.2.2.2.2.1=(ByteArray.mk #[]))))))))else(if(!(decide (a0.2.1=14)))=true then(if(bif decide (a0.2.2.2.2.2.1≠0)then true else decide (a0.2.2.2.2.2.2≠0))=true then(some false)else((F.aT a0.2.1).bind fun r11=>(if r11=true then((F.bY a0.2.2.2.2.1).bind fun r13=>(some r13))else(some (decide (a0.2.2.2.2.1=(ByteArray.mk #[])))))))else((F.aT a0.2.1).bind fun r15=>(if r15=true then((F.bY a0.2.2.2.2.1).bind fun r17=>(some r17))else(some (decide (a0.2.2.2.2.1=(ByteArray.mk #[]))))))))
def F.d2 (a0:D70):Option Bool:=if(bif decide (a0.1<1)then true else decide ((255:Int)<a0.1))=true then(F.cD)else((F.d1 a0.2.1).bind fun r19=>(if r19<0 then(F.cE a0 true)else((F.d1 a0.2.1).bind fun r22=>(F.cE a0 (decide ((a0.2.2.1.length:Int)≠r22))))))
theorem o_br(a0:D70)(h0_:A.h6 a0.1)(h1_:A.h6 a0.2.1)(h4_:A.h6 a0.2.2.2.1.1)(h5_:A.h6 a0.2.2.2.1.2.1)(h6_:a0.2.2.2.1.2.2.size≤maxLen)(h7_:a0.2.2.2.2.1.size≤maxLen)(h8_:A.h6 a0.2.2.2.2.2.1)(h9_:A.h6 a0.2.2.2.2.2.2)(r:Bool)(hF:F.d2 a0=some r):
    A.Ct Tryz.prog 82 [.agg #[A.i a0.1,A.i a0.2.1,.slice A2_ a0.2.2.1.length c3_,A.i a0.2.2.2.1.1,A.i a0.2.2.2.1.2.1,.string a0.2.2.2.1.2.2,.string a0.2.2.2.2.1,A.i a0.2.2.2.2.2.1,A.i a0.2.2.2.2.2.2]] [(0,.sh A.TI [.slice A2_ a0.2.2.1.length c3_] a0.2.2.1)] [] (fun v H'=>v=.bool r∧H'=[]):=by
 refine A.Ct.enter Tryz.func82 rfl Tryz.ntmps82 rfl fun w0 F0=>?_;rw[F.d2]at hF;refine A.xl 1 ?_;refine A.AL.box 1 (cs:=[A.i a0.1,A.i a0.2.1,.slice A2_ a0.2.2.1.length c3_,A.i a0.2.2.2.1.1,A.i a0.2.2.2.1.2.1,.string a0.2.2.2.1.2.2,.string a0.2.2.2.2.1,A.i a0.2.2.2.2.2.1,A.i a0.2.2.2.2.2.2]) fun g1=>?_;refine A.n 1 [] (A.dx 3 ?_);refine A.AX.join [] [] (fun nl nh=>nl=[]∧nh=[]∧F.cD=some r) ?_ ?_
 ·refine A.xl 5 ?_;refine A.q0 [1] [] [.n,.b 0 0,.n,.n,.sy .n,.sy (.b 0 0),.sy .n,.pk,.n] [(4,.bool (bif decide (a0.1<1)then true else decide ((255:Int)<a0.1)))] (A.dx 1 ?_);refine A.d hF ?_ ?_<;>intro hb hF
  ·refine A.xe 2 ?_;exact A.j ⟨rfl,rfl,hF⟩
  refine A.xx 2 ?_;refine A.AX.join [1] [0,1] (fun nl nh=>∃(y2:Bool),nl=[(13,.bool y2)]∧nh=[]∧F.cE a0 y2=some r) ?_ ?_
  ·refine A.AX.dr mixed 14 14 (A.mb 14 0) ?_;refine A.hq A.pb [] [0,1] [1] [] (A.mb 14 3) 12 [(0,.n),(1,.b 0 1)] [(15,A.i a0.2.1)] ?_;refine A.AH.one 2 ?_;refine A.v 2 [] hF (o_aG a0.2.1 h1_) .nil ?_;rintro r19 - hF _ _ ⟨rfl,rfl,hr21⟩;refine A.ck ?_;refine A.AH.nx (A.mb 14 7) [0,1] ?_;refine A.hq A.pb [0,1] [0,1] [] [] (A.mb 14 31) 9 [(3,.n),(4,.n)] [(18,.bool (decide (r19<0)))] ?_;refine A.AH.cnp (j:=18) rfl hF ?_ ?_<;>intro hb hF
   ·refine A.hq A.pb [0,1] [0,1] [] [] (A.mb 14 16383) 0 [(5,.off),(8,.off),(6,.off),(9,.off),(7,.off),(10,.off),(11,.off),(12,.n),(13,.n)] [(13,.bool true)] (A.AH.done ?_);exact A.j ⟨true,rfl,rfl,hF⟩
   refine A.hq A.pb [0,1] [0,1] [1] [] (A.mb 14 1023) 4 [(5,.on .n),(8,.on .n),(6,.on (.b 0 2)),(9,.on (.b 0 1)),(7,.on .n)] [(23,A.i a0.2.1),(21,A.i (a0.2.2.1.length:Int))] ?_;refine A.AH.one 10 ?_;refine A.AL.on (dj:=18) rfl rfl ?_;refine A.v 42 [] hF (o_aG a0.2.1 h1_) .nil ?_;rintro r22 - hF _ _ ⟨rfl,rfl,hr24⟩;refine A.ck ?_;refine A.AH.nx (A.mb 14 2047) [0,1] ?_;refine A.hq A.pb [0,1] [0,1] [] [] (A.mb 14 16383) 0 [(11,.on .n),(12,.n),(13,.n)] [(13,.bool (decide ((a0.2.2.1.length:Int)≠r22)))] (A.AH.done ?_);exact A.j ⟨(decide ((a0.2.2.1.length:Int)≠r22)),rfl,rfl,hF⟩
  rintro _ _ ⟨y2,rfl,rfl,hF⟩;rw[F.cE]at hF;refine A.d hF ?_ ?_<;>intro hb hF
  ·refine A.xe 1 ?_;exact A.j ⟨rfl,rfl,hF⟩
  refine A.xl 5 ?_;refine A.q0 [1] [] [.n,.b 0 1,.n,.n] [(3,.bool (decide (a0.2.1=14)))] (A.dl 3 ?_);refine A.n 2 [(31,.bool (decide (a0.2.1=14)))] ?_;refine A.AL.cnp (j:=31) rfl hF ?_ ?_<;>intro hb hF
  ·refine A.q0 [1] [] [.on .n,.on (.b 0 7),.on .n,.on .n,.sy .n,.sy (.b 0 7),.sy .n,.on .pk,.on .n,.sy .n,.sy (.b 0 8),.sy .n,.on .pk,.on .n,.sy .n,.sy (.b 0 8),.sy .n,.on .pk,.n,.n] [(51,.bool (bif bif bif decide (a0.2.2.2.2.2.1<1)then true else decide ((8:Int)<a0.2.2.2.2.2.1)then true else decide (a0.2.2.2.2.2.2<1)then true else decide ((4:Int)<a0.2.2.2.2.2.2)))] ?_;refine A.AL.cnd (j:=51) rfl hF (fun hF=>?_) (fun hF=>?_)
   ·refine A.q0 [] [] [.off,.off,.off,.off,.off,.off,.off,.off,.off,.off,.off,.off,.n] [(64,.bool true)] (A.dx 1 ?_);refine A.AX.cnt rfl ?_;refine A.xl 1 ?_;refine A.n 1 [(2,.bool false)] (A.dx 1 ?_);obtain rfl:=A.si hF;exact A.rt1 [] ⟨rfl,rfl⟩
   refine A.q0 [] [] [.on .n,.on .n,.on .n] [(54,.bool (!(decide (a0.2.1=14))))] ?_;refine A.AL.cnd (j:=54) rfl hF (fun hF=>?_) (fun hF=>?_)
   ·refine A.q0 [1] [] [.on .n,.on (.b 0 7),.on .n,.on .n,.sy .n,.sy (.b 0 8),.sy .n,.on .pk,.on .n,.n] [(64,.bool (bif decide (a0.2.2.2.2.2.1≠0)then true else decide (a0.2.2.2.2.2.2≠0)))] (A.dx 1 ?_);refine A.d hF ?_ ?_<;>intro hb hF
    ·refine A.xl 1 ?_;refine A.n 1 [(2,.bool false)] (A.dx 1 ?_);obtain rfl:=A.si hF;exact A.rt1 [] ⟨rfl,rfl⟩
    refine A.xl 4 ?_;refine A.q0 [1] [] [.n,.b 0 1] [(66,A.i a0.2.1)] ?_;refine A.v 82 [] hF (o_g a0.2.1 h1_) .nil ?_;rintro r3 - hF _ _ ⟨rfl,rfl⟩;refine A.ck ?_;refine A.dx 1 ?_;refine A.d hF ?_ ?_<;>intro hb hF
    ·refine A.xl 1 ?_;refine A.q0 [1] [] [.n,.b 0 6] [(69,.string a0.2.2.2.2.1)] ?_;refine A.v 122 [] hF (o_l a0.2.2.2.2.1 h7_) .nil ?_;rintro r5 - hF _ _ ⟨rfl,rfl⟩;refine A.ck ?_;refine A.n 1 [(2,.bool r5)] (A.dx 1 ?_);obtain rfl:=A.si hF;exact A.rt1 [] ⟨rfl,rfl⟩
    refine A.xl 3 ?_;refine A.q0 [1] [] [.n,.b 0 6,.n,.n] [(2,.bool (decide (a0.2.2.2.2.1=(ByteArray.mk #[]))))] (A.dx 1 ?_);obtain rfl:=A.si hF;exact A.rt1 [] ⟨rfl,rfl⟩
   refine A.q0 [] [] [.off,.off,.off,.off,.off,.off,.off,.off,.on .n,.n] [(64,.bool false)] (A.dx 1 ?_);refine A.AX.cnf rfl ?_;refine A.xl 4 ?_;refine A.q0 [1] [] [.n,.b 0 1] [(66,A.i a0.2.1)] ?_;refine A.v 162 [] hF (o_g a0.2.1 h1_) .nil ?_;rintro r7 - hF _ _ ⟨rfl,rfl⟩;refine A.ck ?_;refine A.dx 1 ?_;refine A.d hF ?_ ?_<;>intro hb hF
   ·refine A.xl 1 ?_;refine A.q0 [1] [] [.n,.b 0 6] [(69,.string a0.2.2.2.2.1)] ?_;refine A.v 202 [] hF (o_l a0.2.2.2.2.1 h7_) .nil ?_;rintro r9 - hF _ _ ⟨rfl,rfl⟩;refine A.ck ?_;refine A.n 1 [(2,.bool r9)] (A.dx 1 ?_);obtain rfl:=A.si hF;exact A.rt1 [] ⟨rfl,rfl⟩
   refine A.xl 3 ?_;refine A.q0 [1] [] [.n,.b 0 6,.n,.n] [(2,.bool (decide (a0.2.2.2.2.1=(ByteArray.mk #[]))))] (A.dx 1 ?_);obtain rfl:=A.si hF;exact A.rt1 [] ⟨rfl,rfl⟩
  refine A.q0 [] [] [.off,.off,.off,.off,.off,.off,.off,.off,.off,.off,.off,.off,.off,.off,.off,.off,.off,.off,.n,.n,.on .n,.on .n,.on .n] [(51,.bool false),(54,.bool (!(decide (a0.2.1=14))))] ?_;refine A.AL.cnd (j:=54) rfl hF (fun hF=>?_) (fun hF=>?_)
  ·refine A.q0 [1] [] [.on .n,.on (.b 0 7),.on .n,.on .n,.sy .n,.sy (.b 0 8),.sy .n,.on .pk,.on .n,.n] [(64,.bool (bif decide (a0.2.2.2.2.2.1≠0)then true else decide (a0.2.2.2.2.2.2≠0)))] (A.dx 1 ?_);refine A.d hF ?_ ?_<;>intro hb hF
   ·refine A.xl 1 ?_;refine A.n 1 [(2,.bool false)] (A.dx 1 ?_);obtain rfl:=A.si hF;exact A.rt1 [] ⟨rfl,rfl⟩
   refine A.xl 4 ?_;refine A.q0 [1] [] [.n,.b 0 1] [(66,A.i a0.2.1)] ?_;refine A.v 242 [] hF (o_g a0.2.1 h1_) .nil ?_;rintro r11 - hF _ _ ⟨rfl,rfl⟩;refine A.ck ?_;refine A.dx 1 ?_;refine A.d hF ?_ ?_<;>intro hb hF
   ·refine A.xl 1 ?_;refine A.q0 [1] [] [.n,.b 0 6] [(69,.string a0.2.2.2.2.1)] ?_;refine A.v 282 [] hF (o_l a0.2.2.2.2.1 h7_) .nil ?_;rintro r13 - hF _ _ ⟨rfl,rfl⟩;refine A.ck ?_;refine A.n 1 [(2,.bool r13)] (A.dx 1 ?_);obtain rfl:=A.si hF;exact A.rt1 [] ⟨rfl,rfl⟩
   refine A.xl 3 ?_;refine A.q0 [1] [] [.n,.b 0 6,.n,.n] [(2,.bool (decide (a0.2.2.2.2.1=(ByteArray.mk #[]))))] (A.dx 1 ?_);obtain rfl:=A.si hF;exact A.rt1 [] ⟨rfl,rfl⟩
  refine A.q0 [] [] [.off,.off,.off,.off,.off,.off,.off,.off,.on .n,.n] [(64,.bool false)] (A.dx 1 ?_);refine A.AX.cnf rfl ?_;refine A.xl 4 ?_;refine A.q0 [1] [] [.n,.b 0 1] [(66,A.i a0.2.1)] ?_;refine A.v 322 [] hF (o_g a0.2.1 h1_) .nil ?_;rintro r15 - hF _ _ ⟨rfl,rfl⟩;refine A.ck ?_;refine A.dx 1 ?_;refine A.d hF ?_ ?_<;>intro hb hF
  ·refine A.xl 1 ?_;refine A.q0 [1] [] [.n,.b 0 6] [(69,.string a0.2.2.2.2.1)] ?_;refine A.v 362 [] hF (o_l a0.2.2.2.2.1 h7_) .nil ?_;rintro r17 - hF _ _ ⟨rfl,rfl⟩;refine A.ck ?_;refine A.n 1 [(2,.bool r17)] (A.dx 1 ?_);obtain rfl:=A.si hF;exact A.rt1 [] ⟨rfl,rfl⟩
  refine A.xl 3 ?_;refine A.q0 [1] [] [.n,.b 0 6,.n,.n] [(2,.bool (decide (a0.2.2.2.2.1=(ByteArray.mk #[]))))] (A.dx 1 ?_);obtain rfl:=A.si hF;exact A.rt1 [] ⟨rfl,rfl⟩
 rintro _ _ ⟨rfl,rfl,hF⟩;rw[F.cD]at hF;refine A.xl 2 ?_;refine A.n 1 [(2,.bool false)] (A.dx 1 ?_);obtain rfl:=A.si hF;exact A.rt1 [] ⟨rfl,rfl⟩
def F.e0 (a0:Int):Option (Int×Int):=if a0=2 then(some (1,8))else(if a0=3 then(some (11,13))else(if a0=4 then(some (21,22))else(if a0=8 then(some (31,34))else(if a0=11 then(some (41,42))else(some (0,-1))))))
theorem o_a0 (a0:Int)(h0_:A.h6 a0)(r:Int×Int)(hF:F.e0 a0=some r):
    A.Ct Tryz.prog 107 [A.i a0] [] [] (fun v H'=>v=.tuple #[A.i r.1,A.i r.2]∧H'=[]∧A.h6 r.1∧A.h6 r.2):=by
 refine A.Ct.enter Tryz.func107 rfl Tryz.ntmps107 rfl fun w0 F0=>?_;rw[F.e0]at hF;refine A.xl 1 ?_;refine A.n 2 [] (A.dl 3 ?_);refine A.n 1 [(4,A.i a0)] (A.dl 3 ?_);refine A.n 2 [(5,.bool (decide (a0=2)))] (A.dx 1 ?_);refine A.c hF ?_ ?_<;>intro hb hF
 ·refine A.xl 1 ?_;refine A.n 2 [(2,A.i 1),(3,A.i 8)] (A.dx 1 ?_);obtain rfl:=A.si hF;exact A.rt2 [] ⟨rfl,rfl,(A.hasl .i64 (1) rfl),(A.hasl .i64 (8) rfl)⟩
 refine A.xl 1 ?_;refine A.n 2 [(7,.bool (decide (a0=3)))] (A.dx 1 ?_);refine A.c hF ?_ ?_<;>intro hb hF
 ·refine A.xl 1 ?_;refine A.n 2 [(2,A.i 11),(3,A.i 13)] (A.dx 1 ?_);obtain rfl:=A.si hF;exact A.rt2 [] ⟨rfl,rfl,(A.hasl .i64 (11) rfl),(A.hasl .i64 (13) rfl)⟩
 refine A.xl 1 ?_;refine A.n 2 [(9,.bool (decide (a0=4)))] (A.dx 1 ?_);refine A.c hF ?_ ?_<;>intro hb hF
 ·refine A.xl 1 ?_;refine A.n 2 [(2,A.i 21),(3,A.i 22)] (A.dx 1 ?_);obtain rfl:=A.si hF;exact A.rt2 [] ⟨rfl,rfl,(A.hasl .i64 (21) rfl),(A.hasl .i64 (22) rfl)⟩
 refine A.xl 1 ?_;refine A.n 2 [(11,.bool (decide (a0=8)))] (A.dx 1 ?_);refine A.c hF ?_ ?_<;>intro hb hF
 ·refine A.xl 1 ?_;refine A.n 2 [(2,A.i 31),(3,A.i 34)] (A.dx 1 ?_);obtain rfl:=A.si hF;exact A.rt2 [] ⟨rfl,rfl,(A.hasl .i64 (31) rfl),(A.hasl .i64 (34) rfl)⟩
 refine A.xl 1 ?_;refine A.n 2 [(13,.bool (decide (a0=11)))] (A.dx 1 ?_);refine A.c hF ?_ ?_<;>intro hb hF
 ·refine A.xl 1 ?_;refine A.n 2 [(2,A.i 41),(3,A.i 42)] (A.dx 1 ?_);obtain rfl:=A.si hF;exact A.rt2 [] ⟨rfl,rfl,(A.hasl .i64 (41) rfl),(A.hasl .i64 (42) rfl)⟩
 refine A.xl 4 ?_;refine A.n 2 [(2,A.i 0),(3,A.i (-1))] (A.dx 1 ?_);obtain rfl:=A.si hF;exact A.rt2 [] ⟨rfl,rfl,A.z0,(A.hasl .i64 (-1) rfl)⟩
def F.e9 (a0:Int):Option (Int×Int):=(F.e0 a0).bind fun r1=>(some r1)
theorem o_b7 (a0:Int)(h0_:A.h6 a0)(r:(Int×Int))(hF:F.e9 a0=some r):
    A.Ct Tryz.prog 108 [A.i a0] [] [] (fun v H'=>∃(g0':Nat) (g1':Nat),v=.func (.func 126) #[] #[.pointer (some ⟨g0',0,none⟩),.pointer (some ⟨g1',0,none⟩)]∧H'=[(0,.blk g0' 3 [A.i r.1]),(1,.blk g1' 3 [A.i r.2])]∧A.h6 r.1∧A.h6 r.2):=by
 refine A.Ct.enter Tryz.func108 rfl Tryz.ntmps108 rfl fun w0 F0=>?_;rw[F.e9]at hF;refine A.xl 1 ?_;refine A.n 1 [] (A.dl 2 ?_);refine A.n 1 [(6,A.i a0)] ?_;refine A.v 0 [] hF (o_a0 a0 h0_) .nil ?_;rintro r1 - hF _ _ ⟨rfl,rfl,hr3,hr4⟩;refine A.ck ?_;refine A.n 3 [(8,A.i r1.1),(9,A.i r1.2)] ?_;refine A.AL.alloc 40 (cs:=l2o) Tryz.zeroValue3 fun g5=>?_;refine A.AL.alloc 41 (cs:=l2o) Tryz.zeroValue3 fun g6=>?_;refine A.sw 40 [] [A.i r1.1] ?_;refine A.sw 41 [] [A.i r1.2] ?_;refine A.dl 2 ?_;refine A.n 2 [(2,.func (.func 126) #[] #[.pointer (some ⟨g5,0,none⟩),.pointer (some ⟨g6,0,none⟩)])] (A.dx 1 ?_);obtain rfl:=A.si hF;exact A.rt1 [(0,40),(1,41)] ⟨g5,g6,rfl,rfl,hr3,hr4⟩
def F.dl (a0:D68)(y3:Bool):Option Bool:=if y3=true then(some (bif decide ((1:Int)≤a0.2.1)then decide (a0.2.1≤1048576)else false))else(some (decide (a0.2.1=0)))
def F.dm (a0:D68)(y2:Bool):Option Bool:=if y2=true then(some (bif decide ((0:Int)≤a0.2.1)then decide (a0.2.1≤64)else false))else(if a0.1=6 then(F.dl a0 (decide (a0.1=6)))else(F.dl a0 (decide (a0.1=11))))
def F.eB (a0:D68):Option Bool:=if a0.1=3 then(F.dm a0 (decide (a0.1=3)))else(F.dm a0 (decide (a0.1=13)))
theorem o_bs (a0:D68)(h0_:A.h6 a0.1)(h1_:A.h6 a0.2.1)(h2_:a0.2.2.size≤maxLen)(r:Bool)(hF:F.eB a0=some r):
    A.Ct Tryz.prog 109 [.agg #[A.i a0.1,A.i a0.2.1,.string a0.2.2]] [] [] (fun v H'=>v=.bool r∧H'=[]):=by
 refine A.Ct.enter Tryz.func109 rfl Tryz.ntmps109 rfl fun w0 F0=>?_;rw[F.eB]at hF;refine A.xl 1 ?_;refine A.AL.box 0 (cs:=[A.i a0.1,A.i a0.2.1,.string a0.2.2]) fun g1=>?_;refine A.n 1 [] (A.dl 3 ?_);refine A.q0 [0] [] [.n,.b 0 0] [(4,A.i a0.1)] (A.dx 2 ?_);refine A.AX.join [1,4] [0] (fun nl nh=>∃(y2:Bool),nl=[(5,.bool y2)]∧nh=[]∧F.dm a0 y2=some r) ?_ ?_
 ·refine A.xl 1 ?_;refine A.n 2 [(5,.bool (decide (a0.1=3)))] (A.dx 1 ?_);refine A.c hF ?_ ?_<;>intro hb hF
  ·refine A.xe 1 ?_;exact A.j ⟨(decide (a0.1=3)),rfl,rfl,hF⟩
  refine A.xl 0 ?_;refine A.n 2 [(5,.bool (decide (a0.1=13)))] (A.AL.done ?_);exact A.j ⟨(decide (a0.1=13)),rfl,rfl,hF⟩
 rintro _ _ ⟨y2,rfl,rfl,hF⟩;rw[F.dm]at hF;refine A.d hF ?_ ?_<;>intro hb hF
 ·refine A.xl 1 ?_;refine A.q0 [0] [] [.n,.b 0 1,.n,.n,.sy .n,.sy (.b 0 1),.sy .n,.pk,.n] [(2,.bool (bif decide ((0:Int)≤a0.2.1)then decide (a0.2.1≤64)else false))] (A.dx 1 ?_);obtain rfl:=A.si hF;exact A.rt1 [] ⟨rfl,rfl⟩
 refine A.AX.join [1] [0] (fun nl nh=>∃(y3:Bool),nl=[(16,.bool y3)]∧nh=[]∧F.dl a0 y3=some r) ?_ ?_
 ·refine A.xl 1 ?_;refine A.n 2 [(16,.bool (decide (a0.1=6)))] (A.dx 1 ?_);refine A.c hF ?_ ?_<;>intro hb hF
  ·refine A.xe 1 ?_;exact A.j ⟨(decide (a0.1=6)),rfl,rfl,hF⟩
  refine A.xl 0 ?_;refine A.n 2 [(16,.bool (decide (a0.1=11)))] (A.AL.done ?_);exact A.j ⟨(decide (a0.1=11)),rfl,rfl,hF⟩
 rintro _ _ ⟨y3,rfl,rfl,hF⟩;rw[F.dl]at hF;refine A.d hF ?_ ?_<;>intro hb hF
 ·refine A.xl 1 ?_;refine A.q0 [0] [] [.n,.b 0 1,.n,.n,.sy .n,.sy (.b 0 1),.sy .n,.pk,.n] [(2,.bool (bif decide ((1:Int)≤a0.2.1)then decide (a0.2.1≤1048576)else false))] (A.dx 1 ?_);obtain rfl:=A.si hF;exact A.rt1 [] ⟨rfl,rfl⟩
 refine A.xl 4 ?_;refine A.q0 [0] [] [.n,.b 0 1,.n,.n] [(2,.bool (decide (a0.2.1=0)))] (A.dx 1 ?_);obtain rfl:=A.si hF;exact A.rt1 [] ⟨rfl,rfl⟩
def F.cF (y7:Bool):Option Bool:=some y7
def F.b5 (a0:ByteArray):Nat→Nat→Int→Option Bool
 |0,_,_=>none
 |f+1,p2,y3=>if p2<a0.size then(A.gd (Z.R64 (y3+1)) ((F.b5 a0 f) (p2+(Utf8.decode a0 p2).2) (y3+1)))else(if y3=1 then((F.bz a0).bind fun r8=>(F.cF r8))else(F.cF false))
def F.eC (a0:ByteArray):Option Bool:=F.b5 a0 A.FU 0 0
theorem o_bt (a0:ByteArray)(h0_:a0.size≤maxLen)(r:Bool)(hF:F.eC a0=some r):
    A.Ct Tryz.prog 128 [.string a0] [(0,.el none 0 0 A.tabF),(1,.el none 1 0 A.tabA)] [] (fun v H'=>v=.bool r∧H'=[]):=by
 refine A.Ct.enter Tryz.func128 rfl Tryz.ntmps128 rfl fun w0 F0=>?_;rw[F.eC]at hF;refine A.xl 1 ?_;refine A.n 1 [] (A.dl 2 ?_);refine A.n 1 [(3,A.i 0)] (A.dl 3 ?_);refine A.n 1 [(4,.string a0)] ?_;refine A.AL.rgs 2 fun g1=>?_;refine A.dx 2 ?_;refine A.lp_ [0,5] [0,1] (fun f nl nh=>∃(p2:Nat),∃(y3:Int),nl=[(3,A.i y3)]∧nh=[(2,.si g1 a0 p2)]∧A.h6 y3∧F.b5 a0 f p2 y3=some r) ⟨0,0,rfl,rfl,A.z0,hF⟩ ?_;rintro f5 _ _ ⟨p2,y3,rfl,rfl,hy4,hF⟩;rcases f5 with _|f5
 ·exact A.no0 hF
 rw[F.b5]at hF;refine A.xl 1 ?_;refine A.AL.nxs 2 [] hF ?_ ?_<;>intro hb hF
 ·refine A.n 1 [(7,.bool true)] (A.dx 2 ?_);refine A.AX.cnt rfl ?_;refine A.xl 3 ?_;have⟨hc6,hF⟩:=A.g hF;refine A.m 3 [Z.R64 (y3+1)] [(3,A.i (y3+1))] hc6 (A.de 1 ?_);exact A.j ⟨_,Nat.lt_succ_self _,⟨(p2+(Utf8.decode a0 p2).2),(y3+1),rfl,rfl,(Z.i64_has hc6),hF⟩⟩
 refine A.n 1 [(7,.bool false)] (A.dx 2 ?_);refine A.AX.cnf rfl ?_;refine A.xx 2 ?_;refine A.AX.join [] [0,1] (fun nl nh=>∃(y7:Bool),nl=[(2,.bool y7)]∧nh=[]∧F.cF y7=some r) ?_ ?_
 ·refine A.xl 0 ?_;refine A.n 3 [(12,.bool (decide (y3=1)))] ?_;refine A.AL.cnp (j:=12) rfl hF ?_ ?_<;>intro hb hF
  ·refine A.q0 [] [] [.on .n] [(13,.string a0)] ?_;refine A.AL.on (dj:=12) rfl rfl ?_;refine A.v 83 [] hF (o_y a0 h0_) (.s 0 (.s 1 .nil)) ?_;rintro r8 - hF _ _ ⟨rfl,rfl⟩;refine A.ck ?_;refine A.n 2 [(2,.bool r8)] (A.AL.done ?_);exact A.j ⟨r8,rfl,rfl,hF⟩
  refine A.q0 [] [] [.off,.off,.n,.n] [(2,.bool false)] (A.AL.done ?_);exact A.j ⟨false,rfl,rfl,hF⟩
 rintro _ _ ⟨y7,rfl,rfl,hF⟩;rw[F.cF]at hF;obtain rfl:=A.si hF;exact A.rt1 [] ⟨rfl,rfl⟩
def F.eh (y2:Bool):Option Bool:=some y2
def F.ei (a0:D68)(y5:Bool):Option Bool:=if y5=true then((F.eC a0.2.2).bind fun r6=>(some r6))else(some (decide (a0.2.2=(ByteArray.mk #[]))))
def F.e1 (a0:D68):Option Bool:=if a0.1=5 then(if(bif decide (a0.2.2≠(ByteArray.mk #[]))then decide ((a0.2.2.size:Int)≤16)else false)=true then((F.bz a0.2.2).bind fun r3=>(F.eh r3))else(F.eh false))else(if a0.1=12 then(F.ei a0 (decide (a0.1=12)))else(F.ei a0 (decide (a0.1=22))))
theorem o_b8 (a0:D68)(h0_:A.h6 a0.1)(h1_:A.h6 a0.2.1)(h2_:a0.2.2.size≤maxLen)(r:Bool)(hF:F.e1 a0=some r):
    A.Ct Tryz.prog 110 [.agg #[A.i a0.1,A.i a0.2.1,.string a0.2.2]] [(0,.el none 0 0 A.tabF),(1,.el none 1 0 A.tabA)] [] (fun v H'=>v=.bool r∧H'=[]):=by
 refine A.Ct.enter Tryz.func110 rfl Tryz.ntmps110 rfl fun w0 F0=>?_;rw[F.e1]at hF;refine A.xl 1 ?_;refine A.AL.box 2 (cs:=[A.i a0.1,A.i a0.2.1,.string a0.2.2]) fun g1=>?_;refine A.n 1 [] (A.dl 3 ?_);refine A.q0 [2] [] [.n,.b 0 0] [(4,A.i a0.1)] (A.dl 3 ?_);refine A.n 2 [(5,.bool (decide (a0.1=5)))] (A.dx 1 ?_);refine A.c hF ?_ ?_<;>intro hb hF
 ·refine A.AX.join [] [0,1] (fun nl nh=>∃(y2:Bool),nl=[(2,.bool y2)]∧nh=[]∧F.eh y2=some r) ?_ ?_
  ·refine A.xl 0 ?_;refine A.q0 [2] [] [.n,.b 0 2,.n,.n,.sy .n,.sy (.b 0 2),.sy .n,.sy .n,.pk,.n] [(16,.bool (bif decide (a0.2.2≠(ByteArray.mk #[]))then decide ((a0.2.2.size:Int)≤16)else false))] ?_;refine A.AL.cnd (j:=16) rfl hF (fun hF=>?_) (fun hF=>?_)
   ·refine A.q0 [2] [] [.on .n,.on (.b 0 2)] [(18,.string a0.2.2)] ?_;refine A.AL.on (dj:=16) rfl rfl ?_;refine A.v 3 [] hF (o_y a0.2.2 h2_) (.s 0 (.s 1 .nil)) ?_;rintro r3 - hF _ _ ⟨rfl,rfl⟩;refine A.ck ?_;refine A.n 2 [(2,.bool r3)] (A.AL.done ?_);exact A.j ⟨r3,rfl,rfl,hF⟩
   refine A.q0 [] [] [.off,.off,.off,.n,.n] [(2,.bool false)] (A.AL.done ?_);exact A.j ⟨false,rfl,rfl,hF⟩
  rintro _ _ ⟨y2,rfl,rfl,hF⟩;rw[F.eh]at hF;obtain rfl:=A.si hF;exact A.rt1 [] ⟨rfl,rfl⟩
 refine A.AX.join [1] [0,1,2] (fun nl nh=>∃(y5:Bool),nl=[(21,.bool y5)]∧nh=[]∧F.ei a0 y5=some r) ?_ ?_
 ·refine A.xl 1 ?_;refine A.n 2 [(21,.bool (decide (a0.1=12)))] (A.dx 1 ?_);refine A.c hF ?_ ?_<;>intro hb hF
  ·refine A.xe 1 ?_;exact A.j ⟨(decide (a0.1=12)),rfl,rfl,hF⟩
  refine A.xl 0 ?_;refine A.n 2 [(21,.bool (decide (a0.1=22)))] (A.AL.done ?_);exact A.j ⟨(decide (a0.1=22)),rfl,rfl,hF⟩
 rintro _ _ ⟨y5,rfl,rfl,hF⟩;rw[F.ei]at hF;refine A.d hF ?_ ?_<;>intro hb hF
 ·refine A.xl 1 ?_;refine A.q0 [2] [] [.n,.b 0 2] [(25,.string a0.2.2)] ?_;refine A.v 43 [] hF (o_bt a0.2.2 h2_) (.s 0 (.s 1 .nil)) ?_;rintro r6 - hF _ _ ⟨rfl,rfl⟩;refine A.ck ?_;refine A.n 1 [(2,.bool r6)] (A.dx 1 ?_);obtain rfl:=A.si hF;exact A.rt1 [] ⟨rfl,rfl⟩
 refine A.xl 4 ?_;refine A.q0 [2] [] [.n,.b 0 2,.n,.n] [(2,.bool (decide (a0.2.2=(ByteArray.mk #[]))))] (A.dx 1 ?_);obtain rfl:=A.si hF;exact A.rt1 [] ⟨rfl,rfl⟩
def F.dj (b1:Int):Nat→Int→Option (List Int)
 |0,_=>none
 |f+1,y1=>if y1≤b1 then(A.cns y1 (A.gd (Z.R64 (y1+1)) ((F.dj b1 f) (y1+1))))else(some [])
def F.bJ (b0:Int)(b1:Int):Option (List Int):=F.dj b1 A.FU b0
theorem o_a1(b0:Int)(b1:Int)(h1_:A.h6 b0)(h3_:A.h6 b1)(xs:List Int)(hF:F.bJ b0 b1=some xs):
    A.Sq Tryz.prog 126 [.pointer (some ⟨g0_,0,none⟩),.pointer (some ⟨g2_,0,none⟩)] [(0,.el none g0_ 0 [A.i b0]),(1,.el none g2_ 0 [A.i b1])] A.ti (fun cs=>[Z.vof false cs]) xs:=by
 refine A.Sq.enter Tryz.func126 rfl Tryz.ntmps126 rfl fun lid w0 J Jx Φ hY hJ0=>?_;obtain⟨rs0,hrs⟩: ∃rs0,rs0=xs:=⟨_,rfl⟩
 have hR0:A.Rem xs 0 rs0:=hrs▸A.Rem.zero xs
 rw[F.bJ,←hrs]at hF
 clear hrs
 refine A.xl 1 ?_;refine A.q0 [] [0] [.e 0 0,.n] [(4,A.i b0)] (A.dx 2 ?_);refine A.AX.loopC (A.CY 15 Φ) (0,w0) [0,2] [1] [1] (fun f i nl nh=>∃(y1:Int),∃(rs:List Int),nl=[(4,A.i y1)]∧nh=[]∧A.h6 y1∧J i.1 i.2∧A.Rem xs i.1 rs∧F.dj b1 f y1=some rs) A.FU [(4,A.i b0)] [] ⟨b0,_,rfl,rfl,h1_,hJ0,hR0,hF⟩ ?_;rintro f3 ⟨k4,w5⟩ _ _ ⟨y1,rs8,rfl,rfl,hy2,hJ6,hR7,hF⟩;rcases f3 with _|f3
 ·exact A.no0 hF
 rw[F.dj]at hF;refine A.xl 2 ?_;refine A.q0 [] [1] [.n,.e 0 0,.n] [(8,.bool (decide (y1≤b1)))] (A.dx 1 ?_);refine A.c hF ?_ ?_<;>intro hb hF
 ·refine A.xl 5 ?_;refine A.n 2 [(11,.func (.yield lid) #[] #[]),(12,A.i y1)] ?_;obtain⟨rs9,hqrs9,hF⟩:=A.cns_some hF;refine A.AL.yield hY hJ6 (hqrs9▸hR7) [A.i y1] ⟨rfl,hy2⟩ (fun w10 hJ11 hR12=>?_) (fun w10 hX13=>?_)
  ·refine A.n 1 [(14,.bool false)] (A.dx 1 ?_);refine A.AX.cnf rfl ?_;refine A.xl 3 ?_;have⟨hc14,hF⟩:=A.g hF;refine A.m 3 [Z.R64 (y1+1)] [(4,A.i (y1+1))] hc14 (A.AL.done ?_);exact A.AE.jC (k4+1,w10) [1] [(4,A.i (y1+1))] [] ⟨_,Nat.lt_succ_self _,⟨(y1+1),_,rfl,rfl,(Z.i64_has hc14),hJ11,hR12,hF⟩⟩
  refine A.n 1 [(14,.bool true)] (A.dx 1 ?_);refine A.AX.cnt rfl ?_;exact A.AX.rtX hY hX13
 refine A.xe 1 ?_;obtain rfl:=A.si hF;exact A.AE.rtY hY hJ6 hR7
def F.dc (k1:Option Int)(y25:Bool):Option Int:=if y25=true then(some 0)else(k1)
def F.a4 (a1:D68):List Int→Option Int
 | []=>some 60
 |y22::f=>if y22=a1.1 then((F.eB a1).bind fun r26=>(if r26=true then((F.e1 a1).bind fun r28=>(F.dc (F.a4 a1 f) r28))else(F.dc (F.a4 a1 f) false)))else(F.dc (F.a4 a1 f) false)
def F.eo (a0:Int)(a1:D68):Option Int:=(F.e0 a0).bind fun r3=>(if r3.2<0 then(if a1≠(0,0,ByteArray.mk #[])then(some 60)else(some 0))else((F.e9 a0).bind fun r7=>((F.bJ r7.1 r7.2).bind fun xs13=>F.a4 a1 xs13)))
theorem o_bU (a0:Int)(a1:D68)(h0_:A.h6 a0)(h1_:A.h6 a1.1)(h2_:A.h6 a1.2.1)(h3_:a1.2.2.size≤maxLen)(r:Int)(hF:F.eo a0 a1=some r):
    A.Ct Tryz.prog 83 [A.i a0,.agg #[A.i a1.1,A.i a1.2.1,.string a1.2.2]] [(0,.el none 0 0 A.tabF),(1,.el none 1 0 A.tabA)] [] (fun v H'=>v=A.i r∧H'=[]∧A.h6 r):=by
 refine A.Ct.enterM Tryz.func83 rfl Tryz.ntmps83 rfl fun w0 F0=>?_;rw[F.eo]at hF;refine A.xl 1 ?_;refine A.AL.box 2 (cs:=[A.i a1.1,A.i a1.2.1,.string a1.2.2]) fun g1=>?_;refine A.AL.alloc 3 (cs:=l2o) Tryz.zeroValue32 fun g2=>?_;refine A.dl 3 ?_;refine A.n 1 [(9,A.i a0)] ?_;refine A.v 4 [] hF (o_a0 a0 h0_) .nil ?_;rintro r3 - hF _ _ ⟨rfl,rfl,hr5,hr6⟩;refine A.ck ?_;refine A.n 5 [(6,A.i r3.2)] (A.dl 2 ?_);refine A.n 2 [(14,.bool (decide (r3.2<0)))] (A.dx 1 ?_);refine A.c hF ?_ ?_<;>intro hb hF
 ·refine A.xl 2 ?_;refine A.q0 [2] [] [.b 0 0,.n] [(15,.agg #[A.i a1.1,A.i a1.2.1,.string a1.2.2]),(16,.agg #[A.i 0,A.i 0,.string (ByteArray.mk #[])])] ?_;refine A.AL.val rfl (fun a w hf hh=>eqagg_neq69 (x:=a1) (y:=(0,0,ByteArray.mk #[])) (hf.eval rfl) (hf.eval rfl)) ?_;refine A.dx 1 ?_;refine A.c hF ?_ ?_<;>intro hb hF
  ·refine A.xl 1 ?_;refine A.sw 3 [] [A.i 60] ?_;refine A.dx 1 ?_;obtain rfl:=A.si hF;exact A.AX.rtM (Ds:=[]) [] [] (A.i 60) (trivial) (fun a w hf hh=>Z.resv1 rfl (Z.rv_1 hf rfl Tryz.isAgg32 (A.Hp.blk hh 3))) (⟨rfl,rfl,(A.hasl .i64 (60) rfl)⟩)
  refine A.xl 3 ?_;refine A.sw 3 [] [A.i 0] ?_;refine A.dx 1 ?_;obtain rfl:=A.si hF;exact A.AX.rtM (Ds:=[]) [] [] (A.i 0) (trivial) (fun a w hf hh=>Z.resv1 rfl (Z.rv_1 hf rfl Tryz.isAgg32 (A.Hp.blk hh 3))) (⟨rfl,rfl,A.z0⟩)
 refine A.xl 4 ?_;refine A.n 1 [(18,A.i a0)] ?_;refine A.v 44 [] hF (o_b7 a0 h0_) .nil ?_;rintro r7 - hF _ _ ⟨g9,g11,rfl,rfl,hr10,hr12⟩;refine A.ck ?_;refine A.dx 2 ?_;have⟨xs13,hv14,hF⟩:=A.b hF;refine A.AX.rgf 84 85 86 [0,1,2,3,44,45] [0,1,2,3,44,45] [85,84,0,1,2,3,44,45] (fun k nh=>nh=[]∧F.a4 a1 (List.drop k xs13)=some r) [] cf126 (o_a1 g9 g11 r7.1 r7.2 hr10 hr12 xs13 hv14) (fun _=>rfl) ⟨rfl,hF⟩ ?_ ?_ ?_
 ·rintro k21 _ D15 L16 ⟨rfl,hF⟩;exact⟨⟨_,(.b 44 (.b 45 .nil))⟩,rfl,fun o=>rfl⟩
 ·rintro k21 _ y22 D15 L16 w20 o17 ⟨rfl,hF⟩ hx23 hxo24 hh19;rw[A.drop_at hx23,F.a4]at hF
  refine A.xl 0 ?_;refine A.n 1 [(7,A.i y22)] (A.AL.done ?_);refine A.AE.flip 84 85 fun o18=>?_;refine A.xx 1 ?_;refine A.AX.join [3,4] [0,1,2,3,44,45,84,85] (fun nl nh=>∃(y25:Bool),nl=[(32,.bool y25)]∧nh=[]∧F.dc (F.a4 a1 (List.drop (k21+1) xs13)) y25=some r) ?_ ?_
  ·refine A.xl 0 ?_;refine A.q0 [2] [] [.n,.n,.b 0 0,.n,.n] [(25,.bool (decide (y22=a1.1)))] ?_;refine A.AL.cnp (j:=25) rfl hF ?_ ?_<;>intro hb hF
   ·refine A.q0 [2] [] [.on (.b 0 0)] [(26,.agg #[A.i a1.1,A.i a1.2.1,.string a1.2.2])] ?_;refine A.AL.on (dj:=25) rfl rfl ?_;refine A.v 167 [] hF (o_bs a1 h1_ h2_ h3_) .nil ?_;rintro r26 - hF _ _ ⟨rfl,rfl⟩;refine A.ck ?_;refine A.n 2 [(29,.bool r26)] ?_;refine A.AL.cnd (j:=29) rfl hF (fun hF=>?_) (fun hF=>?_)
    ·refine A.q0 [2] [] [.on (.b 0 0)] [(30,.agg #[A.i a1.1,A.i a1.2.1,.string a1.2.2])] ?_;refine A.AL.on (dj:=29) rfl rfl ?_;refine A.v 207 [] hF (o_b8 a1 h1_ h2_ h3_) (.s 0 (.s 1 .nil)) ?_;rintro r28 - hF _ _ ⟨rfl,rfl⟩;refine A.ck ?_;refine A.n 1 [(32,.bool r28)] (A.AL.done ?_);exact A.j ⟨r28,rfl,rfl,hF⟩
    refine A.q0 [] [] [.off,.off,.n] [(32,.bool false)] (A.AL.done ?_);exact A.j ⟨false,rfl,rfl,hF⟩
   refine A.q0 [] [] [.off,.off,.n,.n,.off,.off,.n] [(32,.bool false)] (A.AL.done ?_);exact A.j ⟨false,rfl,rfl,hF⟩
  rintro _ _ ⟨y25,rfl,rfl,hF⟩;rw[F.dc]at hF;refine A.d hF ?_ ?_<;>intro hb hF
  ·refine A.xl 1 ?_;refine A.sw 3 [] [A.i 0] ?_;refine A.dx 1 ?_;refine A.AX.bret hh19 [85,2,3,44,45,84] 100000 [(85,100085),(2,100002),(3,100003),(44,100044),(45,100045),(84,100084),(0,0),(1,1)] [(2,.blk g1 69 [A.i a1.1,A.i a1.2.1,.string a1.2.2]),(3,.blk g2 32 [A.i 0]),(44,.blk g9 3 [A.i r7.1]),(45,.blk g11 3 [A.i r7.2]),(84,.ob D15 A.dfT),(0,.el none 0 0 A.tabF),(1,.el none 1 0 A.tabA)] ?_ rfl rfl
   obtain rfl:=A.si hF;exact A.AE.rtM (Ds:=[D15]) [84] [] (A.i 0) (⟨rfl,trivial⟩) (fun a w hf hh=>Z.resv1 rfl (Z.rv_1 hf rfl Tryz.isAgg32 (A.Hp.blk hh 3))) (⟨rfl,rfl,A.z0⟩)
  refine A.xe 2 ?_;exact A.AE.bn hh19 [85,84,2,3,44,45] 100000 [(85,100085),(84,100084),(0,0),(1,1),(2,100002),(3,100003),(44,100044),(45,100045)] [] ⟨rfl,hF⟩ rfl rfl
 rintro _ D15 L16 ⟨rfl,hF⟩;rw[List.drop_length,F.a4]at hF
 refine A.el 3 ?_;refine A.sw 3 [] [A.i 60] ?_;refine A.dx 1 ?_;obtain rfl:=A.si hF;exact A.AX.rtM (Ds:=[D15]) [84] [] (A.i 60) (⟨rfl,trivial⟩) (fun a w hf hh=>Z.resv1 rfl (Z.rv_1 hf rfl Tryz.isAgg32 (A.Hp.blk hh 3))) (⟨rfl,rfl,(A.hasl .i64 (60) rfl)⟩)
def F.aY (k29:(List Int)→(List (Int×Bool))→Int→Option (Bool×((List (Int×D70))×(List Int)×(List (Int×Int)))))(y7:Int)(xs12:List Int)(m14:List (Int×Bool)):Option (Bool×((List (Int×D70))×(List Int)×(List (Int×Int)))):=A.gd (Z.R64 (y7+1)) (k29 xs12 m14 (y7+1))
def F.aZ (k41:Int→Option (Bool×((List (Int×D70))×(List Int)×(List (Int×Int)))))(y16:Int):Option (Bool×((List (Int×D70))×(List Int)×(List (Int×Int)))):=A.gd (Z.R64 (y16+1)) (k41 (y16+1))
def F.az (k29:(List Int)→(List (Int×Bool))→Int→Option (Bool×((List (Int×D70))×(List Int)×(List (Int×Int)))))(k41:Int→Option (Bool×((List (Int×D70))×(List Int)×(List (Int×Int)))))(xs5:List Int)(m6:List (Int×Bool))(y7:Int)(y16:Int)(x20:D70):Nat→Int→Option (Bool×((List (Int×D70))×(List Int)×(List (Int×Int))))
 |0,_=>none
 |f+1,y31=>if y31<(x20.2.2.1.length:Int)then((A.ix x20.2.2.1 y31).bind fun x34=>(A.lt (Z.mget (false:Bool) m6 x34) fun x39=>(if(bif !x39 then decide (x20.2.1≠14)else false)=true then(F.aZ k41 y16)else(A.gd (Z.R64 (y31+1)) ((F.az k29 k41 xs5 m6 y7 y16 x20 f) (y31+1))))))else(A.gd ((List.length (α:=Int) xs5+List.length (α:=Int) [x20.1])*8≤140737488355328) (F.aY k29 y7 (xs5++[x20.1]) (Z.mins m6 x20.1 true)))
def F.j (k29:(List Int)→(List (Int×Bool))→Int→Option (Bool×((List (Int×D70))×(List Int)×(List (Int×Int)))))(a1:D23)(xs5:List Int)(m6:List (Int×Bool))(y7:Int):Nat→Int→Option (Bool×((List (Int×D70))×(List Int)×(List (Int×Int))))
 |0,_=>none
 |f+1,y16=>if y16<(a1.length:Int)then((A.ix a1 y16).bind fun x20=>(A.lt (Z.mget (false:Bool) m6 x20.1) fun x28=>(if x28=true then(F.aZ (F.j k29 a1 xs5 m6 y7 f) y16)else(F.az k29 (F.j k29 a1 xs5 m6 y7 f) xs5 m6 y7 y16 x20 A.FU 0))))else(F.aY k29 y7 xs5 m6)
def F.p (a0:((List (Int×D70))×(List Int)×(List (Int×Int))))(a1:D23):Nat→(List Int)→(List (Int×Bool))→Int→Option (Bool×((List (Int×D70))×(List Int)×(List (Int×Int))))
 |0,_,_,_=>none
 |f+1,xs5,m6,y7=>if y7<(a1.length:Int)then(F.j (F.p a0 a1 f) a1 xs5 m6 y7 A.FU 0)else(some (decide ((xs5.length:Int)=(a1.length:Int)),(a0.1,xs5,a0.2.2)))
def F.aK (a0:((List (Int×D70))×(List Int)×(List (Int×Int))))(a1:D23):Option (Bool×((List (Int×D70))×(List Int)×(List (Int×Int)))):=F.p a0 a1 A.FU a0.2.1 [] 0
theorem o_aH(a0:((List (Int×D70))×(List Int)×(List (Int×Int))))(a1:D23)(r:Bool×((List (Int×D70))×(List Int)×(List (Int×Int))))(hF:F.aK a0 a1=some r):
    A.Ct Tryz.prog 84 [.pointer (some ⟨g0_,0,none⟩),.agg #[.slice A5_ a1.length c6_]] [(0,.blk g0_ 131 [.map (some b1_),.slice A2_ a0.2.1.length c3_,.map (some b4_)]),(1,.mp Int (fun i:Int=>A.i i) T70 true b1_ a0.1),(2,.own A.ti 3 A2_ c3_ a0.2.1),(3,.mp Int (fun i:Int=>A.i i) A.ti false b4_ a0.2.2),(4,.sh (.slice T70) [.slice A5_ a1.length c6_] a1)] ([g0_]++([b1_]++(Z.obl A2_++([b4_]++[])))) (fun v H'=>∃(b0':Nat) (A1':Option Addr) (c2':Nat) (b3':Nat),v=.bool r.1∧H'=[(0,.blk g0_ 131 [.map (some b0'),.slice A1' r.2.2.1.length c2',.map (some b3')]),(1,.mp Int (fun i:Int=>A.i i) T70 true b0' r.2.1),(2,.own A.ti 3 A1' c2' r.2.2.1),(3,.mp Int (fun i:Int=>A.i i) A.ti false b3' r.2.2.2)]):=by
 refine A.Ct.enter Tryz.func84 rfl Tryz.ntmps84 rfl fun w0 F0=>?_;rw[F.aK]at hF;refine A.xl 1 ?_;refine A.AL.box 5 (cs:=[.slice A5_ a1.length c6_]) fun g1=>?_;refine A.n 1 [] (A.dl 2 ?_);refine A.AL.mkm 6 Int (fun i:Int=>A.i i) Z.Ty.bool false fun b2=>?_;refine A.n 1 [(5,.map (some b2))] (A.dl 3 ?_);refine A.q0 [5] [] [.n,.b 0 0,.n,.n] [(13,A.i (a1.length:Int)),(14,A.i 0)] (A.dx 2 ?_);refine A.lp_ [0,3,5,13] [1,3,4,5] (fun f nl nh=>∃(xs5:List Int),∃(m6:List (Int×Bool)),∃(y7:Int),∃(A3:Option Addr),∃(c4:Nat),nl=[(14,A.i y7)]∧nh=[(0,.blk g0_ 131 [.map (some b1_),.slice A3 xs5.length c4,.map (some b4_)]),(2,.own A.ti 3 A3 c4 xs5),(6,.mp Int (fun i:Int=>A.i i) Z.Ty.bool false b2 m6)]∧A.h6 y7∧F.p a0 a1 f xs5 m6 y7=some r) ⟨a0.2.1,[],0,A2_,c3_,rfl,rfl,A.z0,hF⟩ ?_;rintro f9 _ _ ⟨xs5,m6,y7,A3,c4,rfl,rfl,hy8,hF⟩;rcases f9 with _|f9
 ·exact A.no0 hF
 rw[F.p]at hF;refine A.xl 1 ?_;refine A.n 1 [(15,.bool (decide (y7<(a1.length:Int))))] (A.dx 2 ?_);refine A.c hF ?_ ?_<;>intro hb hF
 ·refine A.xx 2 ?_;refine A.AX.join [0,3,5,13,14] [1,3,4,5] (fun nl nh=>∃(xs12:List Int),∃(m14:List (Int×Bool)),∃(A10:Option Addr),∃(c11:Nat),nl=[]∧nh=[(0,.blk g0_ 131 [.map (some b1_),.slice A10 xs12.length c11,.map (some b4_)]),(2,.own A.ti 3 A10 c11 xs12),(6,.mp Int (fun i:Int=>A.i i) Z.Ty.bool false b2 m14)]∧F.aY (F.p a0 a1 f9) y7 xs12 m14=some r) ?_ ?_
  ·refine A.xx 1 ?_;refine A.AX.scope ?_;refine A.xl 4 ?_;refine A.q0 [5] [] [.n,.b 0 0,.n,.n] [(17,.slice A5_ a1.length c6_),(18,A.i (a1.length:Int)),(19,A.i 0)] (A.dx 2 ?_);refine A.lp_ [0,3,5,13,14,17,18] l2e (fun f nl nh=>∃(y16:Int),nl=[(19,A.i y16)]∧nh=[]∧A.h6 y16∧F.j (F.p a0 a1 f9) a1 xs5 m6 y7 f y16=some r) ⟨0,rfl,rfl,A.z0,hF⟩ ?_;rintro f18 _ _ ⟨y16,rfl,rfl,hy17,hF⟩;rcases f18 with _|f18
   ·exact A.no0 hF
   rw[F.j]at hF;refine A.xl 1 ?_;refine A.n 1 [(20,.bool (decide (y16<(a1.length:Int))))] (A.dx 2 ?_);refine A.c hF ?_ ?_<;>intro hb hF
   ·refine A.xx 2 ?_;refine A.AX.join [0,3,5,13,14,17,18,19] l2e (fun nl nh=>nl=[]∧nh=[]∧F.aZ (F.j (F.p a0 a1 f9) a1 xs5 m6 y7 f18) y16=some r) ?_ ?_
    ·refine A.xl 2 ?_;have⟨x20,hv21,hF⟩:=A.b hF;refine A.AL.ixs 4 111 hv21 fun ho22=>?_;intro A23 c24 b25 o26;refine A.q0 [] [111] [.e 0 0] [(22,.agg #[A.i x20.1,A.i x20.2.1,.slice A23 x20.2.2.1.length c24,A.i x20.2.2.2.1.1,A.i x20.2.2.2.1.2.1,.string x20.2.2.2.1.2.2,.string x20.2.2.2.2.1,A.i x20.2.2.2.2.2.1,A.i x20.2.2.2.2.2.2])] ?_;refine A.AL.alloc 113 (cs:=l2a) Tryz.zeroValue71 fun g27=>?_;refine A.sw 113 [] [A.i x20.1,A.i x20.2.1,.slice A23 x20.2.2.1.length c24,A.i x20.2.2.2.1.1,A.i x20.2.2.2.1.2.1,.string x20.2.2.2.1.2.2,.string x20.2.2.2.2.1,A.i x20.2.2.2.2.2.1,A.i x20.2.2.2.2.2.2] ?_;refine A.dl 3 ?_;refine A.q0 [113] [] [.n,.n,.b 0 0] [(23,.map (some b2)),(25,A.i x20.1)] ?_;obtain⟨x28,hv29,hF⟩:=A.lt_some hF;refine A.AL.lku (t:=Z.Ty.bool) 6 114 (z:=(false:Bool)) (zs:=[.bool false]) ky3 x20.1 Tryz.zeroValue4 rfl hv29 fun ho30=>?_;refine A.dx 1 ?_;refine A.d hF ?_ ?_<;>intro hb hF
     ·refine A.xe 1 ?_;exact A.j ⟨rfl,rfl,hF⟩
     refine A.xl 4 ?_;refine A.q0 [113] [] [.n,.b 0 2,.n,.n] [(28,.slice A23 x20.2.2.1.length c24),(29,A.i (x20.2.2.1.length:Int)),(30,A.i 0)] (A.dx 2 ?_);refine A.lp_ [0,3,5,7,13,14,17,18,19,28,29] [0,1,2,3,4,5,6,112,113] (fun f nl nh=>∃(y31:Int),nl=[(30,A.i y31)]∧nh=[]∧A.h6 y31∧F.az (F.p a0 a1 f9) (F.j (F.p a0 a1 f9) a1 xs5 m6 y7 f18) xs5 m6 y7 y16 x20 f y31=some r) ⟨0,rfl,rfl,A.z0,hF⟩ ?_;rintro f33 _ _ ⟨y31,rfl,rfl,hy32,hF⟩;rcases f33 with _|f33
     ·exact A.no0 hF
     rw[F.az]at hF;refine A.xl 1 ?_;refine A.n 1 [(31,.bool (decide (y31<(x20.2.2.1.length:Int))))] (A.dx 2 ?_);refine A.c hF ?_ ?_<;>intro hb hF
     ·refine A.xl 5 ?_;have⟨x34,hv35,hF⟩:=A.b hF;refine A.AL.ixs 112 121 hv35 fun ho36=>?_;intro b37 o38;refine A.q0 [] [121] [.e 0 0,.n] [(9,A.i x34)] (A.dl 2 ?_);refine A.n 2 [(34,.map (some b2)),(35,A.i x34)] ?_;obtain⟨x39,hv40,hF⟩:=A.lt_some hF;refine A.AL.lku (t:=Z.Ty.bool) 6 122 (z:=(false:Bool)) (zs:=[.bool false]) ky3 x34 Tryz.zeroValue4 rfl hv40 fun ho41=>?_;refine A.q0 [113] [] [.n,.n,.sy .n,.sy (.b 0 1),.sy .n,.pk] [(42,.bool (bif !x39 then decide (x20.2.1≠14)else false))] (A.dx 1 ?_);refine A.d hF ?_ ?_<;>intro hb hF
      ·refine A.xe 1 ?_;exact A.j ⟨rfl,rfl,hF⟩
      refine A.xl 3 ?_;have⟨hc42,hF⟩:=A.g hF;refine A.m 2 [Z.R64 (y31+1)] [(30,A.i (y31+1))] hc42 (A.AL.done ?_);exact A.j ⟨_,Nat.lt_succ_self _,⟨(y31+1),rfl,rfl,(Z.i64_has hc42),hF⟩⟩
     refine A.xl 3 ?_;refine A.q0 [113] [] [.n,.n,.b 0 0] [(44,.map (some b2)),(46,A.i x20.1)] ?_;refine A.AL.mup (t:=Z.Ty.bool) 6 [] (cs:=[.bool true]) (u:=true) ky3 x20.1 rfl ?_;refine A.dx 2 ?_;refine A.AX.dr mixed 11 12 (A.mb 12 0) ?_;refine A.hq A.pb [] l2l [113,0] [] (A.mb 12 127) 5 [(0,.n),(1,.n),(5,.n),(2,.n),(6,.b 0 0),(3,.n),(4,.b 1 1)] [(47,.pointer (some ⟨g0_,0,none⟩)),(53,A.i x20.1),(51,.slice A3 xs5.length c4)] ?_;refine A.AH.one 7 ?_;refine A.AL.bsl 123 (ty:=A.ti) (cs:=[A.i x20.1]) [x20.1] ⟨⟨rfl,ho22.1⟩,rfl⟩ (fun g43=>?_) Tryz.zeroValue3 Tryz.sizeOf3
     refine A.AH.nx (A.mb 12 255) l2l ?_;refine A.AH.one 8 ?_;have⟨hl46,hF⟩:=A.g hF;refine A.AL.app (k:=2) [] (A.rowO (k:=123) rfl) inf3 hl46 fun A44 c45=>?_;refine A.AH.nx (A.mb 12 511) l2l ?_;refine A.hq A.pb l2l [0,1,2,3,4,5,6,112,113,123] [] [] (A.mb 12 2047) 1 [(9,.n),(10,.n)] [(57,.pointer (some ⟨g0_,1,none⟩))] ?_;refine A.AH.one 11 ?_;refine A.AL.store 0 [] (new:=[.slice A44 ((xs5++[x20.1]).length) c45]) (cs':=[.map (some b1_),.slice A44 ((xs5++[x20.1]).length) c45,.map (some b4_)]) ?_;refine A.AH.nm (A.mb 12 4095) ?_;refine A.AH.done ?_;refine A.ee 4 ?_;exact A.j ⟨(xs5++[x20.1]),(Z.mins m6 x20.1 true),A44,c45,rfl,rfl,hF⟩
    rintro _ _ ⟨rfl,rfl,hF⟩;rw[F.aZ]at hF;refine A.xl 0 ?_;have⟨hc19,hF⟩:=A.g hF;refine A.m 2 [Z.R64 (y16+1)] [(19,A.i (y16+1))] hc19 (A.AL.done ?_);exact A.j ⟨_,Nat.lt_succ_self _,⟨(y16+1),rfl,rfl,(Z.i64_has hc19),hF⟩⟩
   refine A.xe 3 ?_;exact A.j ⟨xs5,m6,A3,c4,rfl,rfl,hF⟩
  rintro _ _ ⟨xs12,m14,A10,c11,rfl,rfl,hF⟩;rw[F.aY]at hF;refine A.xl 0 ?_;have⟨hc15,hF⟩:=A.g hF;refine A.m 2 [Z.R64 (y7+1)] [(14,A.i (y7+1))] hc15 (A.AL.done ?_);exact A.j ⟨_,Nat.lt_succ_self _,⟨xs12,m14,(y7+1),A10,c11,rfl,rfl,(Z.i64_has hc15),hF⟩⟩
 refine A.xx 3 ?_;refine A.AX.dr mixed 10 10 (A.mb 10 0) ?_;refine A.hq A.pb [] l2e [5,0] [] (A.mb 10 1023) 0 [(0,.n),(5,.n),(1,.n),(6,.b 0 0),(2,.n),(7,.n),(3,.b 1 1),(4,.n),(8,.n),(9,.n)] [(4,.bool (decide ((xs5.length:Int)=(a1.length:Int))))] (A.AH.done ?_);refine A.ex 1 ?_;obtain rfl:=A.si hF;exact A.rt1 [(0,0),(1,1),(2,2),(3,3)] ⟨b1_,A3,c4,b4_,rfl,rfl⟩
def F.bo (y12:Int):Option (Int×Bool):=some (y12,bif decide ((0:Int)≤y12)then decide (y12≤4)else false)
def F.bp (x8:Int):Option (Int×Bool):=some (x8,decide (x8=0))
def F.bq (a1:D70)(x8:Int)(y11:Bool):Option (Int×Bool):=if y11=true then(some (0,false))else(if a1.2.1=12 then(A.gd (Z.R64 (x8+1)) (F.bo (x8+1)))else(if a1.2.1=13 then(A.gd (Z.R64 (x8-1)) (F.bo (x8-1)))else(if a1.2.1=11 then(F.bp x8)else(if a1.2.1=16 then(F.bp x8)else(if a1.2.1=15 then(F.bp x8)else(F.bo x8))))))
def F.b2 (a0:((List (Int×D70))×(List Int)×(List (Int×Int))))(a1:D70):Option (Int×Bool):=if a1.2.1=1 then(some (0,true))else(if a1.2.1=14 then(some (a1.2.2.2.2.2.2,true))else((A.ix a1.2.2.1 0).bind fun x2=>(A.lt (Z.mget (0:Int) a0.2.2 x2) fun x8=>(if(1:Int)<(a1.2.2.1.length:Int)then((A.ix a1.2.2.1 1).bind fun x16=>(A.lt (Z.mget (0:Int) a0.2.2 x16) fun x22=>(F.bq a1 x8 (decide (x22≠x8)))))else(F.bq a1 x8 false)))))
theorem o_aO(a0:((List (Int×D70))×(List Int)×(List (Int×Int))))(a1:D70)(h5_:A.h6 a1.1)(h6_:A.h6 a1.2.1)(h9_:A.h6 a1.2.2.2.1.1)(h10_:A.h6 a1.2.2.2.1.2.1)(h11_:a1.2.2.2.1.2.2.size≤maxLen)(h12_:a1.2.2.2.2.1.size≤maxLen)(h13_:A.h6 a1.2.2.2.2.2.1)(h14_:A.h6 a1.2.2.2.2.2.2)(r:Int×Bool)(hF:F.b2 a0 a1=some r):
    A.Ct Tryz.prog 111 [.pointer (some ⟨g0_,0,none⟩),.agg #[A.i a1.1,A.i a1.2.1,.slice A7_ a1.2.2.1.length c8_,A.i a1.2.2.2.1.1,A.i a1.2.2.2.1.2.1,.string a1.2.2.2.1.2.2,.string a1.2.2.2.2.1,A.i a1.2.2.2.2.2.1,A.i a1.2.2.2.2.2.2]] [(0,.blk g0_ 131 [.map (some b1_),.slice A2_ a0.2.1.length c3_,.map (some b4_)]),(1,.mp Int (fun i:Int=>A.i i) T70 true b1_ a0.1),(2,.own A.ti 3 A2_ c3_ a0.2.1),(3,.mp Int (fun i:Int=>A.i i) A.ti false b4_ a0.2.2),(4,.sh A.TI [.slice A7_ a1.2.2.1.length c8_] a1.2.2.1)] ([g0_]++([b1_]++(Z.obl A2_++([b4_]++[])))) (fun v H'=>v=.tuple #[A.i r.1,.bool r.2]∧H'=[(0,.blk g0_ 131 [.map (some b1_),.slice A2_ a0.2.1.length c3_,.map (some b4_)]),(1,.mp Int (fun i:Int=>A.i i) T70 true b1_ a0.1),(2,.own A.ti 3 A2_ c3_ a0.2.1),(3,.mp Int (fun i:Int=>A.i i) A.ti false b4_ a0.2.2)]∧A.h6 r.1):=by
 refine A.Ct.enter Tryz.func111 rfl Tryz.ntmps111 rfl fun w0 F0=>?_;rw[F.b2]at hF;refine A.xl 1 ?_;refine A.AL.box 5 (cs:=[A.i a1.1,A.i a1.2.1,.slice A7_ a1.2.2.1.length c8_,A.i a1.2.2.2.1.1,A.i a1.2.2.2.1.2.1,.string a1.2.2.2.1.2.2,.string a1.2.2.2.2.1,A.i a1.2.2.2.2.2.1,A.i a1.2.2.2.2.2.2]) fun g1=>?_;refine A.n 2 [] (A.dl 3 ?_);refine A.q0 [5] [] [.n,.b 0 1] [(8,A.i a1.2.1)] (A.dl 3 ?_);refine A.n 2 [(9,.bool (decide (a1.2.1=1)))] (A.dx 1 ?_);refine A.c hF ?_ ?_<;>intro hb hF
 ·refine A.xl 1 ?_;refine A.n 2 [(4,A.i 0),(5,.bool true)] (A.dx 1 ?_);obtain rfl:=A.si hF;exact A.rt2 [(0,0),(1,1),(2,2),(3,3)] ⟨rfl,rfl,A.z0⟩
 refine A.xl 1 ?_;refine A.n 2 [(11,.bool (decide (a1.2.1=14)))] (A.dx 1 ?_);refine A.c hF ?_ ?_<;>intro hb hF
 ·refine A.xl 1 ?_;refine A.q0 [5] [] [.n,.b 0 8,.n,.n] [(4,A.i a1.2.2.2.2.2.2),(5,.bool true)] (A.dx 1 ?_);obtain rfl:=A.si hF;exact A.rt2 [(0,0),(1,1),(2,2),(3,3)] ⟨rfl,rfl,h14_⟩
 refine A.xx 4 ?_;refine A.AX.dr mixed 10 10 (A.mb 10 0) ?_;refine A.hq A.pb [] l2p [5,0] [] (A.mb 10 63) 4 [(0,.n),(4,.n),(1,.n),(5,.b 0 2),(2,.n),(3,.b 1 2)] [(20,.slice A7_ a1.2.2.1.length c8_),(18,.map (some b4_))] ?_;have⟨x2,hv3,hF⟩:=A.b hF;refine A.AH.pks 4 6 hv3 fun ho4=>?_;intro b6 o7 hA5;refine A.AH.v A.pb l2p l2e 6 (A.mb 10 127) rfl (fun a w hf hh=>A.r_ixa (t:=A.ti) hv3 hA5 hf) ?_;refine A.hq A.pb l2e l2e [] [6] (A.mb 10 255) 2 [(7,.e 0 0)] [(22,A.i x2)] ?_;obtain⟨x8,hv9,hF⟩:=A.lt_some hF;refine A.okm (t:=A.ti) 3 x2 (z:=(0:Int)) (zs:=l2o) ⟨rfl,by decide⟩ hv9 fun ho10=>?_;refine A.AH.v A.pb l2e l2e 8 (A.mb 10 511) rfl (fun a w hf hh=>A.r_lkf (t:=A.ti) (ok:=false) (z:=(0:Int)) (zs:=l2o) 3 ky3 x2 Tryz.zeroValue3 ⟨rfl,by decide⟩ hv9 rfl hf hh) ?_;refine A.hq A.pb l2e l2e [] [] (A.mb 10 1023) 0 [(9,.n)] [(6,A.i x8)] (A.AH.done ?_);refine A.ex 2 ?_;refine A.AX.join [3,6] l2p (fun nl nh=>∃(y11:Bool),nl=[(40,.bool y11)]∧nh=[]∧F.bq a1 x8 y11=some r) ?_ ?_
 ·refine A.AX.dr mixed 17 17 (A.mb 17 0) ?_;refine A.hq A.pb [] l2e [5] [] (A.mb 17 31) 12 [(0,.n),(1,.b 0 2),(2,.n),(3,.n),(4,.n)] [(28,.bool (decide ((1:Int)<(a1.2.2.1.length:Int))))] ?_;refine A.AH.cnp (j:=28) rfl hF ?_ ?_<;>intro hb hF
  ·refine A.hq A.pb l2e l2e [5,0] [] (A.mb 17 18431) 5 [(5,.on .n),(9,.on .n),(14,.on .n),(6,.on .n),(10,.on (.b 0 2)),(7,.on .n),(8,.on (.b 1 2))] [(38,A.i x8),(34,.slice A7_ a1.2.2.1.length c8_),(32,.map (some b4_))] ?_;have⟨x16,hv17,hF⟩:=A.b hF;refine A.AH.pks 4 7 hv17 fun ho18=>?_;intro b20 o21 hA19;refine A.AH.vg A.pb l2e l2k 11 (A.mb 17 20479) (dj:=28) rfl (fun a w hf hh=>A.r_ixa (t:=A.ti) hv17 hA19 hf) ?_;refine A.hq A.pb l2k l2k [] [7] (A.mb 17 24575) 3 [(12,.on (.e 0 0))] [(36,A.i x16)] ?_;obtain⟨x22,hv23,hF⟩:=A.lt_some hF;refine A.okm (t:=A.ti) 3 x16 (z:=(0:Int)) (zs:=l2o) ⟨rfl,by decide⟩ hv23 fun ho24=>?_;refine A.AH.vg A.pb l2k l2k 13 (A.mb 17 32767) (dj:=28) rfl (fun a w hf hh=>A.r_lkf (t:=A.ti) (ok:=false) (z:=(0:Int)) (zs:=l2o) 3 ky3 x16 Tryz.zeroValue3 ⟨rfl,by decide⟩ hv23 rfl hf hh) ?_;refine A.hq A.pb l2k l2k [] [] (A.mb 17 131071) 0 [(15,.on .n),(16,.n)] [(40,.bool (decide (x22≠x8)))] (A.AH.done ?_);exact A.j ⟨(decide (x22≠x8)),rfl,rfl,hF⟩
  refine A.hq A.pb l2e l2e [] [] (A.mb 17 131071) 0 [(5,.off),(9,.off),(14,.off),(6,.off),(10,.off),(7,.off),(11,.off),(8,.off),(12,.off),(13,.off),(15,.off),(16,.n)] [(40,.bool false)] (A.AH.done ?_);exact A.j ⟨false,rfl,rfl,hF⟩
 rintro _ _ ⟨y11,rfl,rfl,hF⟩;rw[F.bq]at hF;refine A.d hF ?_ ?_<;>intro hb hF
 ·refine A.xl 1 ?_;refine A.n 2 [(4,A.i 0),(5,.bool false)] (A.dx 1 ?_);obtain rfl:=A.si hF;exact A.rt2 [(0,0),(1,1),(2,2),(3,3)] ⟨rfl,rfl,A.z0⟩
 refine A.xx 2 ?_;refine A.AX.join [] [0,1,2,3] (fun nl nh=>∃(y12:Int),nl=[(6,A.i y12)]∧nh=[]∧A.h6 y12∧F.bo y12=some r) ?_ ?_
 ·refine A.xl 1 ?_;refine A.q0 [5] [] [.n,.b 0 1] [(42,A.i a1.2.1)] (A.dx 2 ?_);refine A.AX.join [6] [0,1,2,3] (fun nl nh=>nl=[]∧nh=[]∧F.bp x8=some r) ?_ ?_
  ·refine A.xl 10 ?_;refine A.n 2 [(43,.bool (decide (a1.2.1=12)))] (A.dx 1 ?_);refine A.c hF ?_ ?_<;>intro hb hF
   ·refine A.xl 3 ?_;have⟨hc14,hF⟩:=A.g hF;refine A.m 3 [Z.R64 (x8+1)] [(6,A.i (x8+1))] hc14 (A.de 2 ?_);exact A.j ⟨(x8+1),rfl,rfl,(Z.i64_has hc14),hF⟩
   refine A.xl 4 ?_;refine A.n 2 [(45,.bool (decide (a1.2.1=13)))] (A.dx 1 ?_);refine A.c hF ?_ ?_<;>intro hb hF
   ·refine A.xl 3 ?_;have⟨hc15,hF⟩:=A.g hF;refine A.m 3 [Z.R64 (x8-1)] [(6,A.i (x8-1))] hc15 (A.de 2 ?_);exact A.j ⟨(x8-1),rfl,rfl,(Z.i64_has hc15),hF⟩
   refine A.xl 4 ?_;refine A.n 2 [(47,.bool (decide (a1.2.1=11)))] (A.dx 1 ?_);refine A.c hF ?_ ?_<;>intro hb hF
   ·refine A.xe 3 ?_;exact A.j ⟨rfl,rfl,hF⟩
   refine A.xl 4 ?_;refine A.n 2 [(49,.bool (decide (a1.2.1=16)))] (A.dx 1 ?_);refine A.c hF ?_ ?_<;>intro hb hF
   ·refine A.xe 2 ?_;exact A.j ⟨rfl,rfl,hF⟩
   refine A.xl 3 ?_;refine A.n 2 [(51,.bool (decide (a1.2.1=15)))] (A.dx 1 ?_);refine A.c hF ?_ ?_<;>intro hb hF
   ·refine A.xe 1 ?_;exact A.j ⟨rfl,rfl,hF⟩
   refine A.xe 3 ?_;exact A.j ⟨x8,rfl,rfl,ho10,hF⟩
  rintro _ _ ⟨rfl,rfl,hF⟩;rw[F.bp]at hF;refine A.xl 2 ?_;refine A.n 5 [(4,A.i x8),(5,.bool (decide (x8=0)))] (A.dx 1 ?_);obtain rfl:=A.si hF;exact A.rt2 [(0,0),(1,1),(2,2),(3,3)] ⟨rfl,rfl,ho10⟩
 rintro _ _ ⟨y12,rfl,rfl,hy13,hF⟩;rw[F.bo]at hF;refine A.xl 1 ?_;refine A.q0 [] [] [.n,.n,.n,.n,.sy .n,.sy .n,.pk,.n,.n] [(4,A.i y12),(5,.bool (bif decide ((0:Int)≤y12)then decide (y12≤4)else false))] (A.dx 1 ?_);obtain rfl:=A.si hF;exact A.rt2 [(0,0),(1,1),(2,2),(3,3)] ⟨rfl,rfl,hy13⟩
def F.a8 (a0:((List (Int×D70))×(List Int)×(List (Int×Int))))(m1:List (Int×Int))(y32:Bool):Option (Option (Bool×((List (Int×D70))×(List Int)×(List (Int×Int))))):=if y32=true then(some (some (false,(a0.1,a0.2.1,m1))))else(some none)
def F.aF (a0:((List (Int×D70))×(List Int)×(List (Int×Int))))(m1:List (Int×Int))(p23:Int×D70):Option (Option (Bool×((List (Int×D70))×(List Int)×(List (Int×Int))))):=if p23.2.2.1=14 then((A.ix p23.2.2.2.1 0).bind fun x33=>(A.lt (Z.mget (0:Int) m1 x33) fun x39=>(F.a8 a0 m1 (decide (x39≠p23.2.2.2.2.2.2.2)))))else(F.a8 a0 m1 false)
def F.n (a0:((List (Int×D70))×(List Int)×(List (Int×Int)))):Nat→(List (Int×Int))→Int→Option (Bool×((List (Int×D70))×(List Int)×(List (Int×Int))))
 |0,_,_=>none
 |f+1,m1,y2=>if y2<(a0.2.1.length:Int)then((A.ix a0.2.1 y2).bind fun x5=>(A.lt (Z.mget ((0,0,[],(0,0,(ByteArray.mk #[])),(ByteArray.mk #[]),0,0):D70) a0.1 x5) fun x10=>((F.b2 (a0.1,a0.2.1,m1) x10).bind fun r15=>(if(!r15.2)=true then(some (false,(a0.1,a0.2.1,m1)))else(A.gd (Z.R64 (y2+1)) ((F.n a0 f) (Z.mins m1 x5 r15.1) (y2+1)))))))else(A.mrg (F.aF a0 m1) (some (true,(a0.1,a0.2.1,m1))) a0.1)
def F.aI (a0:((List (Int×D70))×(List Int)×(List (Int×Int)))):Option (Bool×((List (Int×D70))×(List Int)×(List (Int×Int)))):=F.n a0 A.FU a0.2.2 0
theorem o_av(a0:((List (Int×D70))×(List Int)×(List (Int×Int))))(r:Bool×((List (Int×D70))×(List Int)×(List (Int×Int))))(hF:F.aI a0=some r):
    A.Ct Tryz.prog 85 [.pointer (some ⟨g0_,0,none⟩)] [(0,.blk g0_ 131 [.map (some b1_),.slice A2_ a0.2.1.length c3_,.map (some b4_)]),(1,.mp Int (fun i:Int=>A.i i) T70 true b1_ a0.1),(2,.own A.ti 3 A2_ c3_ a0.2.1),(3,.mp Int (fun i:Int=>A.i i) A.ti false b4_ a0.2.2)] ([g0_]++([b1_]++(Z.obl A2_++([b4_]++[])))) (fun v H'=>∃(b0':Nat) (A1':Option Addr) (c2':Nat) (b3':Nat),v=.bool r.1∧H'=[(0,.blk g0_ 131 [.map (some b0'),.slice A1' r.2.2.1.length c2',.map (some b3')]),(1,.mp Int (fun i:Int=>A.i i) T70 true b0' r.2.1),(2,.own A.ti 3 A1' c2' r.2.2.1),(3,.mp Int (fun i:Int=>A.i i) A.ti false b3' r.2.2.2)]):=by
 refine A.Ct.enter Tryz.func85 rfl Tryz.ntmps85 rfl fun w0 F0=>?_;rw[F.aI]at hF;refine A.xl 1 ?_;refine A.n 1 [] (A.dl 3 ?_);refine A.q0 [0] [] [.n,.n,.n,.b 0 1,.n,.n] [(12,.slice A2_ a0.2.1.length c3_),(13,A.i (a0.2.1.length:Int)),(14,A.i 0)] (A.dx 2 ?_);refine A.lp_ [0,12,13] [0,1,2] (fun f nl nh=>∃(m1:List (Int×Int)),∃(y2:Int),nl=[(14,A.i y2)]∧nh=[(3,.mp Int (fun i:Int=>A.i i) A.ti false b4_ m1)]∧A.h6 y2∧F.n a0 f m1 y2=some r) ⟨a0.2.2,0,rfl,rfl,A.z0,hF⟩ ?_;rintro f4 _ _ ⟨m1,y2,rfl,rfl,hy3,hF⟩;rcases f4 with _|f4
 ·exact A.no0 hF
 rw[F.n]at hF;refine A.xl 1 ?_;refine A.n 1 [(15,.bool (decide (y2<(a0.2.1.length:Int))))] (A.dx 2 ?_);refine A.c hF ?_ ?_<;>intro hb hF
 ·refine A.xl 5 ?_;have⟨x5,hv6,hF⟩:=A.b hF;refine A.AL.ixo 2 96 hv6 fun ho7=>?_;intro g8 hA9;refine A.q0 [] [96] [.e 0 0,.n] [(4,A.i x5)] (A.dl 2 ?_);refine A.q0 [0] [] [.n,.n,.n,.n,.b 0 0,.n] [(19,.pointer (some ⟨g0_,0,none⟩)),(23,.map (some b1_)),(24,A.i x5)] ?_;obtain⟨x10,hv11,hF⟩:=A.lt_some hF;refine A.AL.lku (t:=T70) 1 97 (z:=((0,0,[],(0,0,(ByteArray.mk #[])),(ByteArray.mk #[]),0,0):D70)) (zs:=l2a) ky3 x5 Tryz.zeroValue71 ⟨⟨rfl,by decide⟩,⟨rfl,by decide⟩,(.inr ⟨rfl,rfl⟩),⟨⟨rfl,by decide⟩,⟨rfl,by decide⟩,⟨rfl,by decide⟩⟩,⟨rfl,by decide⟩,⟨rfl,by decide⟩,⟨rfl,by decide⟩⟩ hv11 fun ho12=>?_;intro A13 c14;refine A.v 98 [96] hF (o_aO A2_ A13 g0_ b1_ c3_ b4_ c14 (a0.1,a0.2.1,m1) x10 ho12.1 ho12.2.1 ho12.2.2.2.1.1 ho12.2.2.2.1.2.1 ho12.2.2.2.1.2.2 ho12.2.2.2.2.1 ho12.2.2.2.2.2.1 ho12.2.2.2.2.2.2) (.m 0 (.m 1 (.m 2 (.m 3 (.s 97 .nil))))) ?_;rintro r15 - hF _ _ ⟨rfl,rfl,hr17⟩;refine A.ck ?_;refine A.mvd 98 0 [] ?_;refine A.mvd 99 1 [] ?_;refine A.mvd 100 2 [] ?_;refine A.mvd 101 3 [] ?_;refine A.n 5 [(5,A.i r15.1),(6,.bool r15.2)] (A.dl 3 ?_);refine A.n 2 [(30,.bool (!r15.2))] (A.dx 1 ?_);refine A.d hF ?_ ?_<;>intro hb hF
  ·refine A.xl 1 ?_;refine A.n 1 [(2,.bool false)] (A.dx 1 ?_);obtain rfl:=A.si hF;exact A.rt1 [(0,0),(1,1),(2,2),(3,3)] ⟨b1_,A2_,c3_,b4_,rfl,rfl⟩
  refine A.xl 2 ?_;refine A.q0 [0] [] [.n,.n,.n,.b 0 2,.n,.n] [(34,.map (some b4_)),(35,A.i x5),(36,A.i r15.1)] ?_;refine A.AL.mup (t:=A.ti) 3 [] (cs:=[A.i r15.1]) (u:=r15.1) ky3 x5 ⟨rfl,hr17⟩ ?_;refine A.dl 2 ?_;have⟨hc18,hF⟩:=A.g hF;refine A.m 2 [Z.R64 (y2+1)] [(14,A.i (y2+1))] hc18 (A.AL.done ?_);exact A.j ⟨_,Nat.lt_succ_self _,⟨(Z.mins m1 x5 r15.1),(y2+1),rfl,rfl,(Z.i64_has hc18),hF⟩⟩
 refine A.xl 4 ?_;refine A.q0 [0] [] [.n,.n,.n,.b 0 0] [(41,.map (some b1_))] ?_;refine A.AL.rgm 1 138 fun g19=>?_;refine A.dx 2 ?_;obtain⟨hev,hend⟩:=A.mrg_all hF;refine A.AX.loop [0,42] [0,1,2,3] [138,0,1,2,3] (fun f nl nh=>∃(sn:List Nat) (la:Option (Value×Value)),nl=[]∧nh=[(138,.mit 1 g19 b1_ a0.1.length sn la)]∧sn.Nodup∧(∀i∈sn,i<a0.1.length)∧(∀i∈sn,∀p,(a0.1)[i]?=some p→F.aF a0 m1 p=some none)∧f+sn.length=a0.1.length+1) (a0.1.length+1) [] [(138,.mit 1 g19 b1_ a0.1.length [] none)] ⟨[],none,rfl,rfl,List.nodup_nil,by simp,by simp,rfl⟩ ?_;rintro f22 _ _ ⟨sn20,la21,rfl,rfl,hnd,hbd,hse,hff⟩;refine A.xl 1 ?_;refine A.AL.nxm 1 138 139 (fun hall=>?_) (fun i24 p23 hp25 hs26 ho27=>?_)
 ·replace hF:=hend (A.seen_all hse hall)
  refine A.n 1 [(44,.bool false)] (A.dx 2 ?_);refine A.AX.cnf rfl ?_;refine A.xl 3 ?_;refine A.n 1 [(2,.bool true)] (A.dx 1 ?_);obtain rfl:=A.si hF;exact A.rt1 [(0,0),(1,1),(2,2),(3,3)] ⟨b1_,A2_,c3_,b4_,rfl,rfl⟩
 intro A28 c29;obtain⟨q,hB,hq⟩:=hev p23 (List.mem_of_getElem? hp25)
 have hF:=hB
 rw[F.aF]at hF;refine A.n 1 [(44,.bool true)] (A.dx 2 ?_);refine A.AX.cnt rfl ?_;refine A.xl 4 ?_;refine A.AL.ent 138 ?_;refine A.n 1 [(46,.agg #[A.i p23.2.1,A.i p23.2.2.1,.slice A28 p23.2.2.2.1.length c29,A.i p23.2.2.2.2.1.1,A.i p23.2.2.2.2.1.2.1,.string p23.2.2.2.2.1.2.2,.string p23.2.2.2.2.2.1,A.i p23.2.2.2.2.2.2.1,A.i p23.2.2.2.2.2.2.2])] ?_;refine A.AL.alloc 140 (cs:=l2a) Tryz.zeroValue71 fun g31=>?_;refine A.sw 140 [] [A.i p23.2.1,A.i p23.2.2.1,.slice A28 p23.2.2.2.1.length c29,A.i p23.2.2.2.2.1.1,A.i p23.2.2.2.2.1.2.1,.string p23.2.2.2.2.1.2.2,.string p23.2.2.2.2.2.1,A.i p23.2.2.2.2.2.2.1,A.i p23.2.2.2.2.2.2.2] ?_;refine A.dx 1 ?_;refine A.AX.join [0,42] [0,1,2,3,138] (fun nl nh=>∃(y32:Bool),nl=[(63,.bool y32)]∧nh=[]∧F.a8 a0 m1 y32=some q) ?_ ?_
 ·refine A.AX.dr mixed 17 17 (A.mb 17 0) ?_;refine A.hq A.pb [] l2j [140] [] (A.mb 17 15) 13 [(0,.n),(1,.b 0 1),(2,.n),(3,.n)] [(50,.bool (decide (p23.2.2.1=14)))] ?_;refine A.AH.cnp (j:=50) rfl hF ?_ ?_<;>intro hb hF
  ·refine A.hq A.pb l2j l2j [140,0] [] (A.mb 17 25599) 5 [(4,.on .n),(8,.on .n),(13,.on .n),(5,.on .n),(9,.on (.b 0 2)),(14,.on (.b 0 8)),(6,.on .n),(7,.on (.b 1 2))] [(56,.slice A28 p23.2.2.2.1.length c29),(61,A.i p23.2.2.2.2.2.2.2),(54,.map (some b4_))] ?_;have⟨x33,hv34,hF⟩:=A.b hF;refine A.AH.pks 139 141 hv34 fun ho35=>?_;intro b37 o38 hA36;refine A.AH.vg A.pb l2j l2f 10 (A.mb 17 26623) (dj:=50) rfl (fun a w hf hh=>A.r_ixa (t:=A.ti) hv34 hA36 hf) ?_;refine A.hq A.pb l2f l2f [] [141] (A.mb 17 28671) 3 [(11,.on (.e 0 0))] [(58,A.i x33)] ?_;obtain⟨x39,hv40,hF⟩:=A.lt_some hF;refine A.okm (t:=A.ti) 3 x33 (z:=(0:Int)) (zs:=l2o) ⟨rfl,by decide⟩ hv40 fun ho41=>?_;refine A.AH.vg A.pb l2f l2f 12 (A.mb 17 32767) (dj:=50) rfl (fun a w hf hh=>A.r_lkf (t:=A.ti) (ok:=false) (z:=(0:Int)) (zs:=l2o) 3 ky3 x33 Tryz.zeroValue3 ⟨rfl,by decide⟩ hv40 rfl hf hh) ?_;refine A.hq A.pb l2f l2f [] [] (A.mb 17 131071) 0 [(15,.on .n),(16,.n)] [(63,.bool (decide (x39≠p23.2.2.2.2.2.2.2)))] (A.AH.done ?_);exact A.j ⟨(decide (x39≠p23.2.2.2.2.2.2.2)),rfl,rfl,hF⟩
  refine A.hq A.pb l2j l2j [] [] (A.mb 17 131071) 0 [(4,.off),(8,.off),(13,.off),(5,.off),(9,.off),(14,.off),(6,.off),(10,.off),(7,.off),(11,.off),(12,.off),(15,.off),(16,.n)] [(63,.bool false)] (A.AH.done ?_);exact A.j ⟨false,rfl,rfl,hF⟩
 rintro _ _ ⟨y32,rfl,rfl,hF⟩;rw[F.a8]at hF;refine A.d hF ?_ ?_<;>intro hb hF
 ·refine A.xl 1 ?_;refine A.n 1 [(2,.bool false)] (A.dx 1 ?_);obtain rfl:=A.si hF;obtain rfl:=Option.some.inj (hq.resolve_left (by intro h;cases h))
  exact A.rt1 [(0,0),(1,1),(2,2),(3,3)] ⟨b1_,A2_,c3_,b4_,rfl,rfl⟩
 refine A.xe 2 ?_;obtain rfl:=A.si hF;exact A.AE.j [138,0,1,2,3] [] [(138,.mit 1 g19 b1_ a0.1.length (i24::sn20) (some (A.i p23.1,.agg #[A.i p23.2.1,A.i p23.2.2.1,.slice A28 p23.2.2.2.1.length c29,A.i p23.2.2.2.2.1.1,A.i p23.2.2.2.2.1.2.1,.string p23.2.2.2.2.1.2.2,.string p23.2.2.2.2.2.1,A.i p23.2.2.2.2.2.2.1,A.i p23.2.2.2.2.2.2.2])))] ⟨_,(A.seen_f hnd (A.seen_bd hbd hp25) hs26 hff).1,_,_,rfl,rfl,List.nodup_cons.2 ⟨hs26,hnd⟩,A.seen_bd hbd hp25,A.seen_cons hse hp25 hB,(A.seen_f hnd (A.seen_bd hbd hp25) hs26 hff).2⟩
def F.bw (k8:(List D145)→Int→Option (List D145))(y5:Int)(xs10:List D145):Option (List D145):=A.gd (Z.R64 (y5+1)) (k8 xs10 (y5+1))
def F.af (k8:(List D145)→Int→Option (List D145))(a0:((List (Int×D70))×(List Int)×(List (Int×Int))))(y5:Int)(x12:D70):Nat→(List D145)→Int→Option (List D145)
 |0,_,_=>none
 |f+1,xs22,y23=>if y23<(x12.2.2.1.length:Int)then((A.ix x12.2.2.1 y23).bind fun x26=>(A.lt (Z.mget (0:Int) a0.2.2 x26) fun x31=>(A.gd ((List.length (α:=D145) xs22+List.length (α:=D145) [((x12.1,y23),x31)])*24≤140737488355328) (A.gd (Z.R64 (y23+1)) ((F.af k8 a0 y5 x12 f) (xs22++[((x12.1,y23),x31)]) (y23+1))))))else(if x12.2.1≠15 then(A.lt (Z.mget (0:Int) a0.2.2 x12.1) fun x39=>(A.gd ((List.length (α:=D145) xs22+List.length (α:=D145) [((x12.1,2),x39)])*24≤140737488355328) (F.bw k8 y5 (xs22++[((x12.1,2),x39)]))))else(F.bw k8 y5 xs22))
def F.x (a0:((List (Int×D70))×(List Int)×(List (Int×Int))))(a1:D23):Nat→(List D145)→Int→Option (List D145)
 |0,_,_=>none
 |f+1,xs4,y5=>if y5<(a1.length:Int)then((A.ix a1 y5).bind fun x12=>(F.af (F.x a0 a1 f) a0 y5 x12 A.FU xs4 0))else(some xs4)
def F.bA (a0:((List (Int×D70))×(List Int)×(List (Int×Int))))(a1:D23):Option (List D145):=F.x a0 a1 A.FU [] 0
theorem o_aB(a0:((List (Int×D70))×(List Int)×(List (Int×Int))))(a1:D23)(r:(List D145))(hF:F.bA a0 a1=some r):
    A.Ct Tryz.prog 112 [.pointer (some ⟨g0_,0,none⟩),.agg #[.slice A5_ a1.length c6_]] [(0,.blk g0_ 131 [.map (some b1_),.slice A2_ a0.2.1.length c3_,.map (some b4_)]),(1,.mp Int (fun i:Int=>A.i i) T70 true b1_ a0.1),(2,.own A.ti 3 A2_ c3_ a0.2.1),(3,.mp Int (fun i:Int=>A.i i) A.ti false b4_ a0.2.2),(4,.sh (.slice T70) [.slice A5_ a1.length c6_] a1)] ([g0_]++([b1_]++(Z.obl A2_++([b4_]++[])))) (fun v H'=>∃(A0':Option Addr) (c1':Nat),v=.slice A0' r.length c1'∧H'=[(0,.own T145 146 A0' c1' r),(1,.blk g0_ 131 [.map (some b1_),.slice A2_ a0.2.1.length c3_,.map (some b4_)]),(2,.mp Int (fun i:Int=>A.i i) T70 true b1_ a0.1),(3,.own A.ti 3 A2_ c3_ a0.2.1),(4,.mp Int (fun i:Int=>A.i i) A.ti false b4_ a0.2.2)]):=by
 refine A.Ct.enter Tryz.func112 rfl Tryz.ntmps112 rfl fun w0 F0=>?_;rw[F.bA]at hF;refine A.xl 1 ?_;refine A.AL.box 5 (cs:=[.slice A5_ a1.length c6_]) fun g1=>?_;refine A.n 1 [] (A.dl 2 ?_);refine A.n 1 [(5,.slice none 0 0)] (A.dl 3 ?_);refine A.q0 [5] [] [.n,.b 0 0,.n,.n] [(11,.slice A5_ a1.length c6_),(12,A.i (a1.length:Int)),(13,A.i 0)] (A.dx 2 ?_);refine A.nil 38 T145 146 ?_;refine A.lp_ [0,11,12] [0,1,2,3,4] (fun f nl nh=>∃(xs4:List D145),∃(y5:Int),∃(A2:Option Addr),∃(c3:Nat),nl=[(5,.slice A2 xs4.length c3),(13,A.i y5)]∧nh=[(38,.own T145 146 A2 c3 xs4)]∧A.h6 y5∧F.x a0 a1 f xs4 y5=some r) ⟨[],0,none,0,rfl,rfl,A.z0,hF⟩ ?_;rintro f7 _ _ ⟨xs4,y5,A2,c3,rfl,rfl,hy6,hF⟩;rcases f7 with _|f7
 ·exact A.no0 hF
 rw[F.x]at hF;refine A.xl 1 ?_;refine A.n 1 [(14,.bool (decide (y5<(a1.length:Int))))] (A.dx 2 ?_);refine A.c hF ?_ ?_<;>intro hb hF
 ·refine A.xx 2 ?_;refine A.AX.join [0,11,12,13] [0,1,2,3,4] (fun nl nh=>∃(xs10:List D145),∃(A8:Option Addr),∃(c9:Nat),nl=[(5,.slice A8 xs10.length c9)]∧nh=[(38,.own T145 146 A8 c9 xs10)]∧F.bw (F.x a0 a1 f7) y5 xs10=some r) ?_ ?_
  ·refine A.xl 2 ?_;have⟨x12,hv13,hF⟩:=A.b hF;refine A.AL.ixs 4 63 hv13 fun ho14=>?_;intro A15 c16 b17 o18;refine A.q0 [] [63] [.e 0 0] [(16,.agg #[A.i x12.1,A.i x12.2.1,.slice A15 x12.2.2.1.length c16,A.i x12.2.2.2.1.1,A.i x12.2.2.2.1.2.1,.string x12.2.2.2.1.2.2,.string x12.2.2.2.2.1,A.i x12.2.2.2.2.2.1,A.i x12.2.2.2.2.2.2])] ?_;refine A.AL.alloc 65 (cs:=l2a) Tryz.zeroValue71 fun g19=>?_;refine A.sw 65 [] [A.i x12.1,A.i x12.2.1,.slice A15 x12.2.2.1.length c16,A.i x12.2.2.2.1.1,A.i x12.2.2.2.1.2.1,.string x12.2.2.2.1.2.2,.string x12.2.2.2.2.1,A.i x12.2.2.2.2.2.1,A.i x12.2.2.2.2.2.2] ?_;refine A.dl 3 ?_;refine A.q0 [65] [] [.n,.b 0 2,.n,.n] [(18,.slice A15 x12.2.2.1.length c16),(19,A.i (x12.2.2.1.length:Int)),(20,A.i 0)] (A.dx 2 ?_);refine A.lp_ [0,7,11,12,13,18,19] l2h (fun f nl nh=>∃(xs22:List D145),∃(y23:Int),∃(A20:Option Addr),∃(c21:Nat),nl=[(5,.slice A20 xs22.length c21),(20,A.i y23)]∧nh=[(38,.own T145 146 A20 c21 xs22)]∧A.h6 y23∧F.af (F.x a0 a1 f7) a0 y5 x12 f xs22 y23=some r) ⟨xs4,0,A2,c3,rfl,rfl,A.z0,hF⟩ ?_;rintro f25 _ _ ⟨xs22,y23,A20,c21,rfl,rfl,hy24,hF⟩;rcases f25 with _|f25
   ·exact A.no0 hF
   rw[F.af]at hF;refine A.xl 1 ?_;refine A.n 1 [(21,.bool (decide (y23<(x12.2.2.1.length:Int))))] (A.dx 2 ?_);refine A.c hF ?_ ?_<;>intro hb hF
   ·refine A.xl 5 ?_;refine A.n 1 [(22,A.i y23)] ?_;have⟨x26,hv27,hF⟩:=A.b hF;refine A.AL.ixs 64 72 hv27 fun ho28=>?_;intro b29 o30;refine A.q0 [] [72] [.e 0 0,.n,.n] [(8,A.i y23),(9,A.i x26)] (A.dx 1 ?_);refine A.AX.dr mixed 15 15 (A.mb 15 0) ?_;refine A.hq A.pb [] l2g [65,0] [] (A.mb 15 1023) 5 [(0,.n),(1,.n),(3,.n),(5,.n),(9,.n),(2,.b 0 0),(6,.n),(4,.n),(7,.n),(8,.b 1 2)] [(25,.slice A20 xs22.length c21),(34,A.i x26),(29,.agg #[A.i x12.1,A.i y23]),(33,.map (some b4_))] ?_;obtain⟨x31,hv32,hF⟩:=A.lt_some hF;refine A.okm (t:=A.ti) 3 x26 (z:=(0:Int)) (zs:=l2o) ⟨rfl,by decide⟩ hv32 fun ho33=>?_;refine A.AH.v A.pb l2g l2g 10 (A.mb 15 2047) rfl (fun a w hf hh=>A.r_lkf (t:=A.ti) (ok:=false) (z:=(0:Int)) (zs:=l2o) 3 ky3 x26 Tryz.zeroValue3 ⟨rfl,by decide⟩ hv32 rfl hf hh) ?_;refine A.hq A.pb l2g l2g [] [] (A.mb 15 4095) 3 [(11,.n)] [(36,.agg #[A.i x12.1,A.i y23,A.i x31])] ?_;refine A.AH.one 12 ?_;refine A.AL.bsl 73 (ty:=T145) (cs:=[A.i x12.1,A.i y23,A.i x31]) [((x12.1,y23),x31)] ⟨⟨⟨⟨rfl,ho14.1⟩,⟨rfl,hy24⟩⟩,⟨rfl,ho33⟩⟩,rfl⟩ (fun g34=>?_) Tryz.zeroValue146 Tryz.sizeOf146
    refine A.AH.nx (A.mb 15 8191) l2g ?_;refine A.AH.one 13 ?_;have⟨hl37,hF⟩:=A.g hF;refine A.AL.app (k:=38) [] (A.rowO (k:=73) rfl) inf146 hl37 fun A35 c36=>?_;refine A.AH.nx (A.mb 15 16383) l2g ?_;refine A.hq A.pb l2g [0,1,2,3,4,38,64,65,72,73] [] [] (A.mb 15 32767) 0 [(14,.n)] [(5,.slice A35 ((xs22++[((x12.1,y23),x31)]).length) c36)] (A.AH.done ?_);refine A.el 2 ?_;have⟨hc38,hF⟩:=A.g hF;refine A.m 2 [Z.R64 (y23+1)] [(20,A.i (y23+1))] hc38 (A.AL.done ?_);exact A.j ⟨_,Nat.lt_succ_self _,⟨(xs22++[((x12.1,y23),x31)]),(y23+1),A35,c36,rfl,rfl,(Z.i64_has hc38),hF⟩⟩
   refine A.xl 3 ?_;refine A.q0 [65] [] [.n,.b 0 1,.n] [(42,.bool (decide (x12.2.1≠15)))] (A.dx 1 ?_);refine A.c hF ?_ ?_<;>intro hb hF
   ·refine A.AX.dr mixed 15 15 (A.mb 15 0) ?_;refine A.hq A.pb [] l2h [65,0] [] (A.mb 15 1023) 5 [(0,.n),(1,.n),(4,.n),(8,.n),(2,.b 0 0),(5,.n),(9,.b 0 0),(3,.n),(6,.n),(7,.b 1 2)] [(43,.slice A20 xs22.length c21),(52,A.i x12.1),(46,.agg #[A.i x12.1,A.i 2]),(50,.map (some b4_))] ?_;obtain⟨x39,hv40,hF⟩:=A.lt_some hF;refine A.okm (t:=A.ti) 3 x12.1 (z:=(0:Int)) (zs:=l2o) ⟨rfl,by decide⟩ hv40 fun ho41=>?_;refine A.AH.v A.pb l2h l2h 10 (A.mb 15 2047) rfl (fun a w hf hh=>A.r_lkf (t:=A.ti) (ok:=false) (z:=(0:Int)) (zs:=l2o) 3 ky3 x12.1 Tryz.zeroValue3 ⟨rfl,by decide⟩ hv40 rfl hf hh) ?_;refine A.hq A.pb l2h l2h [] [] (A.mb 15 4095) 3 [(11,.n)] [(54,.agg #[A.i x12.1,A.i 2,A.i x39])] ?_;refine A.AH.one 12 ?_;refine A.AL.bsl 74 (ty:=T145) (cs:=[A.i x12.1,A.i 2,A.i x39]) [((x12.1,2),x39)] ⟨⟨⟨⟨rfl,ho14.1⟩,⟨rfl,(A.hasl .i64 (2) rfl)⟩⟩,⟨rfl,ho41⟩⟩,rfl⟩ (fun g42=>?_) Tryz.zeroValue146 Tryz.sizeOf146
    refine A.AH.nx (A.mb 15 8191) l2h ?_;refine A.AH.one 13 ?_;have⟨hl45,hF⟩:=A.g hF;refine A.AL.app (k:=38) [] (A.rowO (k:=74) rfl) inf146 hl45 fun A43 c44=>?_;refine A.AH.nx (A.mb 15 16383) l2h ?_;refine A.hq A.pb l2h [0,1,2,3,4,38,64,65,74] [] [] (A.mb 15 32767) 0 [(14,.n)] [(5,.slice A43 ((xs22++[((x12.1,2),x39)]).length) c44)] (A.AH.done ?_);refine A.ee 1 ?_;exact A.j ⟨(xs22++[((x12.1,2),x39)]),A43,c44,rfl,rfl,hF⟩
   refine A.xe 2 ?_;exact A.j ⟨xs22,A20,c21,rfl,rfl,hF⟩
  rintro _ _ ⟨xs10,A8,c9,rfl,rfl,hF⟩;rw[F.bw]at hF;refine A.xl 0 ?_;have⟨hc11,hF⟩:=A.g hF;refine A.m 2 [Z.R64 (y5+1)] [(13,A.i (y5+1))] hc11 (A.AL.done ?_);exact A.j ⟨_,Nat.lt_succ_self _,⟨xs10,(y5+1),A8,c9,rfl,rfl,(Z.i64_has hc11),hF⟩⟩
 refine A.xl 3 ?_;refine A.n 2 [(4,.slice A2 xs4.length c3)] (A.dx 1 ?_);obtain rfl:=A.si hF;exact A.rt1 [(0,38),(1,0),(2,1),(3,2),(4,3)] ⟨A2,c3,rfl,rfl⟩
def F.d3 (a0:Int)(a1:Int)(a2:Int)(a3:D168):Option (D168×Int):=if(bif decide (a0<a1)then true else decide (a2<a0))=true then(some ((0,0,0,0,(0,0,0,0)),11))else(some ((a0,a3.2.1,a3.2.2.1,a3.2.2.2.1,(a3.2.2.2.2.1,a3.2.2.2.2.2.1,a3.2.2.2.2.2.2.1,a3.2.2.2.2.2.2.2)),0))
theorem o_u (a0:Int)(a1:Int)(a2:Int)(a3:D168)(h0_:A.h6 a0)(h1_:A.h6 a1)(h2_:A.h6 a2)(h3_:A.h6 a3.1)(h4_:A.h6 a3.2.1)(h5_:A.h6 a3.2.2.1)(h6_:A.h6 a3.2.2.2.1)(h7_:A.h6 a3.2.2.2.2.1)(h8_:A.h6 a3.2.2.2.2.2.1)(h9_:A.h6 a3.2.2.2.2.2.2.1)(h10_:A.h6 a3.2.2.2.2.2.2.2)(r:D168×Int)(hF:F.d3 a0 a1 a2 a3=some r):
    A.Ct Tryz.prog 147 [A.i a0,A.i a1,A.i a2,.agg #[A.i a3.1,A.i a3.2.1,A.i a3.2.2.1,A.i a3.2.2.2.1,A.i a3.2.2.2.2.1,A.i a3.2.2.2.2.2.1,A.i a3.2.2.2.2.2.2.1,A.i a3.2.2.2.2.2.2.2]] [] [] (fun v H'=>v=.tuple #[.agg #[A.i r.1.1,A.i r.1.2.1,A.i r.1.2.2.1,A.i r.1.2.2.2.1,A.i r.1.2.2.2.2.1,A.i r.1.2.2.2.2.2.1,A.i r.1.2.2.2.2.2.2.1,A.i r.1.2.2.2.2.2.2.2],A.i r.2]∧H'=[]∧A.h6 r.1.1∧A.h6 r.1.2.1∧A.h6 r.1.2.2.1∧A.h6 r.1.2.2.2.1∧A.h6 r.1.2.2.2.2.1∧A.h6 r.1.2.2.2.2.2.1∧A.h6 r.1.2.2.2.2.2.2.1∧A.h6 r.1.2.2.2.2.2.2.2∧A.h6 r.2):=by
 refine A.Ct.enter Tryz.func147 rfl Tryz.ntmps147 rfl fun w0 F0=>?_;rw[F.d3]at hF;refine A.xl 1 ?_;refine A.AL.box 0 (cs:=[A.i a3.1,A.i a3.2.1,A.i a3.2.2.1,A.i a3.2.2.2.1,A.i a3.2.2.2.2.1,A.i a3.2.2.2.2.2.1,A.i a3.2.2.2.2.2.2.1,A.i a3.2.2.2.2.2.2.2]) fun g1=>?_;refine A.AL.alloc 1 (cs:=l2c) Tryz.zeroValue169 fun g2=>?_;refine A.n 1 [] (A.dl 3 ?_);refine A.q0 [] [] [.n,.n,.n,.n,.sy .n,.sy .n,.sy .n,.pk] [(17,.bool (bif decide (a0<a1)then true else decide (a2<a0)))] (A.dx 1 ?_);refine A.d hF ?_ ?_<;>intro hb hF
 ·refine A.xl 1 ?_;refine A.n 1 [(18,.agg #[A.i 0,A.i 0,A.i 0,A.i 0,A.i 0,A.i 0,A.i 0,A.i 0])] ?_;refine A.sw 1 [] [A.i 0,A.i 0,A.i 0,A.i 0,A.i 0,A.i 0,A.i 0,A.i 0] ?_;refine A.n 1 [(9,A.i 11)] (A.dx 1 ?_);obtain rfl:=A.si hF;exact A.AX.ret [] (.tuple #[.agg #[A.i 0,A.i 0,A.i 0,A.i 0,A.i 0,A.i 0,A.i 0,A.i 0],A.i 11]) (fun a w hf hh=>Z.resv2 rfl (Z.rv_n hf rfl Tryz.isAgg169 Tryz.sizeOf169 (A.Hp.blk hh 1) rfl) (Z.rv_t hf rfl)) (⟨rfl,rfl,A.z0,A.z0,A.z0,A.z0,A.z0,A.z0,A.z0,A.z0,(A.hasl .i64 (11) rfl)⟩)
 refine A.xl 3 ?_;refine A.n 2 [(19,A.i a0),(20,.pointer (some ⟨g1,0,none⟩))] ?_;refine A.AL.store 0 [] (new:=[A.i a0]) (cs':=[A.i a0,A.i a3.2.1,A.i a3.2.2.1,A.i a3.2.2.2.1,A.i a3.2.2.2.2.1,A.i a3.2.2.2.2.2.1,A.i a3.2.2.2.2.2.2.1,A.i a3.2.2.2.2.2.2.2]) ?_;refine A.dl 2 ?_;refine A.q0 [0] [] [.b 0 0] [(21,.agg #[A.i a0,A.i a3.2.1,A.i a3.2.2.1,A.i a3.2.2.2.1,A.i a3.2.2.2.2.1,A.i a3.2.2.2.2.2.1,A.i a3.2.2.2.2.2.2.1,A.i a3.2.2.2.2.2.2.2])] ?_;refine A.sw 1 [] [A.i a0,A.i a3.2.1,A.i a3.2.2.1,A.i a3.2.2.2.1,A.i a3.2.2.2.2.1,A.i a3.2.2.2.2.2.1,A.i a3.2.2.2.2.2.2.1,A.i a3.2.2.2.2.2.2.2] ?_;refine A.n 1 [(9,A.i 0)] (A.dx 1 ?_);obtain rfl:=A.si hF;exact A.AX.ret [] (.tuple #[.agg #[A.i a0,A.i a3.2.1,A.i a3.2.2.1,A.i a3.2.2.2.1,A.i a3.2.2.2.2.1,A.i a3.2.2.2.2.2.1,A.i a3.2.2.2.2.2.2.1,A.i a3.2.2.2.2.2.2.2],A.i 0]) (fun a w hf hh=>Z.resv2 rfl (Z.rv_n hf rfl Tryz.isAgg169 Tryz.sizeOf169 (A.Hp.blk hh 1) rfl) (Z.rv_t hf rfl)) (⟨rfl,rfl,h0_,h4_,h5_,h6_,h7_,h8_,h9_,h10_,A.z0⟩)
def F.ej (a0:Int):Option (D168×Int):=(F.d3 a0 0 3 (0,a0,0,1,(0,0,0,0))).bind fun r2=>(some ((r2.1.1,r2.1.2.1,r2.1.2.2.1,r2.1.2.2.2.1,(r2.1.2.2.2.2.1,r2.1.2.2.2.2.2.1,r2.1.2.2.2.2.2.2.1,r2.1.2.2.2.2.2.2.2)),r2.2))
theorem o_bg (a0:Int)(h0_:A.h6 a0)(r:D168×Int)(hF:F.ej a0=some r):
    A.Ct Tryz.prog 144 [A.i a0] [] [] (fun v H'=>v=.tuple #[.agg #[A.i r.1.1,A.i r.1.2.1,A.i r.1.2.2.1,A.i r.1.2.2.2.1,A.i r.1.2.2.2.2.1,A.i r.1.2.2.2.2.2.1,A.i r.1.2.2.2.2.2.2.1,A.i r.1.2.2.2.2.2.2.2],A.i r.2]∧H'=[]∧A.h6 r.1.1∧A.h6 r.1.2.1∧A.h6 r.1.2.2.1∧A.h6 r.1.2.2.2.1∧A.h6 r.1.2.2.2.2.1∧A.h6 r.1.2.2.2.2.2.1∧A.h6 r.1.2.2.2.2.2.2.1∧A.h6 r.1.2.2.2.2.2.2.2∧A.h6 r.2):=by
 refine A.Ct.enter Tryz.func144 rfl Tryz.ntmps144 rfl fun w0 F0=>?_;rw[F.ej]at hF;refine A.xl 1 ?_;refine A.AL.alloc 0 (cs:=l2c) Tryz.zeroValue169 fun g1=>?_;refine A.n 1 [] (A.dl 2 ?_);refine A.n 3 [(4,A.i a0),(6,.agg #[A.i 0,A.i a0,A.i 0,A.i 1,A.i 0,A.i 0,A.i 0,A.i 0])] ?_;refine A.v 1 [] hF (o_u a0 0 3 (0,a0,0,1,(0,0,0,0)) h0_ A.z0 (A.hasl .i64 (3) rfl) A.z0 h0_ A.z0 (A.hasl .i64 (1) rfl) A.z0 A.z0 A.z0 A.z0) .nil ?_;rintro r2 - hF _ _ ⟨rfl,rfl,hr4,hr5,hr6,hr7,hr8,hr9,hr10,hr11,hr12⟩;refine A.ck ?_;refine A.n 2 [(8,.agg #[A.i r2.1.1,A.i r2.1.2.1,A.i r2.1.2.2.1,A.i r2.1.2.2.2.1,A.i r2.1.2.2.2.2.1,A.i r2.1.2.2.2.2.2.1,A.i r2.1.2.2.2.2.2.2.1,A.i r2.1.2.2.2.2.2.2.2]),(9,A.i r2.2)] ?_;refine A.sw 0 [] [A.i r2.1.1,A.i r2.1.2.1,A.i r2.1.2.2.1,A.i r2.1.2.2.2.1,A.i r2.1.2.2.2.2.1,A.i r2.1.2.2.2.2.2.1,A.i r2.1.2.2.2.2.2.2.1,A.i r2.1.2.2.2.2.2.2.2] ?_;refine A.n 1 [(3,A.i r2.2)] (A.dx 1 ?_);obtain rfl:=A.si hF;exact A.AX.ret [] (.tuple #[.agg #[A.i r2.1.1,A.i r2.1.2.1,A.i r2.1.2.2.1,A.i r2.1.2.2.2.1,A.i r2.1.2.2.2.2.1,A.i r2.1.2.2.2.2.2.1,A.i r2.1.2.2.2.2.2.2.1,A.i r2.1.2.2.2.2.2.2.2],A.i r2.2]) (fun a w hf hh=>Z.resv2 rfl (Z.rv_n hf rfl Tryz.isAgg169 Tryz.sizeOf169 (A.Hp.blk hh 0) rfl) (Z.rv_t hf rfl)) (⟨rfl,rfl,hr4,hr5,hr6,hr7,hr8,hr9,hr10,hr11,hr12⟩)
def F.ek (a0:Int):Option (D168×Int):=A.gd (Z.R64 (a0-1)) ((F.d3 a0 1 4 (0,a0-1,0,0,(0,0,0,0))).bind fun r3=>(some ((r3.1.1,r3.1.2.1,r3.1.2.2.1,r3.1.2.2.2.1,(r3.1.2.2.2.2.1,r3.1.2.2.2.2.2.1,r3.1.2.2.2.2.2.2.1,r3.1.2.2.2.2.2.2.2)),r3.2)))
theorem o_bh (a0:Int)(h0_:A.h6 a0)(r:D168×Int)(hF:F.ek a0=some r):
    A.Ct Tryz.prog 145 [A.i a0] [] [] (fun v H'=>v=.tuple #[.agg #[A.i r.1.1,A.i r.1.2.1,A.i r.1.2.2.1,A.i r.1.2.2.2.1,A.i r.1.2.2.2.2.1,A.i r.1.2.2.2.2.2.1,A.i r.1.2.2.2.2.2.2.1,A.i r.1.2.2.2.2.2.2.2],A.i r.2]∧H'=[]∧A.h6 r.1.1∧A.h6 r.1.2.1∧A.h6 r.1.2.2.1∧A.h6 r.1.2.2.2.1∧A.h6 r.1.2.2.2.2.1∧A.h6 r.1.2.2.2.2.2.1∧A.h6 r.1.2.2.2.2.2.2.1∧A.h6 r.1.2.2.2.2.2.2.2∧A.h6 r.2):=by
 refine A.Ct.enter Tryz.func145 rfl Tryz.ntmps145 rfl fun w0 F0=>?_;rw[F.ek]at hF;refine A.xl 1 ?_;refine A.AL.alloc 0 (cs:=l2c) Tryz.zeroValue169 fun g1=>?_;refine A.n 1 [] (A.dl 2 ?_);have⟨hc2,hF⟩:=A.g hF;refine A.m 4 [Z.R64 (a0-1)] [(4,A.i a0),(7,.agg #[A.i 0,A.i (a0-1),A.i 0,A.i 0,A.i 0,A.i 0,A.i 0,A.i 0])] hc2 ?_;refine A.v 1 [] hF (o_u a0 1 4 (0,a0-1,0,0,(0,0,0,0)) h0_ (A.hasl .i64 (1) rfl) (A.hasl .i64 (4) rfl) A.z0 (Z.i64_has hc2) A.z0 A.z0 A.z0 A.z0 A.z0 A.z0) .nil ?_;rintro r3 - hF _ _ ⟨rfl,rfl,hr5,hr6,hr7,hr8,hr9,hr10,hr11,hr12,hr13⟩;refine A.ck ?_;refine A.n 2 [(9,.agg #[A.i r3.1.1,A.i r3.1.2.1,A.i r3.1.2.2.1,A.i r3.1.2.2.2.1,A.i r3.1.2.2.2.2.1,A.i r3.1.2.2.2.2.2.1,A.i r3.1.2.2.2.2.2.2.1,A.i r3.1.2.2.2.2.2.2.2]),(10,A.i r3.2)] ?_;refine A.sw 0 [] [A.i r3.1.1,A.i r3.1.2.1,A.i r3.1.2.2.1,A.i r3.1.2.2.2.1,A.i r3.1.2.2.2.2.1,A.i r3.1.2.2.2.2.2.1,A.i r3.1.2.2.2.2.2.2.1,A.i r3.1.2.2.2.2.2.2.2] ?_;refine A.n 1 [(3,A.i r3.2)] (A.dx 1 ?_);obtain rfl:=A.si hF;exact A.AX.ret [] (.tuple #[.agg #[A.i r3.1.1,A.i r3.1.2.1,A.i r3.1.2.2.1,A.i r3.1.2.2.2.1,A.i r3.1.2.2.2.2.1,A.i r3.1.2.2.2.2.2.1,A.i r3.1.2.2.2.2.2.2.1,A.i r3.1.2.2.2.2.2.2.2],A.i r3.2]) (fun a w hf hh=>Z.resv2 rfl (Z.rv_n hf rfl Tryz.isAgg169 Tryz.sizeOf169 (A.Hp.blk hh 0) rfl) (Z.rv_t hf rfl)) (⟨rfl,rfl,hr5,hr6,hr7,hr8,hr9,hr10,hr11,hr12,hr13⟩)
def F.eD (a0:Int):Option (D168×Int):=(F.d3 a0 1 4 (0,a0,1,0,(0,0,0,0))).bind fun r2=>(some ((r2.1.1,r2.1.2.1,r2.1.2.2.1,r2.1.2.2.2.1,(r2.1.2.2.2.2.1,r2.1.2.2.2.2.2.1,r2.1.2.2.2.2.2.2.1,r2.1.2.2.2.2.2.2.2)),r2.2))
theorem o_bu (a0:Int)(h0_:A.h6 a0)(r:D168×Int)(hF:F.eD a0=some r):
    A.Ct Tryz.prog 146 [A.i a0] [] [] (fun v H'=>v=.tuple #[.agg #[A.i r.1.1,A.i r.1.2.1,A.i r.1.2.2.1,A.i r.1.2.2.2.1,A.i r.1.2.2.2.2.1,A.i r.1.2.2.2.2.2.1,A.i r.1.2.2.2.2.2.2.1,A.i r.1.2.2.2.2.2.2.2],A.i r.2]∧H'=[]∧A.h6 r.1.1∧A.h6 r.1.2.1∧A.h6 r.1.2.2.1∧A.h6 r.1.2.2.2.1∧A.h6 r.1.2.2.2.2.1∧A.h6 r.1.2.2.2.2.2.1∧A.h6 r.1.2.2.2.2.2.2.1∧A.h6 r.1.2.2.2.2.2.2.2∧A.h6 r.2):=by
 refine A.Ct.enter Tryz.func146 rfl Tryz.ntmps146 rfl fun w0 F0=>?_;rw[F.eD]at hF;refine A.xl 1 ?_;refine A.AL.alloc 0 (cs:=l2c) Tryz.zeroValue169 fun g1=>?_;refine A.n 1 [] (A.dl 2 ?_);refine A.n 3 [(4,A.i a0),(6,.agg #[A.i 0,A.i a0,A.i 1,A.i 0,A.i 0,A.i 0,A.i 0,A.i 0])] ?_;refine A.v 1 [] hF (o_u a0 1 4 (0,a0,1,0,(0,0,0,0)) h0_ (A.hasl .i64 (1) rfl) (A.hasl .i64 (4) rfl) A.z0 h0_ (A.hasl .i64 (1) rfl) A.z0 A.z0 A.z0 A.z0 A.z0) .nil ?_;rintro r2 - hF _ _ ⟨rfl,rfl,hr4,hr5,hr6,hr7,hr8,hr9,hr10,hr11,hr12⟩;refine A.ck ?_;refine A.n 2 [(8,.agg #[A.i r2.1.1,A.i r2.1.2.1,A.i r2.1.2.2.1,A.i r2.1.2.2.2.1,A.i r2.1.2.2.2.2.1,A.i r2.1.2.2.2.2.2.1,A.i r2.1.2.2.2.2.2.2.1,A.i r2.1.2.2.2.2.2.2.2]),(9,A.i r2.2)] ?_;refine A.sw 0 [] [A.i r2.1.1,A.i r2.1.2.1,A.i r2.1.2.2.1,A.i r2.1.2.2.2.1,A.i r2.1.2.2.2.2.1,A.i r2.1.2.2.2.2.2.1,A.i r2.1.2.2.2.2.2.2.1,A.i r2.1.2.2.2.2.2.2.2] ?_;refine A.n 1 [(3,A.i r2.2)] (A.dx 1 ?_);obtain rfl:=A.si hF;exact A.AX.ret [] (.tuple #[.agg #[A.i r2.1.1,A.i r2.1.2.1,A.i r2.1.2.2.1,A.i r2.1.2.2.2.1,A.i r2.1.2.2.2.2.1,A.i r2.1.2.2.2.2.2.1,A.i r2.1.2.2.2.2.2.2.1,A.i r2.1.2.2.2.2.2.2.2],A.i r2.2]) (fun a w hf hh=>Z.resv2 rfl (Z.rv_n hf rfl Tryz.isAgg169 Tryz.sizeOf169 (A.Hp.blk hh 0) rfl) (Z.rv_t hf rfl)) (⟨rfl,rfl,hr4,hr5,hr6,hr7,hr8,hr9,hr10,hr11,hr12⟩)
def F.eO (a0:Int):Option (D168×Int):=(F.d3 a0 0 4 (0,a0,0,0,(0,0,0,0))).bind fun r2=>(some ((r2.1.1,r2.1.2.1,r2.1.2.2.1,r2.1.2.2.2.1,(r2.1.2.2.2.2.1,r2.1.2.2.2.2.2.1,r2.1.2.2.2.2.2.2.1,r2.1.2.2.2.2.2.2.2)),r2.2))
theorem o_aw (a0:Int)(h0_:A.h6 a0)(r:D168×Int)(hF:F.eO a0=some r):
    A.Ct Tryz.prog 130 [A.i a0] [] [] (fun v H'=>v=.tuple #[.agg #[A.i r.1.1,A.i r.1.2.1,A.i r.1.2.2.1,A.i r.1.2.2.2.1,A.i r.1.2.2.2.2.1,A.i r.1.2.2.2.2.2.1,A.i r.1.2.2.2.2.2.2.1,A.i r.1.2.2.2.2.2.2.2],A.i r.2]∧H'=[]∧A.h6 r.1.1∧A.h6 r.1.2.1∧A.h6 r.1.2.2.1∧A.h6 r.1.2.2.2.1∧A.h6 r.1.2.2.2.2.1∧A.h6 r.1.2.2.2.2.2.1∧A.h6 r.1.2.2.2.2.2.2.1∧A.h6 r.1.2.2.2.2.2.2.2∧A.h6 r.2):=by
 refine A.Ct.enter Tryz.func130 rfl Tryz.ntmps130 rfl fun w0 F0=>?_;rw[F.eO]at hF;refine A.xl 1 ?_;refine A.AL.alloc 0 (cs:=l2c) Tryz.zeroValue169 fun g1=>?_;refine A.n 1 [] (A.dl 2 ?_);refine A.n 3 [(4,A.i a0),(6,.agg #[A.i 0,A.i a0,A.i 0,A.i 0,A.i 0,A.i 0,A.i 0,A.i 0])] ?_;refine A.v 1 [] hF (o_u a0 0 4 (0,a0,0,0,(0,0,0,0)) h0_ A.z0 (A.hasl .i64 (4) rfl) A.z0 h0_ A.z0 A.z0 A.z0 A.z0 A.z0 A.z0) .nil ?_;rintro r2 - hF _ _ ⟨rfl,rfl,hr4,hr5,hr6,hr7,hr8,hr9,hr10,hr11,hr12⟩;refine A.ck ?_;refine A.n 2 [(8,.agg #[A.i r2.1.1,A.i r2.1.2.1,A.i r2.1.2.2.1,A.i r2.1.2.2.2.1,A.i r2.1.2.2.2.2.1,A.i r2.1.2.2.2.2.2.1,A.i r2.1.2.2.2.2.2.2.1,A.i r2.1.2.2.2.2.2.2.2]),(9,A.i r2.2)] ?_;refine A.sw 0 [] [A.i r2.1.1,A.i r2.1.2.1,A.i r2.1.2.2.1,A.i r2.1.2.2.2.1,A.i r2.1.2.2.2.2.1,A.i r2.1.2.2.2.2.2.1,A.i r2.1.2.2.2.2.2.2.1,A.i r2.1.2.2.2.2.2.2.2] ?_;refine A.n 1 [(3,A.i r2.2)] (A.dx 1 ?_);obtain rfl:=A.si hF;exact A.AX.ret [] (.tuple #[.agg #[A.i r2.1.1,A.i r2.1.2.1,A.i r2.1.2.2.1,A.i r2.1.2.2.2.1,A.i r2.1.2.2.2.2.1,A.i r2.1.2.2.2.2.2.1,A.i r2.1.2.2.2.2.2.2.1,A.i r2.1.2.2.2.2.2.2.2],A.i r2.2]) (fun a w hf hh=>Z.resv2 rfl (Z.rv_n hf rfl Tryz.isAgg169 Tryz.sizeOf169 (A.Hp.blk hh 0) rfl) (Z.rv_t hf rfl)) (⟨rfl,rfl,hr4,hr5,hr6,hr7,hr8,hr9,hr10,hr11,hr12⟩)
def F.a9 (y4:Int)(y6:Int)(y8:Int)(y10:Int)(y12:Int)(y14:Int)(y16:Int)(y18:Int):Option D168:=some (y4,y6,y8,y10,(y12,y14,y16,y18))
def F.cG (a0:D70)(a1:Int):Option D168:=if a0.2.1=12 then((F.ej a1).bind fun r20=>(F.a9 r20.1.1 r20.1.2.1 r20.1.2.2.1 r20.1.2.2.2.1 r20.1.2.2.2.2.1 r20.1.2.2.2.2.2.1 r20.1.2.2.2.2.2.2.1 r20.1.2.2.2.2.2.2.2))else(if a0.2.1=13 then((F.ek a1).bind fun r31=>(F.a9 r31.1.1 r31.1.2.1 r31.1.2.2.1 r31.1.2.2.2.1 r31.1.2.2.2.2.1 r31.1.2.2.2.2.2.1 r31.1.2.2.2.2.2.2.1 r31.1.2.2.2.2.2.2.2))else(if a0.2.1=14 then((F.eD a1).bind fun r42=>(F.a9 r42.1.1 r42.1.2.1 r42.1.2.2.1 r42.1.2.2.2.1 r42.1.2.2.2.2.1 r42.1.2.2.2.2.2.1 r42.1.2.2.2.2.2.2.1 r42.1.2.2.2.2.2.2.2))else((F.eO a1).bind fun r53=>(F.a9 r53.1.1 r53.1.2.1 r53.1.2.2.1 r53.1.2.2.2.1 r53.1.2.2.2.2.1 r53.1.2.2.2.2.2.1 r53.1.2.2.2.2.2.2.1 r53.1.2.2.2.2.2.2.2))))
theorem o_a2(a0:D70)(a1:Int)(h0_:A.h6 a0.1)(h1_:A.h6 a0.2.1)(h4_:A.h6 a0.2.2.2.1.1)(h5_:A.h6 a0.2.2.2.1.2.1)(h6_:a0.2.2.2.1.2.2.size≤maxLen)(h7_:a0.2.2.2.2.1.size≤maxLen)(h8_:A.h6 a0.2.2.2.2.2.1)(h9_:A.h6 a0.2.2.2.2.2.2)(h10_:A.h6 a1)(r:D168)(hF:F.cG a0 a1=some r):
    A.Ct Tryz.prog 129 [.agg #[A.i a0.1,A.i a0.2.1,.slice A2_ a0.2.2.1.length c3_,A.i a0.2.2.2.1.1,A.i a0.2.2.2.1.2.1,.string a0.2.2.2.1.2.2,.string a0.2.2.2.2.1,A.i a0.2.2.2.2.2.1,A.i a0.2.2.2.2.2.2],A.i a1] [(0,.sh A.TI [.slice A2_ a0.2.2.1.length c3_] a0.2.2.1)] [] (fun v H'=>v=.agg #[A.i r.1,A.i r.2.1,A.i r.2.2.1,A.i r.2.2.2.1,A.i r.2.2.2.2.1,A.i r.2.2.2.2.2.1,A.i r.2.2.2.2.2.2.1,A.i r.2.2.2.2.2.2.2]∧H'=[]∧A.h6 r.1∧A.h6 r.2.1∧A.h6 r.2.2.1∧A.h6 r.2.2.2.1∧A.h6 r.2.2.2.2.1∧A.h6 r.2.2.2.2.2.1∧A.h6 r.2.2.2.2.2.2.1∧A.h6 r.2.2.2.2.2.2.2):=by
 refine A.Ct.enter Tryz.func129 rfl Tryz.ntmps129 rfl fun w0 F0=>?_;rw[F.cG]at hF;refine A.xl 1 ?_;refine A.AL.box 1 (cs:=[A.i a0.1,A.i a0.2.1,.slice A2_ a0.2.2.1.length c3_,A.i a0.2.2.2.1.1,A.i a0.2.2.2.1.2.1,.string a0.2.2.2.1.2.2,.string a0.2.2.2.2.1,A.i a0.2.2.2.2.2.1,A.i a0.2.2.2.2.2.2]) fun g1=>?_;refine A.AL.alloc 2 (cs:=l2c) Tryz.zeroValue169 fun g2=>?_;refine A.dl 2 ?_;refine A.AL.alloc 3 (cs:=l2c) Tryz.zeroValue169 fun g3=>?_;refine A.dx 1 ?_;refine A.AX.join [4,5] [2] (fun nl nh=>∃(y4:Int),∃(y6:Int),∃(y8:Int),∃(y10:Int),∃(y12:Int),∃(y14:Int),∃(y16:Int),∃(y18:Int),nl=[]∧nh=[(3,.blk g3 169 [A.i y4,A.i y6,A.i y8,A.i y10,A.i y12,A.i y14,A.i y16,A.i y18])]∧A.h6 y4∧A.h6 y6∧A.h6 y8∧A.h6 y10∧A.h6 y12∧A.h6 y14∧A.h6 y16∧A.h6 y18∧F.a9 y4 y6 y8 y10 y12 y14 y16 y18=some r) ?_ ?_
 ·refine A.xl 1 ?_;refine A.q0 [1] [] [.n,.b 0 1] [(7,A.i a0.2.1)] (A.dl 3 ?_);refine A.n 2 [(13,.bool (decide (a0.2.1=12)))] (A.dx 1 ?_);refine A.c hF ?_ ?_<;>intro hb hF
  ·refine A.xl 0 ?_;refine A.n 1 [(16,A.i a1)] ?_;refine A.v 4 [] hF (o_bg a1 h10_) .nil ?_;rintro r20 - hF _ _ ⟨rfl,rfl,hr22,hr23,hr24,hr25,hr26,hr27,hr28,hr29,hr30⟩;refine A.ck ?_;refine A.n 3 [(18,.agg #[A.i r20.1.1,A.i r20.1.2.1,A.i r20.1.2.2.1,A.i r20.1.2.2.2.1,A.i r20.1.2.2.2.2.1,A.i r20.1.2.2.2.2.2.1,A.i r20.1.2.2.2.2.2.2.1,A.i r20.1.2.2.2.2.2.2.2])] ?_;refine A.sw 3 [] [A.i r20.1.1,A.i r20.1.2.1,A.i r20.1.2.2.1,A.i r20.1.2.2.2.1,A.i r20.1.2.2.2.2.1,A.i r20.1.2.2.2.2.2.1,A.i r20.1.2.2.2.2.2.2.1,A.i r20.1.2.2.2.2.2.2.2] ?_;refine A.de 1 ?_;exact A.j ⟨r20.1.1,r20.1.2.1,r20.1.2.2.1,r20.1.2.2.2.1,r20.1.2.2.2.2.1,r20.1.2.2.2.2.2.1,r20.1.2.2.2.2.2.2.1,r20.1.2.2.2.2.2.2.2,rfl,rfl,hr22,hr23,hr24,hr25,hr26,hr27,hr28,hr29,hF⟩
  refine A.xl 1 ?_;refine A.n 2 [(20,.bool (decide (a0.2.1=13)))] (A.dx 1 ?_);refine A.c hF ?_ ?_<;>intro hb hF
  ·refine A.xl 0 ?_;refine A.n 1 [(23,A.i a1)] ?_;refine A.v 44 [] hF (o_bh a1 h10_) .nil ?_;rintro r31 - hF _ _ ⟨rfl,rfl,hr33,hr34,hr35,hr36,hr37,hr38,hr39,hr40,hr41⟩;refine A.ck ?_;refine A.n 3 [(25,.agg #[A.i r31.1.1,A.i r31.1.2.1,A.i r31.1.2.2.1,A.i r31.1.2.2.2.1,A.i r31.1.2.2.2.2.1,A.i r31.1.2.2.2.2.2.1,A.i r31.1.2.2.2.2.2.2.1,A.i r31.1.2.2.2.2.2.2.2])] ?_;refine A.sw 3 [] [A.i r31.1.1,A.i r31.1.2.1,A.i r31.1.2.2.1,A.i r31.1.2.2.2.1,A.i r31.1.2.2.2.2.1,A.i r31.1.2.2.2.2.2.1,A.i r31.1.2.2.2.2.2.2.1,A.i r31.1.2.2.2.2.2.2.2] ?_;refine A.de 1 ?_;exact A.j ⟨r31.1.1,r31.1.2.1,r31.1.2.2.1,r31.1.2.2.2.1,r31.1.2.2.2.2.1,r31.1.2.2.2.2.2.1,r31.1.2.2.2.2.2.2.1,r31.1.2.2.2.2.2.2.2,rfl,rfl,hr33,hr34,hr35,hr36,hr37,hr38,hr39,hr40,hF⟩
  refine A.xl 1 ?_;refine A.n 2 [(27,.bool (decide (a0.2.1=14)))] (A.dx 1 ?_);refine A.c hF ?_ ?_<;>intro hb hF
  ·refine A.xl 0 ?_;refine A.n 1 [(30,A.i a1)] ?_;refine A.v 84 [] hF (o_bu a1 h10_) .nil ?_;rintro r42 - hF _ _ ⟨rfl,rfl,hr44,hr45,hr46,hr47,hr48,hr49,hr50,hr51,hr52⟩;refine A.ck ?_;refine A.n 3 [(32,.agg #[A.i r42.1.1,A.i r42.1.2.1,A.i r42.1.2.2.1,A.i r42.1.2.2.2.1,A.i r42.1.2.2.2.2.1,A.i r42.1.2.2.2.2.2.1,A.i r42.1.2.2.2.2.2.2.1,A.i r42.1.2.2.2.2.2.2.2])] ?_;refine A.sw 3 [] [A.i r42.1.1,A.i r42.1.2.1,A.i r42.1.2.2.1,A.i r42.1.2.2.2.1,A.i r42.1.2.2.2.2.1,A.i r42.1.2.2.2.2.2.1,A.i r42.1.2.2.2.2.2.2.1,A.i r42.1.2.2.2.2.2.2.2] ?_;refine A.de 1 ?_;exact A.j ⟨r42.1.1,r42.1.2.1,r42.1.2.2.1,r42.1.2.2.2.1,r42.1.2.2.2.2.1,r42.1.2.2.2.2.2.1,r42.1.2.2.2.2.2.2.1,r42.1.2.2.2.2.2.2.2,rfl,rfl,hr44,hr45,hr46,hr47,hr48,hr49,hr50,hr51,hF⟩
  refine A.xl 0 ?_;refine A.n 1 [(9,A.i a1)] ?_;refine A.v 124 [] hF (o_aw a1 h10_) .nil ?_;rintro r53 - hF _ _ ⟨rfl,rfl,hr55,hr56,hr57,hr58,hr59,hr60,hr61,hr62,hr63⟩;refine A.ck ?_;refine A.n 3 [(11,.agg #[A.i r53.1.1,A.i r53.1.2.1,A.i r53.1.2.2.1,A.i r53.1.2.2.2.1,A.i r53.1.2.2.2.2.1,A.i r53.1.2.2.2.2.2.1,A.i r53.1.2.2.2.2.2.2.1,A.i r53.1.2.2.2.2.2.2.2])] ?_;refine A.sw 3 [] [A.i r53.1.1,A.i r53.1.2.1,A.i r53.1.2.2.1,A.i r53.1.2.2.2.1,A.i r53.1.2.2.2.2.1,A.i r53.1.2.2.2.2.2.1,A.i r53.1.2.2.2.2.2.2.1,A.i r53.1.2.2.2.2.2.2.2] ?_;refine A.de 1 ?_;exact A.j ⟨r53.1.1,r53.1.2.1,r53.1.2.2.1,r53.1.2.2.2.1,r53.1.2.2.2.2.1,r53.1.2.2.2.2.2.1,r53.1.2.2.2.2.2.2.1,r53.1.2.2.2.2.2.2.2,rfl,rfl,hr55,hr56,hr57,hr58,hr59,hr60,hr61,hr62,hF⟩
 rintro _ _ ⟨y4,y6,y8,y10,y12,y14,y16,y18,rfl,rfl,hy5,hy7,hy9,hy11,hy13,hy15,hy17,hy19,hF⟩;rw[F.a9]at hF;refine A.xl 1 ?_;refine A.q0 [3] [] [.b 0 0] [(34,.agg #[A.i y4,A.i y6,A.i y8,A.i y10,A.i y12,A.i y14,A.i y16,A.i y18])] ?_;refine A.sw 2 [] [A.i y4,A.i y6,A.i y8,A.i y10,A.i y12,A.i y14,A.i y16,A.i y18] ?_;refine A.dx 1 ?_;obtain rfl:=A.si hF;exact A.AX.ret [] (.agg #[A.i y4,A.i y6,A.i y8,A.i y10,A.i y12,A.i y14,A.i y16,A.i y18]) (fun a w hf hh=>Z.resv1 rfl (Z.rv_n hf rfl Tryz.isAgg169 Tryz.sizeOf169 (A.Hp.blk hh 2) rfl)) (⟨rfl,rfl,hy5,hy7,hy9,hy11,hy13,hy15,hy17,hy19⟩)
def F.ap (a0:(List D70)):Option ((List D70)):=some a0
theorem o_q(a0:(List D70))(r:((List D70)))(hF:F.ap a0=some r):
    A.Ct Tryz.prog 148 [.slice A0_ a0.length c1_] [(0,.sh (.slice T70) [.slice A0_ a0.length c1_] a0)] [] (fun v H'=>∃(g0':Nat) (A1':Option Addr) (c2':Nat),v=.func (.func 154) #[] #[.pointer (some ⟨g0',0,none⟩)]∧H'=[(0,.blk g0' 22 [.slice A1' r.length c2']),(1,.sh (.slice T70) [.slice A1' r.length c2'] r)]):=by
 refine A.Ct.enter Tryz.func148 rfl Tryz.ntmps148 rfl fun w0 F0=>?_;rw[F.ap]at hF;refine A.xl 1 ?_;refine A.AL.box 1 (cs:=[.slice A0_ a0.length c1_]) fun g1=>?_;refine A.n 1 [] (A.dl 2 ?_);refine A.n 2 [(2,.func (.func 154) #[] #[.pointer (some ⟨g1,0,none⟩)])] (A.dx 1 ?_);obtain rfl:=A.si hF;exact A.rt1 [(0,1),(1,0)] ⟨g1,A0_,c1_,rfl,rfl⟩
def F.g (b0:(List D70)):Nat→Int→Option (List D70)
 |0,_=>none
 |f+1,y1=>if y1<(b0.length:Int)then((A.ix b0 y1).bind fun x9=>(A.cns x9 (A.gd (Z.R64 (y1+1)) ((F.g b0 f) (y1+1)))))else(some [])
def F.ab (b0:(List D70)):Option (List D70):=F.g b0 A.FU 0
theorem o_j(b0:(List D70))(xs:List D70)(hF:F.ab b0=some xs):
    A.Sq Tryz.prog 154 [.pointer (some ⟨g0_,0,none⟩)] [(0,.el none g0_ 0 [.slice A1_ b0.length c2_]),(1,.sh (.slice T70) [.slice A1_ b0.length c2_] b0)] T70 (fun cs=>[Z.vof true cs]) xs:=by
 refine A.Sq.enter Tryz.func154 rfl Tryz.ntmps154 rfl fun lid w0 J Jx Φ hY hJ0=>?_;obtain⟨rs0,hrs⟩: ∃rs0,rs0=xs:=⟨_,rfl⟩
 have hR0:A.Rem xs 0 rs0:=hrs▸A.Rem.zero xs
 rw[F.ab,←hrs]at hF
 clear hrs
 refine A.xl 1 ?_;refine A.q0 [] [0] [.e 0 0,.n,.n] [(5,.slice A1_ b0.length c2_),(6,A.i (b0.length:Int)),(7,A.i 0)] (A.dx 2 ?_);refine A.AX.loopC (A.CY 16 Φ) (0,w0) [0,5,6] [1] [1] (fun f i nl nh=>∃(y1:Int),∃(rs:List D70),nl=[(7,A.i y1)]∧nh=[]∧A.h6 y1∧J i.1 i.2∧A.Rem xs i.1 rs∧F.g b0 f y1=some rs) A.FU [(7,A.i 0)] [] ⟨0,_,rfl,rfl,A.z0,hJ0,hR0,hF⟩ ?_;rintro f3 ⟨k4,w5⟩ _ _ ⟨y1,rs8,rfl,rfl,hy2,hJ6,hR7,hF⟩;rcases f3 with _|f3
 ·exact A.no0 hF
 rw[F.g]at hF;refine A.xl 1 ?_;refine A.n 1 [(8,.bool (decide (y1<(b0.length:Int))))] (A.dx 2 ?_);refine A.c hF ?_ ?_<;>intro hb hF
 ·refine A.xl 5 ?_;have⟨x9,hv10,hF⟩:=A.b hF;refine A.AL.ixs 1 8 hv10 fun ho11=>?_;intro A12 c13 b14 o15;refine A.q0 [] [8] [.e 0 0] [(10,.agg #[A.i x9.1,A.i x9.2.1,.slice A12 x9.2.2.1.length c13,A.i x9.2.2.2.1.1,A.i x9.2.2.2.1.2.1,.string x9.2.2.2.1.2.2,.string x9.2.2.2.2.1,A.i x9.2.2.2.2.2.1,A.i x9.2.2.2.2.2.2])] ?_;refine A.AL.alloc 10 (cs:=l2a) Tryz.zeroValue71 fun g16=>?_;refine A.sw 10 [] [A.i x9.1,A.i x9.2.1,.slice A12 x9.2.2.1.length c13,A.i x9.2.2.2.1.1,A.i x9.2.2.2.1.2.1,.string x9.2.2.2.1.2.2,.string x9.2.2.2.2.1,A.i x9.2.2.2.2.2.1,A.i x9.2.2.2.2.2.2] ?_;refine A.dl 2 ?_;refine A.q0 [10] [] [.n,.b 0 0] [(11,.func (.yield lid) #[] #[]),(12,.agg #[A.i x9.1,A.i x9.2.1,.slice A12 x9.2.2.1.length c13,A.i x9.2.2.2.1.1,A.i x9.2.2.2.1.2.1,.string x9.2.2.2.1.2.2,.string x9.2.2.2.2.1,A.i x9.2.2.2.2.2.1,A.i x9.2.2.2.2.2.2])] ?_;obtain⟨rs17,hqrs17,hF⟩:=A.cns_some hF;refine A.AL.yield hY hJ6 (hqrs17▸hR7) [A.i x9.1,A.i x9.2.1,.slice A12 x9.2.2.1.length c13,A.i x9.2.2.2.1.1,A.i x9.2.2.2.1.2.1,.string x9.2.2.2.1.2.2,.string x9.2.2.2.2.1,A.i x9.2.2.2.2.2.1,A.i x9.2.2.2.2.2.2] ⟨⟨rfl,ho11.1⟩,⟨rfl,ho11.2.1⟩,.inl ⟨9,rfl⟩,⟨⟨rfl,ho11.2.2.2.1.1⟩,⟨rfl,ho11.2.2.2.1.2.1⟩,⟨rfl,ho11.2.2.2.1.2.2⟩⟩,⟨rfl,ho11.2.2.2.2.1⟩,⟨rfl,ho11.2.2.2.2.2.1⟩,⟨rfl,ho11.2.2.2.2.2.2⟩⟩ (fun w18 hJ19 hR20=>?_) (fun w18 hX21=>?_)
  ·refine A.n 1 [(14,.bool false)] (A.dx 1 ?_);refine A.AX.cnf rfl ?_;refine A.xl 3 ?_;have⟨hc22,hF⟩:=A.g hF;refine A.m 2 [Z.R64 (y1+1)] [(7,A.i (y1+1))] hc22 (A.AL.done ?_);exact A.AE.jC (k4+1,w18) [1] [(7,A.i (y1+1))] [] ⟨_,Nat.lt_succ_self _,⟨(y1+1),_,rfl,rfl,(Z.i64_has hc22),hJ19,hR20,hF⟩⟩
  refine A.n 1 [(14,.bool true)] (A.dx 1 ?_);refine A.AX.cnt rfl ?_;exact A.AX.rtX hY hX21
 refine A.xe 1 ?_;obtain rfl:=A.si hF;exact A.AE.rtY hY hJ6 hR7
def F.cH (k5:(List D118)→Int→Option (List D118))(y44:Int)(xs49:List D118):Option (List D118):=A.gd (Z.R64 (y44+1)) (k5 xs49 (y44+1))
def F.ar (k4:(List D118)→Option (List D118))(a1:Int)(y32:D70):Nat→(List D118)→Int→Option (List D118)
 |0,_,_=>none
 |f+1,xs43,y44=>if y44<(y32.2.2.1.length:Int)then((A.ix y32.2.2.1 y44).bind fun x51=>(if x51=a1 then(A.gd ((List.length (α:=D118) xs43+List.length (α:=D118) [(y32.1,y44)])*16≤140737488355328) (F.cH (F.ar k4 a1 y32 f) y44 (xs43++[(y32.1,y44)])))else(F.cH (F.ar k4 a1 y32 f) y44 xs43)))else(k4 xs43)
def F.au (a1:Int):List D70→(List D118)→Option (List D118)
 | [],xs39=>some xs39
 |y32::f,xs39=>F.ar (F.au a1 f) a1 y32 A.FU xs39 0
def F.dR (a0:D23)(a1:Int):Option (List D118):=(F.ap a0).bind fun r4=>((F.ab r4).bind fun xs23=>F.au a1 xs23 [])
theorem o_a9(a0:D23)(a1:Int)(h2_:A.h6 a1)(r:(List D118))(hF:F.dR a0 a1=some r):
    A.Ct Tryz.prog 131 [.agg #[.slice A0_ a0.length c1_],A.i a1] [(0,.sh (.slice T70) [.slice A0_ a0.length c1_] a0)] [] (fun v H'=>∃(A0':Option Addr) (c1':Nat),v=.slice A0' r.length c1'∧H'=[(0,.own T118 119 A0' c1' r)]):=by
 refine A.Ct.enterM Tryz.func131 rfl Tryz.ntmps131 rfl fun w0 F0=>?_;rw[F.dR]at hF;refine A.xl 1 ?_;refine A.AL.box 1 (cs:=[.slice A0_ a0.length c1_]) fun g1=>?_;refine A.AL.box 2 (cs:=[A.i a1]) fun g2=>?_;refine A.n 1 [] (A.dl 2 ?_);refine A.AL.alloc 3 (cs:=[.slice none 0 0]) Tryz.zeroValue172 fun g3=>?_;refine A.dl 3 ?_;refine A.q0 [1] [] [.n,.b 0 0] [(10,.slice A0_ a0.length c1_)] ?_;refine A.v 4 [] hF (o_q A0_ c1_ a0) (.s 0 .nil) ?_;rintro r4 - hF _ _ ⟨g6,A7,c8,rfl,rfl⟩;refine A.ck ?_;refine A.dx 2 ?_;refine A.nil 61 T118 119 ?_;have⟨xs23,hv24,hF⟩:=A.b hF;refine A.AX.rgf 62 63 64 [2,4,5] [3,61,2,4,5] [63,62,3,61,2,4,5] (fun k nh=>∃(xs39:List D118),∃(A37:Option Addr),∃(c38:Nat),nh=[(3,.blk g3 172 [.slice A37 xs39.length c38]),(61,.own T118 119 A37 c38 xs39)]∧F.au a1 (List.drop k xs23) xs39=some r) [(3,.blk g3 172 [.slice none 0 0]),(61,.own T118 119 none 0 [])] cf154 (o_j A7 g6 c8 r4 xs23 hv24) (fun _=>rfl) ⟨[],none,0,rfl,hF⟩ ?_ ?_ ?_
 ·rintro k31 _ D25 L26 ⟨xs39,A37,c38,rfl,hF⟩;exact⟨⟨_,(.b 4 (.s 5 .nil))⟩,rfl,fun o=>rfl⟩
 ·rintro k31 _ y32 D25 L26 w30 o27 ⟨xs39,A37,c38,rfl,hF⟩ hx35 hxo36 hh29;intro A33 c34;rw[A.drop_at hx35,F.au]at hF
  refine A.xl 0 ?_;refine A.AL.alloc 79 (cs:=l2a) Tryz.zeroValue71 fun g40=>?_;refine A.sw 79 [] [A.i y32.1,A.i y32.2.1,.slice A33 y32.2.2.1.length c34,A.i y32.2.2.2.1.1,A.i y32.2.2.2.1.2.1,.string y32.2.2.2.1.2.2,.string y32.2.2.2.2.1,A.i y32.2.2.2.2.2.1,A.i y32.2.2.2.2.2.2] ?_;refine A.AL.done ?_;refine A.AE.flip 62 63 fun o28=>?_;refine A.xl 2 ?_;refine A.q0 [79] [] [.n,.b 0 2,.n,.n] [(14,.slice A33 y32.2.2.1.length c34),(15,A.i (y32.2.2.1.length:Int)),(16,A.i 0)] (A.dx 2 ?_);refine A.lp_ [3,5,6,14,15] [2,4,5,62,63,64,79] (fun f nl nh=>∃(xs43:List D118),∃(y44:Int),∃(A41:Option Addr),∃(c42:Nat),nl=[(16,A.i y44)]∧nh=[(3,.blk g3 172 [.slice A41 xs43.length c42]),(61,.own T118 119 A41 c42 xs43)]∧A.h6 y44∧F.ar (F.au a1 (List.drop (k31+1) xs23)) a1 y32 f xs43 y44=some r) ⟨xs39,0,A37,c38,rfl,rfl,A.z0,hF⟩ ?_;rintro f46 _ _ ⟨xs43,y44,A41,c42,rfl,rfl,hy45,hF⟩;rcases f46 with _|f46
  ·exact A.no0 hF
  rw[F.ar]at hF;refine A.xl 1 ?_;refine A.n 1 [(17,.bool (decide (y44<(y32.2.2.1.length:Int))))] (A.dx 2 ?_);refine A.c hF ?_ ?_<;>intro hb hF
  ·refine A.xx 2 ?_;refine A.AX.join [3,5,6,14,15,16] [2,4,5,62,63,64,79] (fun nl nh=>∃(xs49:List D118),∃(A47:Option Addr),∃(c48:Nat),nl=[]∧nh=[(3,.blk g3 172 [.slice A47 xs49.length c48]),(61,.own T118 119 A47 c48 xs49)]∧F.cH (F.ar (F.au a1 (List.drop (k31+1) xs23)) a1 y32 f46) y44 xs49=some r) ?_ ?_
   ·refine A.xl 2 ?_;refine A.n 1 [(18,A.i y44)] ?_;have⟨x51,hv52,hF⟩:=A.b hF;refine A.AL.ixs 64 84 hv52 fun ho53=>?_;intro b54 o55;refine A.q0 [] [84] [.e 0 0,.n,.n] [(7,A.i y44),(8,A.i x51)] (A.dl 2 ?_);refine A.q0 [2] [] [.n,.b 0 0,.n] [(23,.bool (decide (x51=a1)))] (A.dx 1 ?_);refine A.c hF ?_ ?_<;>intro hb hF
    ·refine A.xl 0 ?_;refine A.q0 [3,79] [] [.b 0 0,.n,.b 1 0,.n,.n] [(24,.slice A41 xs43.length c42),(28,.agg #[A.i y32.1,A.i y44])] ?_;refine A.AL.bsl 85 (ty:=T118) (cs:=[A.i y32.1,A.i y44]) [(y32.1,y44)] ⟨⟨⟨rfl,hxo36.1⟩,⟨rfl,hy45⟩⟩,rfl⟩ (fun g56=>?_) Tryz.zeroValue119 Tryz.sizeOf119
     have⟨hl59,hF⟩:=A.g hF;refine A.AL.app (k:=61) [] (A.rowO (k:=85) rfl) inf119 hl59 fun A57 c58=>?_;refine A.sw 3 [] [.slice A57 ((xs43++[(y32.1,y44)]).length) c58] ?_;refine A.de 1 ?_;exact A.j ⟨(xs43++[(y32.1,y44)]),A57,c58,rfl,rfl,hF⟩
    refine A.xe 2 ?_;exact A.j ⟨xs43,A41,c42,rfl,rfl,hF⟩
   rintro _ _ ⟨xs49,A47,c48,rfl,rfl,hF⟩;rw[F.cH]at hF;refine A.xl 0 ?_;have⟨hc50,hF⟩:=A.g hF;refine A.m 2 [Z.R64 (y44+1)] [(16,A.i (y44+1))] hc50 (A.AL.done ?_);exact A.j ⟨_,Nat.lt_succ_self _,⟨xs49,(y44+1),A47,c48,rfl,rfl,(Z.i64_has hc50),hF⟩⟩
  refine A.xe 2 ?_;exact A.AE.bn hh29 [63,62,3,61,2,4,5] 100000 [(63,100063),(62,100062),(3,100003),(61,100061),(2,100002),(4,100004),(5,100005)] [(3,.blk g3 172 [.slice A41 xs43.length c42]),(61,.own T118 119 A41 c42 xs43)] ⟨xs43,A41,c42,rfl,hF⟩ rfl rfl
 rintro _ D25 L26 ⟨xs39,A37,c38,rfl,hF⟩;rw[List.drop_length,F.au]at hF
 refine A.el 3 ?_;refine A.q0 [3] [] [.b 0 0,.n] [(4,.slice A37 xs39.length c38)] (A.dx 1 ?_);obtain rfl:=A.si hF;exact A.AX.rtM (Ds:=[D25]) [62] [(0,61)] (.slice A37 xs39.length c38) (⟨rfl,trivial⟩) (fun a w hf hh=>Z.resv1 rfl (Z.rv_t hf rfl)) (⟨A37,c38,rfl,rfl⟩)
def F.aL (k30:(List D170)→Int→Option (List D170))(y5:Int)(xs10:List D170):Option (List D170):=A.gd (Z.R64 (y5+1)) (k30 xs10 (y5+1))
def F.y (k30:(List D170)→Int→Option (List D170))(y5:Int)(x12:D70)(y50:Int)(y52:Int)(y54:Int)(y56:Int)(y58:Int)(y60:Int)(y62:Int)(y64:Int)(r67:(List D118)):Nat→(List D170)→Int→Option (List D170)
 |0,_,_=>none
 |f+1,xs73,y74=>if y74<(r67.length:Int)then((A.ix r67 y74).bind fun x77=>(A.gd ((List.length (α:=D170) xs73+List.length (α:=D170) [((x12.1,2),x77,(y50,y52,y54,y56,(y58,y60,y62,y64)))])*96≤140737488355328) (A.gd (Z.R64 (y74+1)) ((F.y k30 y5 x12 y50 y52 y54 y56 y58 y60 y62 y64 r67 f) (xs73++[((x12.1,2),x77,(y50,y52,y54,y56,(y58,y60,y62,y64)))]) (y74+1)))))else(F.aL k30 y5 xs73)
def F.cg (k30:(List D170)→Int→Option (List D170))(a1:D23)(y5:Int)(x12:D70)(xs23:List D170)(y50:Int)(y52:Int)(y54:Int)(y56:Int)(y58:Int)(y60:Int)(y62:Int)(y64:Int):Option (List D170):=(F.dR a1 x12.1).bind fun r67=>(F.y k30 y5 x12 y50 y52 y54 y56 y58 y60 y62 y64 r67 A.FU xs23 0)
def F.ag (k30:(List D170)→Int→Option (List D170))(a0:((List (Int×D70))×(List Int)×(List (Int×Int))))(a1:D23)(y5:Int)(x12:D70):Nat→(List D170)→Int→Option (List D170)
 |0,_,_=>none
 |f+1,xs23,y24=>if y24<(x12.2.2.1.length:Int)then((A.ix x12.2.2.1 y24).bind fun x27=>(A.lt (Z.mget (0:Int) a0.2.2 x27) fun x32=>((F.cG x12 x32).bind fun r35=>(A.gd ((List.length (α:=D170) xs23+List.length (α:=D170) [((x12.1,y24),(x12.1,2),(r35.1,r35.2.1,r35.2.2.1,r35.2.2.2.1,(r35.2.2.2.2.1,r35.2.2.2.2.2.1,r35.2.2.2.2.2.2.1,r35.2.2.2.2.2.2.2)))])*96≤140737488355328) (A.gd (Z.R64 (y24+1)) ((F.ag k30 a0 a1 y5 x12 f) (xs23++[((x12.1,y24),(x12.1,2),(r35.1,r35.2.1,r35.2.2.1,r35.2.2.2.1,(r35.2.2.2.2.1,r35.2.2.2.2.2.1,r35.2.2.2.2.2.2.1,r35.2.2.2.2.2.2.2)))]) (y24+1)))))))else(A.lt (Z.mget (0:Int) a0.2.2 x12.1) fun x88=>((F.eO x88).bind fun r511=>(F.cg k30 a1 y5 x12 xs23 r511.1.1 r511.1.2.1 r511.1.2.2.1 r511.1.2.2.2.1 r511.1.2.2.2.2.1 r511.1.2.2.2.2.2.1 r511.1.2.2.2.2.2.2.1 r511.1.2.2.2.2.2.2.2)))
def F.m (a0:((List (Int×D70))×(List Int)×(List (Int×Int))))(a1:D23):Nat→(List D170)→Int→Option (List D170)
 |0,_,_=>none
 |f+1,xs4,y5=>if y5<(a1.length:Int)then((A.ix a1 y5).bind fun x12=>(if x12.2.1=15 then(F.aL (F.m a0 a1 f) y5 xs4)else(F.ag (F.m a0 a1 f) a0 a1 y5 x12 A.FU xs4 0)))else(some xs4)
def F.aW (a0:((List (Int×D70))×(List Int)×(List (Int×Int))))(a1:D23):Option (List D170):=F.m a0 a1 A.FU [] 0
theorem o_aC(a0:((List (Int×D70))×(List Int)×(List (Int×Int))))(a1:D23)(r:(List D170))(hF:F.aW a0 a1=some r):
    A.Ct Tryz.prog 113 [.pointer (some ⟨g0_,0,none⟩),.agg #[.slice A5_ a1.length c6_]] [(0,.blk g0_ 131 [.map (some b1_),.slice A2_ a0.2.1.length c3_,.map (some b4_)]),(1,.mp Int (fun i:Int=>A.i i) T70 true b1_ a0.1),(2,.own A.ti 3 A2_ c3_ a0.2.1),(3,.mp Int (fun i:Int=>A.i i) A.ti false b4_ a0.2.2),(4,.sh (.slice T70) [.slice A5_ a1.length c6_] a1)] ([g0_]++([b1_]++(Z.obl A2_++([b4_]++[])))) (fun v H'=>∃(A0':Option Addr) (c1':Nat),v=.slice A0' r.length c1'∧H'=[(0,.own T170 171 A0' c1' r),(1,.blk g0_ 131 [.map (some b1_),.slice A2_ a0.2.1.length c3_,.map (some b4_)]),(2,.mp Int (fun i:Int=>A.i i) T70 true b1_ a0.1),(3,.own A.ti 3 A2_ c3_ a0.2.1),(4,.mp Int (fun i:Int=>A.i i) A.ti false b4_ a0.2.2)]):=by
 refine A.Ct.enter Tryz.func113 rfl Tryz.ntmps113 rfl fun w0 F0=>?_;rw[F.aW]at hF;refine A.xl 1 ?_;refine A.AL.box 5 (cs:=[.slice A5_ a1.length c6_]) fun g1=>?_;refine A.n 1 [] (A.dl 2 ?_);refine A.n 1 [(5,.slice none 0 0)] (A.dl 3 ?_);refine A.q0 [5] [] [.n,.b 0 0,.n,.n] [(16,.slice A5_ a1.length c6_),(17,A.i (a1.length:Int)),(18,A.i 0)] (A.dx 2 ?_);refine A.nil 3600 T170 171 ?_;refine A.lp_ [0,3,16,17] l2p (fun f nl nh=>∃(xs4:List D170),∃(y5:Int),∃(A2:Option Addr),∃(c3:Nat),nl=[(5,.slice A2 xs4.length c3),(18,A.i y5)]∧nh=[(3600,.own T170 171 A2 c3 xs4)]∧A.h6 y5∧F.m a0 a1 f xs4 y5=some r) ⟨[],0,none,0,rfl,rfl,A.z0,hF⟩ ?_;rintro f7 _ _ ⟨xs4,y5,A2,c3,rfl,rfl,hy6,hF⟩;rcases f7 with _|f7
 ·exact A.no0 hF
 rw[F.m]at hF;refine A.xl 1 ?_;refine A.n 1 [(19,.bool (decide (y5<(a1.length:Int))))] (A.dx 2 ?_);refine A.c hF ?_ ?_<;>intro hb hF
 ·refine A.xx 2 ?_;refine A.AX.join [0,3,16,17,18] l2p (fun nl nh=>∃(xs10:List D170),∃(A8:Option Addr),∃(c9:Nat),nl=[(5,.slice A8 xs10.length c9)]∧nh=[(3600,.own T170 171 A8 c9 xs10)]∧F.aL (F.m a0 a1 f7) y5 xs10=some r) ?_ ?_
  ·refine A.xl 2 ?_;have⟨x12,hv13,hF⟩:=A.b hF;refine A.AL.ixs 4 6675 hv13 fun ho14=>?_;intro A15 c16 b17 o18;refine A.q0 [] [6675] [.e 0 0] [(21,.agg #[A.i x12.1,A.i x12.2.1,.slice A15 x12.2.2.1.length c16,A.i x12.2.2.2.1.1,A.i x12.2.2.2.1.2.1,.string x12.2.2.2.1.2.2,.string x12.2.2.2.2.1,A.i x12.2.2.2.2.2.1,A.i x12.2.2.2.2.2.2])] ?_;refine A.AL.alloc 6677 (cs:=l2a) Tryz.zeroValue71 fun g19=>?_;refine A.sw 6677 [] [A.i x12.1,A.i x12.2.1,.slice A15 x12.2.2.1.length c16,A.i x12.2.2.2.1.1,A.i x12.2.2.2.1.2.1,.string x12.2.2.2.1.2.2,.string x12.2.2.2.2.1,A.i x12.2.2.2.2.2.1,A.i x12.2.2.2.2.2.2] ?_;refine A.dl 3 ?_;refine A.q0 [6677] [] [.n,.b 0 1,.n] [(24,.bool (decide (x12.2.1=15)))] (A.dx 1 ?_);refine A.c hF ?_ ?_<;>intro hb hF
   ·refine A.xe 1 ?_;exact A.j ⟨xs4,A2,c3,rfl,rfl,hF⟩
   refine A.xl 3 ?_;refine A.q0 [6677] [] [.n,.b 0 0,.n] [(27,.agg #[A.i x12.1,A.i 2])] ?_;refine A.AL.alloc 6678 (cs:=l2q) Tryz.zeroValue119 fun g20=>?_;refine A.sw 6678 [] [A.i x12.1,A.i 2] ?_;refine A.dl 3 ?_;refine A.q0 [6677] [] [.n,.b 0 2,.n,.n] [(29,.slice A15 x12.2.2.1.length c16),(30,A.i (x12.2.2.1.length:Int)),(31,A.i 0)] (A.dx 2 ?_);refine A.lp_ [0,3,7,8,16,17,18,29,30] [0,1,2,3,4,5,6676,6677,6678] (fun f nl nh=>∃(xs23:List D170),∃(y24:Int),∃(A21:Option Addr),∃(c22:Nat),nl=[(5,.slice A21 xs23.length c22),(31,A.i y24)]∧nh=[(3600,.own T170 171 A21 c22 xs23)]∧A.h6 y24∧F.ag (F.m a0 a1 f7) a0 a1 y5 x12 f xs23 y24=some r) ⟨xs4,0,A2,c3,rfl,rfl,A.z0,hF⟩ ?_;rintro f26 _ _ ⟨xs23,y24,A21,c22,rfl,rfl,hy25,hF⟩;rcases f26 with _|f26
   ·exact A.no0 hF
   rw[F.ag]at hF;refine A.xl 1 ?_;refine A.n 1 [(32,.bool (decide (y24<(x12.2.2.1.length:Int))))] (A.dx 2 ?_);refine A.c hF ?_ ?_<;>intro hb hF
   ·refine A.xl 5 ?_;refine A.n 1 [(33,A.i y24)] ?_;have⟨x27,hv28,hF⟩:=A.b hF;refine A.AL.ixs 6676 7701 hv28 fun ho29=>?_;intro b30 o31;refine A.q0 [] [7701] [.e 0 0,.n,.n] [(9,A.i y24),(10,A.i x27)] (A.dx 1 ?_);refine A.AX.dr mixed 18 18 (A.mb 18 0) ?_;refine A.hq A.pb [] l2d [6678,6677,0] [] (A.mb 18 4095) 6 [(0,.n),(1,.n),(3,.n),(5,.b 0 0),(6,.b 1 0),(7,.n),(11,.n),(2,.b 1 0),(8,.n),(4,.n),(9,.n),(10,.b 2 2)] [(36,.slice A21 xs23.length c22),(41,.agg #[A.i x12.1,A.i 2]),(42,.agg #[A.i x12.1,A.i x12.2.1,.slice A15 x12.2.2.1.length c16,A.i x12.2.2.2.1.1,A.i x12.2.2.2.1.2.1,.string x12.2.2.2.1.2.2,.string x12.2.2.2.2.1,A.i x12.2.2.2.2.2.1,A.i x12.2.2.2.2.2.2]),(47,A.i x27),(40,.agg #[A.i x12.1,A.i y24]),(46,.map (some b4_))] ?_;obtain⟨x32,hv33,hF⟩:=A.lt_some hF;refine A.okm (t:=A.ti) 3 x27 (z:=(0:Int)) (zs:=l2o) ⟨rfl,by decide⟩ hv33 fun ho34=>?_;refine A.AH.v A.pb l2d l2d 12 (A.mb 18 8191) rfl (fun a w hf hh=>A.r_lkf (t:=A.ti) (ok:=false) (z:=(0:Int)) (zs:=l2o) 3 ky3 x27 Tryz.zeroValue3 ⟨rfl,by decide⟩ hv33 rfl hf hh) ?_;refine A.AH.one 13 ?_;refine A.v 7702 [] hF (o_a2 A15 c16 x12 x32 ho14.1 ho14.2.1 ho14.2.2.2.1.1 ho14.2.2.2.1.2.1 ho14.2.2.2.1.2.2 ho14.2.2.2.2.1 ho14.2.2.2.2.2.1 ho14.2.2.2.2.2.2 ho34) (.s 6676 .nil) ?_;rintro r35 - hF _ _ ⟨rfl,rfl,hr37,hr38,hr39,hr40,hr41,hr42,hr43,hr44⟩;refine A.ck ?_;refine A.AH.nx (A.mb 18 16383) l2d ?_;refine A.hq A.pb l2d l2d [] [] (A.mb 18 32767) 3 [(14,.n)] [(50,.agg #[A.i x12.1,A.i y24,A.i x12.1,A.i 2,A.i r35.1,A.i r35.2.1,A.i r35.2.2.1,A.i r35.2.2.2.1,A.i r35.2.2.2.2.1,A.i r35.2.2.2.2.2.1,A.i r35.2.2.2.2.2.2.1,A.i r35.2.2.2.2.2.2.2])] ?_;refine A.AH.one 15 ?_;refine A.AL.bsl 7742 (ty:=T170) (cs:=[A.i x12.1,A.i y24,A.i x12.1,A.i 2,A.i r35.1,A.i r35.2.1,A.i r35.2.2.1,A.i r35.2.2.2.1,A.i r35.2.2.2.2.1,A.i r35.2.2.2.2.2.1,A.i r35.2.2.2.2.2.2.1,A.i r35.2.2.2.2.2.2.2]) [((x12.1,y24),(x12.1,2),(r35.1,r35.2.1,r35.2.2.1,r35.2.2.2.1,(r35.2.2.2.2.1,r35.2.2.2.2.2.1,r35.2.2.2.2.2.2.1,r35.2.2.2.2.2.2.2)))] ⟨⟨⟨⟨rfl,ho14.1⟩,⟨rfl,hy25⟩⟩,⟨⟨rfl,ho14.1⟩,⟨rfl,(A.hasl .i64 (2) rfl)⟩⟩,⟨⟨rfl,hr37⟩,⟨rfl,hr38⟩,⟨rfl,hr39⟩,⟨rfl,hr40⟩,⟨⟨rfl,hr41⟩,⟨rfl,hr42⟩,⟨rfl,hr43⟩,⟨rfl,hr44⟩⟩⟩⟩,rfl⟩ (fun g45=>?_) Tryz.zeroValue171 Tryz.sizeOf171
    refine A.AH.nx (A.mb 18 65535) l2d ?_;refine A.AH.one 16 ?_;have⟨hl48,hF⟩:=A.g hF;refine A.AL.app (k:=3600) [] (A.rowO (k:=7742) rfl) inf171 hl48 fun A46 c47=>?_;refine A.AH.nx (A.mb 18 131071) l2d ?_;refine A.hq A.pb l2d [0,1,2,3,4,5,3600,6676,6677,6678,7701,7742] [] [] (A.mb 18 262143) 0 [(17,.n)] [(5,.slice A46 ((xs23++[((x12.1,y24),(x12.1,2),(r35.1,r35.2.1,r35.2.2.1,r35.2.2.2.1,(r35.2.2.2.2.1,r35.2.2.2.2.2.1,r35.2.2.2.2.2.2.1,r35.2.2.2.2.2.2.2)))]).length) c47)] (A.AH.done ?_);refine A.el 2 ?_;have⟨hc49,hF⟩:=A.g hF;refine A.m 2 [Z.R64 (y24+1)] [(31,A.i (y24+1))] hc49 (A.AL.done ?_);exact A.j ⟨_,Nat.lt_succ_self _,⟨(xs23++[((x12.1,y24),(x12.1,2),(r35.1,r35.2.1,r35.2.2.1,r35.2.2.2.1,(r35.2.2.2.2.1,r35.2.2.2.2.2.1,r35.2.2.2.2.2.2.1,r35.2.2.2.2.2.2.2)))]),(y24+1),A46,c47,rfl,rfl,(Z.i64_has hc49),hF⟩⟩
   refine A.xx 2 ?_;refine A.AX.join [0,3,5,7,8,16,17,18] l2b (fun nl nh=>∃(y50:Int),∃(y52:Int),∃(y54:Int),∃(y56:Int),∃(y58:Int),∃(y60:Int),∃(y62:Int),∃(y64:Int),∃(g66:Nat),nl=[(11,.pointer (some ⟨g66,0,none⟩))]∧nh=[(8073,.blk g66 169 [A.i y50,A.i y52,A.i y54,A.i y56,A.i y58,A.i y60,A.i y62,A.i y64])]∧A.h6 y50∧A.h6 y52∧A.h6 y54∧A.h6 y56∧A.h6 y58∧A.h6 y60∧A.h6 y62∧A.h6 y64∧F.cg (F.m a0 a1 f7) a1 y5 x12 xs23 y50 y52 y54 y56 y58 y60 y62 y64=some r) ?_ ?_
   ·refine A.AX.dr mixed 14 14 (A.mb 14 0) ?_;refine A.hq A.pb [] l2b [6677,0] [] (A.mb 14 63) 8 [(0,.n),(4,.n),(1,.n),(5,.b 0 0),(2,.n),(3,.b 1 2)] [(60,A.i x12.1),(58,.map (some b4_))] ?_;obtain⟨x88,hv89,hF⟩:=A.lt_some hF;refine A.okm (t:=A.ti) 3 x12.1 (z:=(0:Int)) (zs:=l2o) ⟨rfl,by decide⟩ hv89 fun ho90=>?_;refine A.AH.v A.pb l2b l2b 6 (A.mb 14 127) rfl (fun a w hf hh=>A.r_lkf (t:=A.ti) (ok:=false) (z:=(0:Int)) (zs:=l2o) 3 ky3 x12.1 Tryz.zeroValue3 ⟨rfl,by decide⟩ hv89 rfl hf hh) ?_;refine A.AH.two 7 11 ?_ ?_
    ·refine A.v 7953 [] hF (o_aw x88 ho90) .nil ?_;rintro r511 hv512 hF _ _ ⟨rfl,rfl,hr513,hr514,hr515,hr516,hr517,hr518,hr519,hr520,hr521⟩;refine A.ck ?_;refine A.AH.nx (A.mb 14 255) l2b ?_;refine A.hq A.pb l2b l2b [] [] (A.mb 14 2047) 3 [(8,.n),(9,.n),(10,.n)] [(63,.agg #[A.i r511.1.1,A.i r511.1.2.1,A.i r511.1.2.2.1,A.i r511.1.2.2.2.1,A.i r511.1.2.2.2.2.1,A.i r511.1.2.2.2.2.2.1,A.i r511.1.2.2.2.2.2.2.1,A.i r511.1.2.2.2.2.2.2.2]),(64,A.i r511.2)] ?_;refine A.AH.one 11 ?_;refine A.AL.alloc 8073 (cs:=l2c) Tryz.zeroValue169 fun g751=>?_;refine A.AH.nx (A.mb 14 4095) l2b ?_;refine A.AH.one 12 ?_;refine A.sw 8073 [] [A.i r511.1.1,A.i r511.1.2.1,A.i r511.1.2.2.1,A.i r511.1.2.2.2.1,A.i r511.1.2.2.2.2.1,A.i r511.1.2.2.2.2.2.1,A.i r511.1.2.2.2.2.2.2.1,A.i r511.1.2.2.2.2.2.2.2] ?_;refine A.AH.nx (A.mb 14 8191) l2b ?_;refine A.hq A.pb l2b l2m [] [] (A.mb 14 16383) 0 [(13,.n)] [] (A.AH.done ?_);exact A.j ⟨r511.1.1,r511.1.2.1,r511.1.2.2.1,r511.1.2.2.2.1,r511.1.2.2.2.2.1,r511.1.2.2.2.2.2.1,r511.1.2.2.2.2.2.2.1,r511.1.2.2.2.2.2.2.2,g751,rfl,rfl,hr513,hr514,hr515,hr516,hr517,hr518,hr519,hr520,hF⟩
    refine A.AL.alloc 8073 (cs:=l2c) Tryz.zeroValue169 fun g751=>?_;refine A.AH.nx (A.mb 14 2175) l2b ?_;refine A.AH.one 7 ?_;refine A.v 7953 [] hF (o_aw x88 ho90) .nil ?_;rintro r511 - hF _ _ ⟨rfl,rfl,hr513,hr514,hr515,hr516,hr517,hr518,hr519,hr520,hr521⟩;refine A.ck ?_;refine A.AH.nx (A.mb 14 2303) l2b ?_;refine A.hq A.pb l2b l2b [] [] (A.mb 14 4095) 2 [(8,.n),(9,.n),(10,.n)] [(63,.agg #[A.i r511.1.1,A.i r511.1.2.1,A.i r511.1.2.2.1,A.i r511.1.2.2.2.1,A.i r511.1.2.2.2.2.1,A.i r511.1.2.2.2.2.2.1,A.i r511.1.2.2.2.2.2.2.1,A.i r511.1.2.2.2.2.2.2.2]),(64,A.i r511.2)] ?_;refine A.AH.one 12 ?_;refine A.sw 8073 [] [A.i r511.1.1,A.i r511.1.2.1,A.i r511.1.2.2.1,A.i r511.1.2.2.2.1,A.i r511.1.2.2.2.2.1,A.i r511.1.2.2.2.2.2.1,A.i r511.1.2.2.2.2.2.2.1,A.i r511.1.2.2.2.2.2.2.2] ?_;refine A.AH.nx (A.mb 14 8191) l2b ?_;refine A.hq A.pb l2b l2m [] [] (A.mb 14 16383) 0 [(13,.n)] [] (A.AH.done ?_);exact A.j ⟨r511.1.1,r511.1.2.1,r511.1.2.2.1,r511.1.2.2.2.1,r511.1.2.2.2.2.1,r511.1.2.2.2.2.2.1,r511.1.2.2.2.2.2.2.1,r511.1.2.2.2.2.2.2.2,g751,rfl,rfl,hr513,hr514,hr515,hr516,hr517,hr518,hr519,hr520,hF⟩
   rintro _ _ ⟨y50,y52,y54,y56,y58,y60,y62,y64,g66,rfl,rfl,hy51,hy53,hy55,hy57,hy59,hy61,hy63,hy65,hF⟩;rw[F.cg]at hF;refine A.xl 1 ?_;refine A.q0 [5,6677] [] [.b 0 0,.n,.b 1 0] [(65,.agg #[.slice A5_ a1.length c6_]),(67,A.i x12.1)] ?_;refine A.v 8163 [] hF (o_a9 A5_ c6_ a1 x12.1 ho14.1) (.s 4 .nil) ?_;rintro r67 - hF _ _ ⟨A69,c70,rfl,rfl⟩;refine A.ck ?_;refine A.n 2 [(69,A.i (r67.length:Int)),(70,A.i 0)] (A.dx 2 ?_);refine A.lp_ [0,3,8,11,16,17,18,68,69] [0,1,2,3,4,5,6678,8073,8163] (fun f nl nh=>∃(xs73:List D170),∃(y74:Int),∃(A71:Option Addr),∃(c72:Nat),nl=[(5,.slice A71 xs73.length c72),(70,A.i y74)]∧nh=[(3600,.own T170 171 A71 c72 xs73)]∧A.h6 y74∧F.y (F.m a0 a1 f7) y5 x12 y50 y52 y54 y56 y58 y60 y62 y64 r67 f xs73 y74=some r) ⟨xs23,0,A21,c22,rfl,rfl,A.z0,hF⟩ ?_;rintro f76 _ _ ⟨xs73,y74,A71,c72,rfl,rfl,hy75,hF⟩;rcases f76 with _|f76
   ·exact A.no0 hF
   rw[F.y]at hF;refine A.xl 1 ?_;refine A.n 1 [(71,.bool (decide (y74<(r67.length:Int))))] (A.dx 2 ?_);refine A.c hF ?_ ?_<;>intro hb hF
   ·refine A.xl 5 ?_;have⟨x77,hv78,hF⟩:=A.b hF;refine A.AL.ixo 8163 8209 hv78 fun ho79=>?_;intro g80 hA81;refine A.q0 [] [8209] [.e 0 0] [(73,.agg #[A.i x77.1,A.i x77.2])] ?_;refine A.AL.alloc 8210 (cs:=l2q) Tryz.zeroValue119 fun g82=>?_;refine A.sw 8210 [] [A.i x77.1,A.i x77.2] ?_;refine A.dl 1 ?_;refine A.q0 [6678,8210,8073] [] [.n,.b 0 0,.b 1 0,.b 2 0,.n] [(74,.slice A71 xs73.length c72),(78,.agg #[A.i x12.1,A.i 2,A.i x77.1,A.i x77.2,A.i y50,A.i y52,A.i y54,A.i y56,A.i y58,A.i y60,A.i y62,A.i y64])] ?_;refine A.AL.bsl 8211 (ty:=T170) (cs:=[A.i x12.1,A.i 2,A.i x77.1,A.i x77.2,A.i y50,A.i y52,A.i y54,A.i y56,A.i y58,A.i y60,A.i y62,A.i y64]) [((x12.1,2),x77,(y50,y52,y54,y56,(y58,y60,y62,y64)))] ⟨⟨⟨⟨rfl,ho14.1⟩,⟨rfl,(A.hasl .i64 (2) rfl)⟩⟩,⟨⟨rfl,ho79.1⟩,⟨rfl,ho79.2⟩⟩,⟨⟨rfl,hy51⟩,⟨rfl,hy53⟩,⟨rfl,hy55⟩,⟨rfl,hy57⟩,⟨⟨rfl,hy59⟩,⟨rfl,hy61⟩,⟨rfl,hy63⟩,⟨rfl,hy65⟩⟩⟩⟩,rfl⟩ (fun g83=>?_) Tryz.zeroValue171 Tryz.sizeOf171
    have⟨hl86,hF⟩:=A.g hF;refine A.AL.app (k:=3600) [] (A.rowO (k:=8211) rfl) inf171 hl86 fun A84 c85=>?_;refine A.n 1 [(5,.slice A84 ((xs73++[((x12.1,2),x77,(y50,y52,y54,y56,(y58,y60,y62,y64)))]).length) c85)] (A.dl 2 ?_);have⟨hc87,hF⟩:=A.g hF;refine A.m 2 [Z.R64 (y74+1)] [(70,A.i (y74+1))] hc87 (A.AL.done ?_);exact A.j ⟨_,Nat.lt_succ_self _,⟨(xs73++[((x12.1,2),x77,(y50,y52,y54,y56,(y58,y60,y62,y64)))]),(y74+1),A84,c85,rfl,rfl,(Z.i64_has hc87),hF⟩⟩
   refine A.xe 2 ?_;exact A.j ⟨xs73,A71,c72,rfl,rfl,hF⟩
  rintro _ _ ⟨xs10,A8,c9,rfl,rfl,hF⟩;rw[F.aL]at hF;refine A.xl 0 ?_;have⟨hc11,hF⟩:=A.g hF;refine A.m 2 [Z.R64 (y5+1)] [(18,A.i (y5+1))] hc11 (A.AL.done ?_);exact A.j ⟨_,Nat.lt_succ_self _,⟨xs10,(y5+1),A8,c9,rfl,rfl,(Z.i64_has hc11),hF⟩⟩
 refine A.xl 3 ?_;refine A.n 2 [(4,.slice A2 xs4.length c3)] (A.dx 1 ?_);obtain rfl:=A.si hF;exact A.rt1 [(0,3600),(1,0),(2,1),(3,2),(4,3)] ⟨A2,c3,rfl,rfl⟩
def F.a0 (k4:(List (D118×Bool))→(List D118)→Int→Option Bool)(y49:Int)(m53:List (D118×Bool))(xs56:List D118):Option Bool:=A.gd (Z.R64 (y49+1)) (k4 m53 xs56 (y49+1))
def F.a1 (k4:(List (D118×Bool))→(List D118)→Int→Option Bool)(m45:List (D118×Bool))(xs48:List D118)(y49:Int)(x58:D118)(y64:Bool):Option Bool:=if y64=true then(A.gd ((List.length (α:=D118) xs48+List.length (α:=D118) [x58])*16≤140737488355328) (F.a0 k4 y49 (Z.mins m45 x58 true) (xs48++[x58])))else(F.a0 k4 y49 m45 xs48)
def F.k (k3:(List (D118×Bool))→(List D118)→Option Bool)(a2:(List (D118×Int)))(a3:D118)(a4:Int)(x40:(List D118)):Nat→(List (D118×Bool))→(List D118)→Int→Option Bool
 |0,_,_,_=>none
 |f+1,m45,xs48,y49=>if y49<(x40.length:Int)then((A.ix x40 y49).bind fun x58=>(if x58=a3 then(some true)else(A.lt (Z.mget (0:Int) a2 x58) fun x69=>(if a4≤x69 then(A.lt (Z.mget (false:Bool) m45 x58) fun x72=>(F.a1 (F.k k3 a2 a3 a4 x40 f) m45 xs48 y49 x58 (!x72)))else(F.a1 (F.k k3 a2 a3 a4 x40 f) m45 xs48 y49 x58 false)))))else(k3 m45 xs48)
def F.bQ (k3:(List (D118×Bool))→(List D118)→Option Bool)(a1:(List (D118×(List D118))))(a2:(List (D118×Int)))(a3:D118)(a4:Int)(m4:List (D118×Bool))(xs7:List D118)(x10:D118)(xs22:List Int)(y23:Int)(y25:Int)(y27:Int)(y29:Int)(y31:ByteArray)(y33:ByteArray)(y35:Int)(y37:Int):Option Bool:=if(bif decide (y25=14)then decide (y37=a4)else false)=true then(k3 m4 (List.take (((xs7.length:Int)-1).toNat) xs7))else(A.lt (Z.mget ([]:(List D118)) a1 x10) fun x40=>(F.k k3 a2 a3 a4 x40 A.FU m4 (List.take (((xs7.length:Int)-1).toNat) xs7) 0))
def F.l (a0:((List (Int×D70))×(List Int)×(List (Int×Int))))(a1:(List (D118×(List D118))))(a2:(List (D118×Int)))(a3:D118)(a4:Int):Nat→(List (D118×Bool))→(List D118)→Option Bool
 |0,_,_=>none
 |f+1,m4,xs7=>if(0:Int)<(xs7.length:Int)then(A.gd (Z.R64 ((xs7.length:Int)-1)) ((A.ix xs7 ((xs7.length:Int)-1)).bind fun x10=>(A.gd (Z.R64 ((xs7.length:Int)-1)) (A.gd (0≤(xs7.length:Int)-1∧((xs7.length:Int)-1).toNat≤xs7.length) (A.lt (Z.mget ((0,0,[],(0,0,(ByteArray.mk #[])),(ByteArray.mk #[]),0,0):D70) a0.1 x10.1) fun x435=>(F.bQ (F.l a0 a1 a2 a3 a4 f) a1 a2 a3 a4 m4 xs7 x10 x435.2.2.1 x435.1 x435.2.1 x435.2.2.2.1.1 x435.2.2.2.1.2.1 x435.2.2.2.1.2.2 x435.2.2.2.2.1 x435.2.2.2.2.2.1 x435.2.2.2.2.2.2))))))else(some false)
def F.aA (a0:((List (Int×D70))×(List Int)×(List (Int×Int))))(a1:(List (D118×(List D118))))(a2:(List (D118×Int)))(a3:D118)(a4:Int):Option Bool:=F.l a0 a1 a2 a3 a4 A.FU [] [a3]
theorem o_al(a0:((List (Int×D70))×(List Int)×(List (Int×Int))))(a1:(List (D118×(List D118))))(a2:(List (D118×Int)))(a3:D118)(a4:Int)(h7_:A.h6 a3.1)(h8_:A.h6 a3.2)(h9_:A.h6 a4)(r:Bool)(hF:F.aA a0 a1 a2 a3 a4=some r):
    A.Ct Tryz.prog 114 [.pointer (some ⟨g0_,0,none⟩),.map (some b5_),.map (some b6_),.agg #[A.i a3.1,A.i a3.2],A.i a4] [(0,.blk g0_ 131 [.map (some b1_),.slice A2_ a0.2.1.length c3_,.map (some b4_)]),(1,.mp Int (fun i:Int=>A.i i) T70 true b1_ a0.1),(2,.own A.ti 3 A2_ c3_ a0.2.1),(3,.mp Int (fun i:Int=>A.i i) A.ti false b4_ a0.2.2),(4,.lmp D118 (fun x:D118=>.agg #[A.i x.1,A.i x.2]) (Z.Ty.slice T118) false b5_ a1),(5,.lmp D118 (fun x:D118=>.agg #[A.i x.1,A.i x.2]) A.ti false b6_ a2)] ([g0_]++([b1_]++(Z.obl A2_++([b4_]++[])))) (fun v H'=>v=.bool r∧H'=[(0,.blk g0_ 131 [.map (some b1_),.slice A2_ a0.2.1.length c3_,.map (some b4_)]),(1,.mp Int (fun i:Int=>A.i i) T70 true b1_ a0.1),(2,.own A.ti 3 A2_ c3_ a0.2.1),(3,.mp Int (fun i:Int=>A.i i) A.ti false b4_ a0.2.2)]):=by
 refine A.Ct.enter Tryz.func114 rfl Tryz.ntmps114 rfl fun w0 F0=>?_;rw[F.aA]at hF;refine A.xl 1 ?_;refine A.AL.box 6 (cs:=[A.i a3.1,A.i a3.2]) fun g1=>?_;refine A.n 1 [] (A.dl 2 ?_);refine A.AL.mkm 7 D118 (fun x:D118=>.agg #[A.i x.1,A.i x.2]) Z.Ty.bool false fun b2=>?_;refine A.n 1 [(11,.map (some b2))] (A.dl 2 ?_);refine A.q0 [6] [] [.b 0 0] [(18,.agg #[A.i a3.1,A.i a3.2])] ?_;refine A.AL.bsl 8 (ty:=T118) (cs:=[A.i a3.1,A.i a3.2]) [a3] ⟨⟨⟨rfl,h7_⟩,⟨rfl,h8_⟩⟩,rfl⟩ (fun g3=>?_) Tryz.zeroValue119 Tryz.sizeOf119
 refine A.n 1 [(12,.slice (some ⟨g3,0,none⟩) 1 1)] (A.dx 3 ?_);refine A.lp_ [0,1,2,4,8,11] l2e (fun f nl nh=>∃(m4:List (D118×Bool)),∃(xs7:List D118),∃(A5:Option Addr),∃(c6:Nat),nl=[(12,.slice A5 xs7.length c6)]∧nh=[(7,.mp D118 (fun x:D118=>.agg #[A.i x.1,A.i x.2]) Z.Ty.bool false b2 m4),(8,.own T118 119 A5 c6 xs7)]∧F.l a0 a1 a2 a3 a4 f m4 xs7=some r) ⟨[],[a3],(some ⟨g3,0,none⟩),1,rfl,rfl,hF⟩ ?_;rintro f8 _ _ ⟨m4,xs7,A5,c6,rfl,rfl,hF⟩;rcases f8 with _|f8
 ·exact A.no0 hF
 rw[F.l]at hF;refine A.xl 2 ?_;refine A.n 3 [(22,.bool (decide ((0:Int)<(xs7.length:Int))))] (A.dx 1 ?_);refine A.c hF ?_ ?_<;>intro hb hF
 ·refine A.xl 4 ?_;have⟨hc9,hF⟩:=A.g hF;refine A.m 4 [Z.R64 ((xs7.length:Int)-1)] [(23,.slice A5 xs7.length c6),(26,A.i ((xs7.length:Int)-1))] hc9 ?_;have⟨x10,hv11,hF⟩:=A.b hF;refine A.AL.ixo 8 587 hv11 fun ho12=>?_;intro g13 hA14;refine A.q0 [] [587] [.e 0 0] [(28,.agg #[A.i x10.1,A.i x10.2])] ?_;refine A.AL.alloc 588 (cs:=l2q) Tryz.zeroValue119 fun g15=>?_;refine A.sw 588 [] [A.i x10.1,A.i x10.2] ?_;refine A.dl 2 ?_;have⟨hc16,hF⟩:=A.g hF;refine A.m 4 [Z.R64 ((xs7.length:Int)-1)] [(29,.slice A5 xs7.length c6),(32,A.i ((xs7.length:Int)-1))] hc16 ?_;have⟨hc17,hF⟩:=A.g hF;refine A.AL.cuto 8 [587] (v:=((xs7.length:Int)-1).toNat) (Int.toNat_of_nonneg hc17.1).symm hc17.2 ?_;refine A.n 1 [(12,.slice A5 ((List.take (((xs7.length:Int)-1).toNat) xs7).length) c6)] (A.dx 2 ?_);refine A.AX.join [0,1,2,4,8,11,12,13] l2i (fun nl nh=>∃(xs22:List Int),∃(y23:Int),∃(y25:Int),∃(y27:Int),∃(y29:Int),∃(y31:ByteArray),∃(y33:ByteArray),∃(y35:Int),∃(y37:Int),∃(A20:Option Addr),∃(c21:Nat),∃(g39:Nat),nl=[(14,.pointer (some ⟨g39,0,none⟩))]∧nh=[(770,.sh A.TI [.slice A20 xs22.length c21] xs22),(800,.blk g39 71 [A.i y23,A.i y25,.slice A20 xs22.length c21,A.i y27,A.i y29,.string y31,.string y33,A.i y35,A.i y37])]∧A.h6 y23∧A.h6 y25∧A.h6 y27∧A.h6 y29∧y31.size≤maxLen∧y33.size≤maxLen∧A.h6 y35∧A.h6 y37∧F.bQ (F.l a0 a1 a2 a3 a4 f8) a1 a2 a3 a4 m4 xs7 x10 xs22 y23 y25 y27 y29 y31 y33 y35 y37=some r) ?_ ?_
  ·refine A.AX.dr mixed 8 9 (A.mb 9 0) ?_;refine A.hq A.pb [] l2i [588,0] [] (A.mb 9 63) 3 [(0,.n),(4,.n),(1,.n),(5,.b 0 0),(2,.n),(3,.b 1 0)] [(39,A.i x10.1),(37,.map (some b1_))] ?_;refine A.AH.two 6 7 ?_ ?_
   ·obtain⟨x435,hv436,hF⟩:=A.lt_some hF;refine A.AL.lku (t:=T70) 1 770 (z:=((0,0,[],(0,0,(ByteArray.mk #[])),(ByteArray.mk #[]),0,0):D70)) (zs:=l2a) ky3 x10.1 Tryz.zeroValue71 ⟨⟨rfl,by decide⟩,⟨rfl,by decide⟩,(.inr ⟨rfl,rfl⟩),⟨⟨rfl,by decide⟩,⟨rfl,by decide⟩,⟨rfl,by decide⟩⟩,⟨rfl,by decide⟩,⟨rfl,by decide⟩,⟨rfl,by decide⟩⟩ hv436 fun ho437=>?_;intro A438 c439;refine A.AH.nx (A.mb 9 127) l2i ?_;refine A.AH.one 7 ?_;refine A.AL.alloc 800 (cs:=l2a) Tryz.zeroValue71 fun g495=>?_;refine A.AH.nx (A.mb 9 255) l2i ?_;refine A.AH.one 8 ?_;refine A.sw 800 [] [A.i x435.1,A.i x435.2.1,.slice A438 x435.2.2.1.length c439,A.i x435.2.2.2.1.1,A.i x435.2.2.2.1.2.1,.string x435.2.2.2.1.2.2,.string x435.2.2.2.2.1,A.i x435.2.2.2.2.2.1,A.i x435.2.2.2.2.2.2] ?_;refine A.AH.nm (A.mb 9 511) ?_;refine A.AH.done ?_;exact A.j ⟨x435.2.2.1,x435.1,x435.2.1,x435.2.2.2.1.1,x435.2.2.2.1.2.1,x435.2.2.2.1.2.2,x435.2.2.2.2.1,x435.2.2.2.2.2.1,x435.2.2.2.2.2.2,A438,c439,g495,rfl,rfl,ho437.1,ho437.2.1,ho437.2.2.2.1.1,ho437.2.2.2.1.2.1,ho437.2.2.2.1.2.2,ho437.2.2.2.2.1,ho437.2.2.2.2.2.1,ho437.2.2.2.2.2.2,hF⟩
   refine A.AL.alloc 800 (cs:=l2a) Tryz.zeroValue71 fun g495=>?_;refine A.AH.nx (A.mb 9 191) l2i ?_;refine A.AH.one 6 ?_;obtain⟨x435,hv436,hF⟩:=A.lt_some hF;refine A.AL.lku (t:=T70) 1 770 (z:=((0,0,[],(0,0,(ByteArray.mk #[])),(ByteArray.mk #[]),0,0):D70)) (zs:=l2a) ky3 x10.1 Tryz.zeroValue71 ⟨⟨rfl,by decide⟩,⟨rfl,by decide⟩,(.inr ⟨rfl,rfl⟩),⟨⟨rfl,by decide⟩,⟨rfl,by decide⟩,⟨rfl,by decide⟩⟩,⟨rfl,by decide⟩,⟨rfl,by decide⟩,⟨rfl,by decide⟩⟩ hv436 fun ho437=>?_;intro A438 c439;refine A.AH.nx (A.mb 9 255) l2i ?_;refine A.AH.one 8 ?_;refine A.sw 800 [] [A.i x435.1,A.i x435.2.1,.slice A438 x435.2.2.1.length c439,A.i x435.2.2.2.1.1,A.i x435.2.2.2.1.2.1,.string x435.2.2.2.1.2.2,.string x435.2.2.2.2.1,A.i x435.2.2.2.2.2.1,A.i x435.2.2.2.2.2.2] ?_;refine A.AH.nm (A.mb 9 511) ?_;refine A.AH.done ?_;exact A.j ⟨x435.2.2.1,x435.1,x435.2.1,x435.2.2.2.1.1,x435.2.2.2.1.2.1,x435.2.2.2.1.2.2,x435.2.2.2.2.1,x435.2.2.2.2.2.1,x435.2.2.2.2.2.2,A438,c439,g495,rfl,rfl,ho437.1,ho437.2.1,ho437.2.2.2.1.1,ho437.2.2.2.1.2.1,ho437.2.2.2.1.2.2,ho437.2.2.2.2.1,ho437.2.2.2.2.2.1,ho437.2.2.2.2.2.2,hF⟩
  rintro _ _ ⟨xs22,y23,y25,y27,y29,y31,y33,y35,y37,A20,c21,g39,rfl,rfl,hy24,hy26,hy28,hy30,hy32,hy34,hy36,hy38,hF⟩;rw[F.bQ]at hF;refine A.xl 1 ?_;refine A.q0 [800] [] [.n,.b 0 1,.n,.n,.sy .n,.sy (.b 0 8),.sy .n,.sy .n,.pk] [(49,.bool (bif decide (y25=14)then decide (y37=a4)else false))] (A.dx 1 ?_);refine A.d hF ?_ ?_<;>intro hb hF
  ·refine A.xe 1 ?_;exact A.j ⟨_,Nat.lt_succ_self _,⟨m4,(List.take (((xs7.length:Int)-1).toNat) xs7),A5,c6,rfl,rfl,hF⟩⟩
  refine A.xl 3 ?_;refine A.q0 [588] [] [.n,.b 0 0] [(50,.map (some b5_)),(51,.agg #[A.i x10.1,A.i x10.2])] ?_;obtain⟨x40,hv41,hF⟩:=A.lt_some hF;refine A.AL.lku (t:=(Z.Ty.slice T118)) 4 860 (z:=([]:(List D118))) (zs:=[.slice none 0 0]) ky119 x10 Tryz.zeroValue172 (.inr ⟨rfl,rfl⟩) hv41 fun ho42=>?_;intro A43 c44;refine A.n 2 [(53,A.i (x40.length:Int)),(54,A.i 0)] (A.dx 2 ?_);refine A.lp_ [0,1,2,4,8,11,52,53] [0,1,2,3,4,5,6,860] (fun f nl nh=>∃(m45:List (D118×Bool)),∃(xs48:List D118),∃(y49:Int),∃(A46:Option Addr),∃(c47:Nat),nl=[(12,.slice A46 xs48.length c47),(54,A.i y49)]∧nh=[(7,.mp D118 (fun x:D118=>.agg #[A.i x.1,A.i x.2]) Z.Ty.bool false b2 m45),(8,.own T118 119 A46 c47 xs48)]∧A.h6 y49∧F.k (F.l a0 a1 a2 a3 a4 f8) a2 a3 a4 x40 f m45 xs48 y49=some r) ⟨m4,(List.take (((xs7.length:Int)-1).toNat) xs7),0,A5,c6,rfl,rfl,A.z0,hF⟩ ?_;rintro f51 _ _ ⟨m45,xs48,y49,A46,c47,rfl,rfl,hy50,hF⟩;rcases f51 with _|f51
  ·exact A.no0 hF
  rw[F.k]at hF;refine A.xl 1 ?_;refine A.n 1 [(55,.bool (decide (y49<(x40.length:Int))))] (A.dx 2 ?_);refine A.c hF ?_ ?_<;>intro hb hF
  ·refine A.xx 2 ?_;refine A.AX.join [0,1,2,4,8,11,52,53,54] [0,1,2,3,4,5,6,860] (fun nl nh=>∃(m53:List (D118×Bool)),∃(xs56:List D118),∃(A54:Option Addr),∃(c55:Nat),nl=[(12,.slice A54 xs56.length c55)]∧nh=[(7,.mp D118 (fun x:D118=>.agg #[A.i x.1,A.i x.2]) Z.Ty.bool false b2 m53),(8,.own T118 119 A54 c55 xs56)]∧F.a0 (F.k (F.l a0 a1 a2 a3 a4 f8) a2 a3 a4 x40 f51) y49 m53 xs56=some r) ?_ ?_
   ·refine A.xl 2 ?_;have⟨x58,hv59,hF⟩:=A.b hF;refine A.AL.ixs 860 871 hv59 fun ho60=>?_;intro b61 o62;refine A.q0 [] [871] [.e 0 0] [(57,.agg #[A.i x58.1,A.i x58.2])] ?_;refine A.AL.alloc 872 (cs:=l2q) Tryz.zeroValue119 fun g63=>?_;refine A.sw 872 [] [A.i x58.1,A.i x58.2] ?_;refine A.dl 3 ?_;refine A.q0 [872,6] [] [.b 0 0,.b 1 0] [(58,.agg #[A.i x58.1,A.i x58.2]),(59,.agg #[A.i a3.1,A.i a3.2])] ?_;refine A.AL.val rfl (fun a w hf hh=>eqagg_eql119 (x:=x58) (y:=a3) (hf.eval rfl) (hf.eval rfl)) ?_;refine A.dx 1 ?_;refine A.c hF ?_ ?_<;>intro hb hF
    ·refine A.xl 1 ?_;refine A.n 1 [(10,.bool true)] (A.dx 1 ?_);obtain rfl:=A.si hF;exact A.rt1 [(0,0),(1,1),(2,2),(3,3)] ⟨rfl,rfl⟩
    refine A.xx 2 ?_;refine A.AX.join [0,1,2,4,8,11,12,16,52,53,54] [0,1,2,3,4,5,6,7,8,860,872] (fun nl nh=>∃(y64:Bool),nl=[(71,.bool y64)]∧nh=[]∧F.a1 (F.k (F.l a0 a1 a2 a3 a4 f8) a2 a3 a4 x40 f51) m45 xs48 y49 x58 y64=some r) ?_ ?_
    ·refine A.xl 0 ?_;refine A.q0 [872] [] [.n,.b 0 0] [(61,.map (some b6_)),(62,.agg #[A.i x58.1,A.i x58.2])] ?_;obtain⟨x69,hv70,hF⟩:=A.lt_some hF;refine A.AL.lku (t:=A.ti) 5 873 (z:=(0:Int)) (zs:=l2o) ky119 x58 Tryz.zeroValue3 ⟨rfl,by decide⟩ hv70 fun ho71=>?_;refine A.n 3 [(66,.bool (decide (a4≤x69)))] ?_;refine A.AL.cnp (j:=66) rfl hF ?_ ?_<;>intro hb hF
     ·refine A.q0 [872] [] [.on .n,.on (.b 0 0)] [(67,.map (some b2)),(68,.agg #[A.i x58.1,A.i x58.2])] ?_;refine A.AL.on (dj:=66) rfl rfl ?_;obtain⟨x72,hv73,hF⟩:=A.lt_some hF;refine A.AL.lku (t:=Z.Ty.bool) 7 874 (z:=(false:Bool)) (zs:=[.bool false]) ky119 x58 Tryz.zeroValue4 rfl hv73 fun ho74=>?_;refine A.q0 [] [] [.on .n,.n] [(71,.bool (!x72))] (A.AL.done ?_);exact A.j ⟨(!x72),rfl,rfl,hF⟩
     refine A.q0 [] [] [.off,.off,.off,.off,.n] [(71,.bool false)] (A.AL.done ?_);exact A.j ⟨false,rfl,rfl,hF⟩
    rintro _ _ ⟨y64,rfl,rfl,hF⟩;rw[F.a1]at hF;refine A.d hF ?_ ?_<;>intro hb hF
    ·refine A.xl 1 ?_;refine A.q0 [872] [] [.n,.b 0 0] [(72,.map (some b2)),(73,.agg #[A.i x58.1,A.i x58.2])] ?_;refine A.AL.mup (t:=Z.Ty.bool) 7 [] (cs:=[.bool true]) (u:=true) ky119 x58 rfl ?_;refine A.dl 1 ?_;refine A.q0 [872] [] [.n,.b 0 0] [(74,.slice A46 xs48.length c47),(75,.agg #[A.i x58.1,A.i x58.2])] ?_;refine A.AL.bsl 875 (ty:=T118) (cs:=[A.i x58.1,A.i x58.2]) [x58] ⟨⟨⟨rfl,ho60.1⟩,⟨rfl,ho60.2⟩⟩,rfl⟩ (fun g65=>?_) Tryz.zeroValue119 Tryz.sizeOf119
     have⟨hl68,hF⟩:=A.g hF;refine A.AL.app (k:=8) [] (A.rowO (k:=875) rfl) inf119 hl68 fun A66 c67=>?_;refine A.n 1 [(12,.slice A66 ((xs48++[x58]).length) c67)] (A.de 1 ?_);exact A.j ⟨(Z.mins m45 x58 true),(xs48++[x58]),A66,c67,rfl,rfl,hF⟩
    refine A.xe 2 ?_;exact A.j ⟨m45,xs48,A46,c47,rfl,rfl,hF⟩
   rintro _ _ ⟨m53,xs56,A54,c55,rfl,rfl,hF⟩;rw[F.a0]at hF;refine A.xl 0 ?_;have⟨hc57,hF⟩:=A.g hF;refine A.m 2 [Z.R64 (y49+1)] [(54,A.i (y49+1))] hc57 (A.AL.done ?_);exact A.j ⟨_,Nat.lt_succ_self _,⟨m53,xs56,(y49+1),A54,c55,rfl,rfl,(Z.i64_has hc57),hF⟩⟩
  refine A.xe 2 ?_;exact A.j ⟨_,Nat.lt_succ_self _,⟨m45,xs48,A46,c47,rfl,rfl,hF⟩⟩
 refine A.xl 3 ?_;refine A.n 1 [(10,.bool false)] (A.dx 1 ?_);obtain rfl:=A.si hF;exact A.rt1 [(0,0),(1,1),(2,2),(3,3)] ⟨rfl,rfl⟩
def F.av (a0:((List (Int×D70))×(List Int)×(List (Int×Int))))(m7:List (D118×Int))(m24:List (D118×(List D118)))(p46:D118×Int):Option (Option Bool):=A.gd (decide (A.h6 p46.1.1)=true∧decide (A.h6 p46.1.2)=true) ((F.aA a0 m24 m7 p46.1 p46.2).bind fun r53=>(if r53=true then(some (some true))else(some none)))
def F.s (a0:((List (Int×D70))×(List Int)×(List (Int×Int))))(m7:List (D118×Int))(r19:(List D170)):Nat→(List (D118×(List D118)))→Int→Option Bool
 |0,_,_=>none
 |f+1,m24,y25=>if y25<(r19.length:Int)then((A.ix r19 y25).bind fun x28=>(A.gd (((Z.mget ([]:List D118) m24 x28.1).length+List.length (α:=D118) [x28.2.1])*16≤140737488355328) (A.gd (Z.R64 (y25+1)) ((F.s a0 m7 r19 f) (Z.mins m24 x28.1 (Z.mget ([]:List D118) m24 x28.1++[x28.2.1])) (y25+1)))))else(A.mrg (F.av a0 m7 m24) (some false) m7)
def F.ah (a0:((List (Int×D70))×(List Int)×(List (Int×Int))))(a1:D23)(r3:(List D145)):Nat→(List (D118×Int))→Int→Option Bool
 |0,_,_=>none
 |f+1,m7,y8=>if y8<(r3.length:Int)then((A.ix r3 y8).bind fun x11=>(A.gd (Z.R64 (y8+1)) ((F.ah a0 a1 r3 f) (Z.mins m7 x11.1 x11.2) (y8+1))))else((F.aW a0 a1).bind fun r19=>(F.s a0 m7 r19 A.FU [] 0))
def F.bB (a0:((List (Int×D70))×(List Int)×(List (Int×Int))))(a1:D23):Option Bool:=(F.bA a0 a1).bind fun r3=>(F.ah a0 a1 r3 A.FU [] 0)
theorem o_aD(a0:((List (Int×D70))×(List Int)×(List (Int×Int))))(a1:D23)(r:Bool)(hF:F.bB a0 a1=some r):
    A.Ct Tryz.prog 86 [.pointer (some ⟨g0_,0,none⟩),.agg #[.slice A5_ a1.length c6_]] [(0,.blk g0_ 131 [.map (some b1_),.slice A2_ a0.2.1.length c3_,.map (some b4_)]),(1,.mp Int (fun i:Int=>A.i i) T70 true b1_ a0.1),(2,.own A.ti 3 A2_ c3_ a0.2.1),(3,.mp Int (fun i:Int=>A.i i) A.ti false b4_ a0.2.2),(4,.sh (.slice T70) [.slice A5_ a1.length c6_] a1)] ([g0_]++([b1_]++(Z.obl A2_++([b4_]++[])))) (fun v H'=>v=.bool r∧H'=[(0,.blk g0_ 131 [.map (some b1_),.slice A2_ a0.2.1.length c3_,.map (some b4_)]),(1,.mp Int (fun i:Int=>A.i i) T70 true b1_ a0.1),(2,.own A.ti 3 A2_ c3_ a0.2.1),(3,.mp Int (fun i:Int=>A.i i) A.ti false b4_ a0.2.2)]):=by
 refine A.Ct.enter Tryz.func86 rfl Tryz.ntmps86 rfl fun w0 F0=>?_;rw[F.bB]at hF;refine A.xl 1 ?_;refine A.AL.box 5 (cs:=[.slice A5_ a1.length c6_]) fun g1=>?_;refine A.n 1 [] (A.dl 2 ?_);refine A.AL.mkm 6 D118 (fun x:D118=>.agg #[A.i x.1,A.i x.2]) A.ti false fun b2=>?_;refine A.n 1 [(5,.map (some b2))] (A.dl 3 ?_);refine A.q0 [5] [] [.n,.b 0 0] [(14,.pointer (some ⟨g0_,0,none⟩)),(15,.agg #[.slice A5_ a1.length c6_])] ?_;refine A.v 7 [] hF (o_aB A2_ A5_ g0_ b1_ c3_ b4_ c6_ a0 a1) (.m 0 (.m 1 (.m 2 (.m 3 (.s 4 .nil))))) ?_;rintro r3 - hF _ _ ⟨A5,c6,rfl,rfl⟩;refine A.ck ?_;refine A.mvd 8 0 [] ?_;refine A.mvd 9 1 [] ?_;refine A.mvd 10 2 [] ?_;refine A.mvd 11 3 [] ?_;refine A.n 2 [(17,A.i (r3.length:Int)),(18,A.i 0)] (A.dx 2 ?_);refine A.lp_ [0,3,5,16,17] [0,1,2,3,4,5,7] (fun f nl nh=>∃(m7:List (D118×Int)),∃(y8:Int),nl=[(18,A.i y8)]∧nh=[(6,.mp D118 (fun x:D118=>.agg #[A.i x.1,A.i x.2]) A.ti false b2 m7)]∧A.h6 y8∧F.ah a0 a1 r3 f m7 y8=some r) ⟨[],0,rfl,rfl,A.z0,hF⟩ ?_;rintro f10 _ _ ⟨m7,y8,rfl,rfl,hy9,hF⟩;rcases f10 with _|f10
 ·exact A.no0 hF
 rw[F.ah]at hF;refine A.xl 1 ?_;refine A.n 1 [(19,.bool (decide (y8<(r3.length:Int))))] (A.dx 2 ?_);refine A.c hF ?_ ?_<;>intro hb hF
 ·refine A.xl 5 ?_;have⟨x11,hv12,hF⟩:=A.b hF;refine A.AL.ixo 7 409 hv12 fun ho13=>?_;intro g14 hA15;refine A.q0 [] [409] [.e 0 0] [(21,.agg #[A.i x11.1.1,A.i x11.1.2,A.i x11.2])] ?_;refine A.AL.alloc 410 (cs:=[A.i 0,A.i 0,A.i 0]) Tryz.zeroValue146 fun g16=>?_;refine A.sw 410 [] [A.i x11.1.1,A.i x11.1.2,A.i x11.2] ?_;refine A.dl 1 ?_;refine A.q0 [410] [] [.n,.n,.b 0 0,.n,.b 0 2] [(22,.map (some b2)),(24,.agg #[A.i x11.1.1,A.i x11.1.2]),(26,A.i x11.2)] ?_;refine A.AL.mup (t:=A.ti) 6 [] (cs:=[A.i x11.2]) (u:=x11.2) ky119 x11.1 ⟨rfl,ho13.2⟩ ?_;refine A.dl 2 ?_;have⟨hc17,hF⟩:=A.g hF;refine A.m 2 [Z.R64 (y8+1)] [(18,A.i (y8+1))] hc17 (A.AL.done ?_);exact A.j ⟨_,Nat.lt_succ_self _,⟨(Z.mins m7 x11.1 x11.2),(y8+1),rfl,rfl,(Z.i64_has hc17),hF⟩⟩
 refine A.xl 3 ?_;refine A.AL.mkmr 411 D118 (fun x:D118=>.agg #[A.i x.1,A.i x.2]) T118 119 fun b18=>?_;refine A.n 1 [(8,.map (some b18))] (A.dl 3 ?_);refine A.q0 [5] [] [.n,.b 0 0] [(29,.pointer (some ⟨g0_,0,none⟩)),(30,.agg #[.slice A5_ a1.length c6_])] ?_;refine A.v 412 [] hF (o_aC A2_ A5_ g0_ b1_ c3_ b4_ c6_ a0 a1) (.m 0 (.m 1 (.m 2 (.m 3 (.s 4 .nil))))) ?_;rintro r19 - hF _ _ ⟨A21,c22,rfl,rfl⟩;refine A.ck ?_;refine A.mvd 413 0 [] ?_;refine A.mvd 414 1 [] ?_;refine A.mvd 415 2 [] ?_;refine A.mvd 416 3 [] ?_;refine A.n 2 [(32,A.i (r19.length:Int)),(33,A.i 0)] (A.dx 2 ?_);refine A.lp_ [0,5,8,31,32] [0,1,2,3,6,412] (fun f nl nh=>∃(m24:List (D118×(List D118))),∃(y25:Int),∃(As23:List (Option Addr×Nat)),nl=[(33,A.i y25)]∧nh=[(411,.mr D118 (fun x:D118=>.agg #[A.i x.1,A.i x.2]) T118 119 b18 As23 m24)]∧A.h6 y25∧F.s a0 m7 r19 f m24 y25=some r) ⟨[],0,[],rfl,rfl,A.z0,hF⟩ ?_;rintro f27 _ _ ⟨m24,y25,As23,rfl,rfl,hy26,hF⟩;rcases f27 with _|f27
 ·exact A.no0 hF
 rw[F.s]at hF;refine A.xl 1 ?_;refine A.n 1 [(34,.bool (decide (y25<(r19.length:Int))))] (A.dx 2 ?_);refine A.c hF ?_ ?_<;>intro hb hF
 ·refine A.xl 5 ?_;have⟨x28,hv29,hF⟩:=A.b hF;refine A.AL.ixo 412 544 hv29 fun ho30=>?_;intro g31 hA32;refine A.q0 [] [544] [.e 0 0] [(36,.agg #[A.i x28.1.1,A.i x28.1.2,A.i x28.2.1.1,A.i x28.2.1.2,A.i x28.2.2.1,A.i x28.2.2.2.1,A.i x28.2.2.2.2.1,A.i x28.2.2.2.2.2.1,A.i x28.2.2.2.2.2.2.1,A.i x28.2.2.2.2.2.2.2.1,A.i x28.2.2.2.2.2.2.2.2.1,A.i x28.2.2.2.2.2.2.2.2.2])] ?_;refine A.AL.alloc 545 (cs:=[A.i 0,A.i 0,A.i 0,A.i 0,A.i 0,A.i 0,A.i 0,A.i 0,A.i 0,A.i 0,A.i 0,A.i 0]) Tryz.zeroValue171 fun g33=>?_;refine A.sw 545 [] [A.i x28.1.1,A.i x28.1.2,A.i x28.2.1.1,A.i x28.2.1.2,A.i x28.2.2.1,A.i x28.2.2.2.1,A.i x28.2.2.2.2.1,A.i x28.2.2.2.2.2.1,A.i x28.2.2.2.2.2.2.1,A.i x28.2.2.2.2.2.2.2.1,A.i x28.2.2.2.2.2.2.2.2.1,A.i x28.2.2.2.2.2.2.2.2.2] ?_;refine A.dl 1 ?_;refine A.q0 [545] [] [.n,.n,.b 0 0,.n,.b 0 2] [(37,.map (some b18)),(39,.agg #[A.i x28.1.1,A.i x28.1.2]),(42,.agg #[A.i x28.2.1.1,A.i x28.2.1.2])] ?_;refine A.AL.bsl 546 (ty:=T118) (cs:=[A.i x28.2.1.1,A.i x28.2.1.2]) [x28.2.1] ⟨⟨⟨rfl,ho30.2.1.1⟩,⟨rfl,ho30.2.1.2⟩⟩,rfl⟩ (fun g34=>?_) Tryz.zeroValue119 Tryz.sizeOf119
  have⟨hl35,hF⟩:=A.g hF;refine A.AL.mapp (t:=T118) (ys:=[x28.2.1]) 411 546 [] ky119 x28.1 Tryz.zeroValue172 inf119 hl35 fun As36 v37 v38 v39 v40=>?_;refine A.dl 2 ?_;have⟨hc41,hF⟩:=A.g hF;refine A.m 2 [Z.R64 (y25+1)] [(33,A.i (y25+1))] hc41 (A.AL.done ?_);exact A.j ⟨_,Nat.lt_succ_self _,⟨(Z.mins m24 x28.1 (Z.mget ([]:List D118) m24 x28.1++[x28.2.1])),(y25+1),As36,rfl,rfl,(Z.i64_has hc41),hF⟩⟩
 refine A.xl 4 ?_;refine A.n 1 [(48,.map (some b2))] ?_;refine A.AL.rgm 6 547 fun g42=>?_;refine A.dx 2 ?_;refine A.frzM 411 [] ?_;obtain⟨hev,hend⟩:=A.mrg_all hF;refine A.AX.loop [0,5,8,49] [0,1,2,3,6,411] [547,0,1,2,3,6,411] (fun f nl nh=>∃(sn:List Nat) (la:Option (Value×Value)),nl=[]∧nh=[(547,.mit 6 g42 b2 m7.length sn la)]∧sn.Nodup∧(∀i∈sn,i<m7.length)∧(∀i∈sn,∀p,(m7)[i]?=some p→F.av a0 m7 m24 p=some none)∧f+sn.length=m7.length+1) (m7.length+1) [] [(547,.mit 6 g42 b2 m7.length [] none)] ⟨[],none,rfl,rfl,List.nodup_nil,by simp,by simp,rfl⟩ ?_;rintro f45 _ _ ⟨sn43,la44,rfl,rfl,hnd,hbd,hse,hff⟩;refine A.xl 1 ?_;refine A.AL.nxm 6 547 548 (fun hall=>?_) (fun i47 p46 hp48 hs49 ho50=>?_)
 ·replace hF:=hend (A.seen_all hse hall)
  refine A.n 1 [(51,.bool false)] (A.dx 2 ?_);refine A.AX.cnf rfl ?_;refine A.xl 3 ?_;refine A.n 1 [(4,.bool false)] (A.dx 1 ?_);obtain rfl:=A.si hF;exact A.rt1 [(0,0),(1,1),(2,2),(3,3)] ⟨rfl,rfl⟩
 obtain⟨q,hB,hq⟩:=hev p46 (List.mem_of_getElem? hp48)
 have hF:=hB
 rw[F.av]at hF;have⟨hkc51,hF⟩:=A.g hF;refine A.n 1 [(51,.bool true)] (A.dx 2 ?_);refine A.AX.cnt rfl ?_;refine A.xl 4 ?_;refine A.AL.ent 547 ?_;refine A.n 2 [(53,.agg #[A.i p46.1.1,A.i p46.1.2]),(54,A.i p46.2)] ?_;refine A.AL.alloc 549 (cs:=l2q) Tryz.zeroValue119 fun g52=>?_;refine A.sw 549 [] [A.i p46.1.1,A.i p46.1.2] ?_;refine A.n 1 [(12,A.i p46.2)] (A.dl 2 ?_);refine A.q0 [549] [] [.n,.n,.n,.b 0 0,.n] [(55,.pointer (some ⟨g0_,0,none⟩)),(56,.map (some b18)),(57,.map (some b2)),(58,.agg #[A.i p46.1.1,A.i p46.1.2]),(59,A.i p46.2)] ?_;have⟨r53,hv54,hF⟩:=A.b hF;refine A.AL.call 550 [] (first:=[]) (cap:=[]) cf114 (o_al A2_ g0_ b1_ c3_ b4_ b18 b2 a0 m24 m7 p46.1 p46.2 (of_decide_eq_true hkc51.1) (of_decide_eq_true hkc51.2) ho50 r53 hv54) (.m 0 (.m 1 (.m 2 (.m 3 (.lm 411 (.lm 6 .nil)))))) ?_;rintro _ _ ⟨rfl,rfl⟩;refine A.ck ?_;refine A.mvd 550 0 [] ?_;refine A.mvd 551 1 [] ?_;refine A.mvd 552 2 [] ?_;refine A.mvd 553 3 [] ?_;refine A.dx 1 ?_;refine A.d hF ?_ ?_<;>intro hb hF
 ·refine A.xl 1 ?_;refine A.n 1 [(4,.bool true)] (A.dx 1 ?_);obtain rfl:=A.si hF;obtain rfl:=Option.some.inj (hq.resolve_left (by intro h;cases h))
  exact A.rt1 [(0,0),(1,1),(2,2),(3,3)] ⟨rfl,rfl⟩
 refine A.xe 2 ?_;obtain rfl:=A.si hF;exact A.AE.j [547,0,1,2,3,6,411] [] [(547,.mit 6 g42 b2 m7.length (i47::sn43) (some (.agg #[A.i p46.1.1,A.i p46.1.2],A.i p46.2)))] ⟨_,(A.seen_f hnd (A.seen_bd hbd hp48) hs49 hff).1,_,_,rfl,rfl,List.nodup_cons.2 ⟨hs49,hnd⟩,A.seen_bd hbd hp48,A.seen_cons hse hp48 hB,(A.seen_f hnd (A.seen_bd hbd hp48) hs49 hff).2⟩
def F.dY (a0:D70)(b0:D70):Option Bool:=some (bif decide (a0.2.1=b0.2.1)then decide (a0.2.2.2.2.1=b0.2.2.2.2.1)else false)
theorem o_aV(a0:D70)(b0:D70)(h0_:A.h6 a0.1)(h1_:A.h6 a0.2.1)(h4_:A.h6 a0.2.2.2.1.1)(h5_:A.h6 a0.2.2.2.1.2.1)(h6_:a0.2.2.2.1.2.2.size≤maxLen)(h7_:a0.2.2.2.2.1.size≤maxLen)(h8_:A.h6 a0.2.2.2.2.2.1)(h9_:A.h6 a0.2.2.2.2.2.2)(h11_:A.h6 b0.1)(h12_:A.h6 b0.2.1)(h15_:A.h6 b0.2.2.2.1.1)(h16_:A.h6 b0.2.2.2.1.2.1)(h17_:b0.2.2.2.1.2.2.size≤maxLen)(h18_:b0.2.2.2.2.1.size≤maxLen)(h19_:A.h6 b0.2.2.2.2.2.1)(h20_:A.h6 b0.2.2.2.2.2.2)(r:Bool)(hF:F.dY a0 b0=some r):
    A.Ct Tryz.prog 81 [.agg #[A.i a0.1,A.i a0.2.1,.slice A2_ a0.2.2.1.length c3_,A.i a0.2.2.2.1.1,A.i a0.2.2.2.1.2.1,.string a0.2.2.2.1.2.2,.string a0.2.2.2.2.1,A.i a0.2.2.2.2.2.1,A.i a0.2.2.2.2.2.2],.pointer (some ⟨g10_,0,none⟩)] [(0,.sh A.TI [.slice A2_ a0.2.2.1.length c3_] a0.2.2.1),(1,.el none g10_ 0 [A.i b0.1,A.i b0.2.1,.slice A13_ b0.2.2.1.length c14_,A.i b0.2.2.2.1.1,A.i b0.2.2.2.1.2.1,.string b0.2.2.2.1.2.2,.string b0.2.2.2.2.1,A.i b0.2.2.2.2.2.1,A.i b0.2.2.2.2.2.2]),(2,.sh A.TI [.slice A13_ b0.2.2.1.length c14_] b0.2.2.1)] [] (fun v H'=>v=.bool r∧H'=[]):=by
 refine A.Ct.enter Tryz.func81 rfl Tryz.ntmps81 rfl fun w0 F0=>?_;rw[F.dY]at hF;refine A.xl 1 ?_;refine A.AL.box 3 (cs:=[A.i a0.1,A.i a0.2.1,.slice A2_ a0.2.2.1.length c3_,A.i a0.2.2.2.1.1,A.i a0.2.2.2.1.2.1,.string a0.2.2.2.1.2.2,.string a0.2.2.2.2.1,A.i a0.2.2.2.2.2.1,A.i a0.2.2.2.2.2.2]) fun g1=>?_;refine A.n 1 [] (A.dl 2 ?_);refine A.q0 [3] [1] [.n,.b 0 1,.n,.e 0 1,.n,.n,.sy .n,.sy (.b 0 6),.sy .n,.sy (.e 0 6),.sy .n,.pk,.n] [(3,.bool (bif decide (a0.2.1=b0.2.1)then decide (a0.2.2.2.2.1=b0.2.2.2.2.1)else false))] (A.dx 1 ?_);obtain rfl:=A.si hF;exact A.rt1 [] ⟨rfl,rfl⟩
def F.a (a0:(List D70))(a1_0:D70):Nat→Int→Option Int
 |0,_=>none
 |f+1,y1=>if y1<(a0.length:Int)then((A.ix a0 y1).bind fun x4=>((F.dY x4 a1_0).bind fun r11=>(if r11=true then(some y1)else(A.gd (Z.R64 (y1+1)) ((F.a a0 a1_0 f) (y1+1))))))else(some (-1))
def F.o (a0:(List D70))(a1_0:D70):Option Int:=F.a a0 a1_0 A.FU 0
theorem o_e(a0:(List D70))(a1_0:D70)(h3_:A.h6 a1_0.1)(h4_:A.h6 a1_0.2.1)(h7_:A.h6 a1_0.2.2.2.1.1)(h8_:A.h6 a1_0.2.2.2.1.2.1)(h9_:a1_0.2.2.2.1.2.2.size≤maxLen)(h10_:a1_0.2.2.2.2.1.size≤maxLen)(h11_:A.h6 a1_0.2.2.2.2.2.1)(h12_:A.h6 a1_0.2.2.2.2.2.2)(r:Int)(hF:F.o a0 a1_0=some r):
    A.Ct Tryz.prog 104 [.slice A0_ a0.length c1_,.func (.func 81) #[] #[.pointer (some ⟨g2_,0,none⟩)]] [(0,.ln T70 A0_ c1_ a0),(1,.el none g2_ 0 [A.i a1_0.1,A.i a1_0.2.1,.slice A5_ a1_0.2.2.1.length c6_,A.i a1_0.2.2.2.1.1,A.i a1_0.2.2.2.1.2.1,.string a1_0.2.2.2.1.2.2,.string a1_0.2.2.2.2.1,A.i a1_0.2.2.2.2.2.1,A.i a1_0.2.2.2.2.2.2]),(2,.sh A.TI [.slice A5_ a1_0.2.2.1.length c6_] a1_0.2.2.1)] [] (fun v H'=>v=A.i r∧H'=[]∧A.h6 r):=by
 refine A.Ct.enter Tryz.func104 rfl Tryz.ntmps104 rfl fun w0 F0=>?_;rw[F.o]at hF;refine A.xl 1 ?_;refine A.n 1 [] (A.dl 3 ?_);refine A.n 3 [(7,A.i (a0.length:Int)),(8,A.i 0)] (A.dx 2 ?_);refine A.lp_ [0,1,7] [0,1,2] (fun f nl nh=>∃(y1:Int),nl=[(8,A.i y1)]∧nh=[]∧A.h6 y1∧F.a a0 a1_0 f y1=some r) ⟨0,rfl,rfl,A.z0,hF⟩ ?_;rintro f3 _ _ ⟨y1,rfl,rfl,hy2,hF⟩;rcases f3 with _|f3
 ·exact A.no0 hF
 rw[F.a]at hF;refine A.xl 1 ?_;refine A.n 1 [(9,.bool (decide (y1<(a0.length:Int))))] (A.dx 2 ?_);refine A.c hF ?_ ?_<;>intro hb hF
 ·refine A.xl 5 ?_;refine A.n 2 [(5,A.i y1)] (A.dl 2 ?_);refine A.n 3 [(11,.func (.func 81) #[] #[.pointer (some ⟨g2_,0,none⟩)]),(12,.slice A0_ a0.length c1_),(13,A.i y1)] ?_;have⟨x4,hv5,hF⟩:=A.b hF;refine A.AL.ixl 0 87 hv5 fun ho6=>?_;intro A7 c8 b9 o10;refine A.q0 [] [87] [.e 0 0] [(15,.agg #[A.i x4.1,A.i x4.2.1,.slice A7 x4.2.2.1.length c8,A.i x4.2.2.2.1.1,A.i x4.2.2.2.1.2.1,.string x4.2.2.2.1.2.2,.string x4.2.2.2.2.1,A.i x4.2.2.2.2.2.1,A.i x4.2.2.2.2.2.2])] ?_;have⟨r11,hv12,hF⟩:=A.b hF;refine A.AL.call 89 [] (first:=[]) (cap:=[.pointer (some ⟨g2_,0,none⟩)]) cf81 (o_aV A7 A5_ c8 g2_ c6_ x4 a1_0 ho6.1 ho6.2.1 ho6.2.2.2.1.1 ho6.2.2.2.1.2.1 ho6.2.2.2.1.2.2 ho6.2.2.2.2.1 ho6.2.2.2.2.2.1 ho6.2.2.2.2.2.2 h3_ h4_ h7_ h8_ h9_ h10_ h11_ h12_ r11 hv12) (.s 88 (.s 1 (.s 2 .nil))) ?_;rintro _ _ ⟨rfl,rfl⟩;refine A.ck ?_;refine A.dx 1 ?_;refine A.d hF ?_ ?_<;>intro hb hF
  ·refine A.xl 1 ?_;refine A.n 2 [(4,A.i y1)] (A.dx 1 ?_);obtain rfl:=A.si hF;exact A.rt1 [] ⟨rfl,rfl,hy2⟩
  refine A.xl 3 ?_;have⟨hc13,hF⟩:=A.g hF;refine A.m 2 [Z.R64 (y1+1)] [(8,A.i (y1+1))] hc13 (A.AL.done ?_);exact A.j ⟨_,Nat.lt_succ_self _,⟨(y1+1),rfl,rfl,(Z.i64_has hc13),hF⟩⟩
 refine A.xl 3 ?_;refine A.n 1 [(4,A.i (-1))] (A.dx 1 ?_);obtain rfl:=A.si hF;exact A.rt1 [] ⟨rfl,rfl,(A.hasl .i64 (-1) rfl)⟩
def F.d (a0:(List D70))(a1_0:D70):Option Bool:=(F.o a0 a1_0).bind fun r1=>(some (decide ((0:Int)≤r1)))
theorem o_d(a0:(List D70))(a1_0:D70)(h3_:A.h6 a1_0.1)(h4_:A.h6 a1_0.2.1)(h7_:A.h6 a1_0.2.2.2.1.1)(h8_:A.h6 a1_0.2.2.2.1.2.1)(h9_:a1_0.2.2.2.1.2.2.size≤maxLen)(h10_:a1_0.2.2.2.2.1.size≤maxLen)(h11_:A.h6 a1_0.2.2.2.2.2.1)(h12_:A.h6 a1_0.2.2.2.2.2.2)(r:Bool)(hF:F.d a0 a1_0=some r):
    A.Ct Tryz.prog 80 [.slice A0_ a0.length c1_,.func (.func 81) #[] #[.pointer (some ⟨g2_,0,none⟩)]] [(0,.ln T70 A0_ c1_ a0),(1,.el none g2_ 0 [A.i a1_0.1,A.i a1_0.2.1,.slice A5_ a1_0.2.2.1.length c6_,A.i a1_0.2.2.2.1.1,A.i a1_0.2.2.2.1.2.1,.string a1_0.2.2.2.1.2.2,.string a1_0.2.2.2.2.1,A.i a1_0.2.2.2.2.2.1,A.i a1_0.2.2.2.2.2.2]),(2,.sh A.TI [.slice A5_ a1_0.2.2.1.length c6_] a1_0.2.2.1)] [] (fun v H'=>v=.bool r∧H'=[]):=by
 refine A.Ct.enter Tryz.func80 rfl Tryz.ntmps80 rfl fun w0 F0=>?_;rw[F.d]at hF;refine A.xl 1 ?_;refine A.n 1 [] (A.dl 2 ?_);refine A.n 2 [(5,.slice A0_ a0.length c1_),(6,.func (.func 81) #[] #[.pointer (some ⟨g2_,0,none⟩)])] ?_;refine A.v 3 [] hF (o_e A0_ A5_ c1_ g2_ c6_ a0 a1_0 h3_ h4_ h7_ h8_ h9_ h10_ h11_ h12_) (.s 0 (.s 1 (.s 2 .nil))) ?_;rintro r1 - hF _ _ ⟨rfl,rfl,hr3⟩;refine A.ck ?_;refine A.n 2 [(4,.bool (decide ((0:Int)≤r1)))] (A.dx 1 ?_);obtain rfl:=A.si hF;exact A.rt1 [] ⟨rfl,rfl⟩
def F.cI (k27:(List (Int×D70))→Int→Int→Option ((Option ((List (Int×D70))×(List Int)×(List (Int×Int))))×Int))(m5:List (Int×D70))(y8:Int)(x11:D70)(y20:Bool):Option ((Option ((List (Int×D70))×(List Int)×(List (Int×Int))))×Int):=if y20=true then(some (none,80))else(A.gd (Z.R64 (y8+1)) (k27 (Z.mins m5 x11.1 x11) x11.1 (y8+1)))
def F.b3 (k27:(List (Int×D70))→Int→Int→Option ((Option ((List (Int×D70))×(List Int)×(List (Int×Int))))×Int))(m5:List (Int×D70))(y6:Int)(y8:Int)(x11:D70)(y19:Bool):Option ((Option ((List (Int×D70))×(List Int)×(List (Int×Int))))×Int):=if x11.1≤y6 then(F.cI k27 m5 y8 x11 true)else((F.d2 x11).bind fun r22=>(F.cI k27 m5 y8 x11 (bif !r22 then true else y19)))
def F.bC (k39:Int→Option ((Option ((List (Int×D70))×(List Int)×(List (Int×Int))))×Int))(m5:List (Int×D70))(y46:Int)(x49:D70):Nat→Int→Option ((Option ((List (Int×D70))×(List Int)×(List (Int×Int))))×Int)
 |0,_=>none
 |f+1,y57=>if y57<(x49.2.2.1.length:Int)then((A.ix x49.2.2.1 y57).bind fun x60=>(A.lt (Z.mget ((0,0,[],(0,0,(ByteArray.mk #[])),(ByteArray.mk #[]),0,0):D70) m5 x60) fun x65=>(if(bif !(Z.mhas m5 x60)then true else decide (x65.2.1=15))=true then(some (none,80))else(A.gd (Z.R64 (y57+1)) ((F.bC k39 m5 y46 x49 f) (y57+1))))))else(A.gd (Z.R64 (y46+1)) (k39 (y46+1)))
def F.u (a0:D23)(m5:List (Int×D70)):Nat→Int→Option ((Option ((List (Int×D70))×(List Int)×(List (Int×Int))))×Int)
 |0,_=>none
 |f+1,y46=>if y46<(a0.length:Int)then((A.ix a0 y46).bind fun x49=>(F.bC (F.u a0 m5 f) m5 y46 x49 A.FU 0))else((F.aK (m5,[],[]) a0).bind fun r73=>(if(!r73.1)=true then(some (none,81))else((F.aI r73.2).bind fun r79=>(if(!r79.1)=true then(some (none,80))else((F.bB r79.2 a0).bind fun r85=>(if r85=true then(some (none,81))else(some (some r79.2,0))))))))
def F.aj (a0:D23)(m5:List (Int×D70)):Nat→Int→Option ((Option ((List (Int×D70))×(List Int)×(List (Int×Int))))×Int)
 |0,_=>none
 |f+1,y31=>if y31<(a0.length:Int)then((A.ix a0 y31).bind fun x34=>((F.eo x34.2.1 x34.2.2.2.1).bind fun r42=>(if r42≠0 then(some (none,r42))else(A.gd (Z.R64 (y31+1)) ((F.aj a0 m5 f) (y31+1))))))else(F.u a0 m5 A.FU 0)
def F.q (a0:D23):Nat→(List (Int×D70))→Int→Int→Option ((Option ((List (Int×D70))×(List Int)×(List (Int×Int))))×Int)
 |0,_,_,_=>none
 |f+1,m5,y6,y8=>if y8<(a0.length:Int)then((A.ix a0 y8).bind fun x11=>((F.aT x11.2.1).bind fun r24=>(if r24=true then(A.gd (0≤y8∧y8.toNat≤a0.length) ((F.d (List.take y8.toNat a0) x11).bind fun r29=>(F.b3 (F.q a0 f) m5 y6 y8 x11 r29)))else(F.b3 (F.q a0 f) m5 y6 y8 x11 false))))else(F.aj a0 m5 A.FU 0)
def F.bZ (a0:D23):Option ((Option ((List (Int×D70))×(List Int)×(List (Int×Int))))×Int):=if(32:Int)<(a0.length:Int)then(some (none,80))else(F.q a0 A.FU [] 0 0)
theorem o_ba(a0:D23)(r:(Option ((List (Int×D70))×(List Int)×(List (Int×Int))))×Int)(hF:F.bZ a0=some r):
    A.Ct Tryz.prog 65 [.agg #[.slice A0_ a0.length c1_]] [(0,.sh (.slice T70) [.slice A0_ a0.length c1_] a0),(1,.el none 0 0 A.tabF),(2,.el none 1 0 A.tabA)] [] (fun v H'=>(r.1=none∧v=.tuple #[.pointer none,A.i r.2]∧H'=[]∧A.h6 r.2)∨(∃(p0:((List (Int×D70))×(List Int)×(List (Int×Int)))),r.1=some p0∧∃(g0':Nat) (b1':Nat) (A2':Option Addr) (c3':Nat) (b4':Nat),v=.tuple #[.pointer (some ⟨g0',0,none⟩),A.i r.2]∧H'=[(0,.blk g0' 131 [.map (some b1'),.slice A2' p0.2.1.length c3',.map (some b4')]),(1,.mp Int (fun i:Int=>A.i i) T70 true b1' p0.1),(2,.own A.ti 3 A2' c3' p0.2.1),(3,.mp Int (fun i:Int=>A.i i) A.ti false b4' p0.2.2)]∧A.h6 r.2)):=by
 refine A.Ct.enter Tryz.func65 rfl Tryz.ntmps65 rfl fun w0 F0=>?_;rw[F.bZ]at hF;refine A.xl 1 ?_;refine A.AL.box 3 (cs:=[.slice A0_ a0.length c1_]) fun g1=>?_;refine A.n 2 [] (A.dl 3 ?_);refine A.q0 [3] [] [.n,.b 0 0,.n,.n] [(21,.bool (decide ((32:Int)<(a0.length:Int))))] (A.dx 1 ?_);refine A.c hF ?_ ?_<;>intro hb hF
 ·refine A.xl 1 ?_;refine A.n 2 [(2,.pointer none),(3,A.i 80)] (A.dx 1 ?_);obtain rfl:=A.si hF;exact A.rt2 [] (.inl ⟨rfl,⟨rfl,rfl,(A.hasl .i64 (80) rfl)⟩⟩)
 refine A.xl 3 ?_;refine A.AL.mkm 4 Int (fun i:Int=>A.i i) T70 true fun b2=>?_;refine A.AL.mkm 5 Int (fun i:Int=>A.i i) A.ti false fun b3=>?_;refine A.n 1 [(24,.agg #[.map (some b2),.slice none 0 0,.map (some b3)])] ?_;refine A.AL.box 6 (cs:=[.map (some b2),.slice none 0 0,.map (some b3)]) fun g4=>?_;refine A.n 1 [(4,.pointer (some ⟨g4,0,none⟩))] (A.dl 2 ?_);refine A.n 1 [(5,A.i 0)] (A.dl 3 ?_);refine A.q0 [3] [] [.n,.b 0 0,.n,.n] [(27,.slice A0_ a0.length c1_),(28,A.i (a0.length:Int)),(29,A.i 0)] (A.dx 2 ?_);refine A.lp_ [1,4,27,28] [0,1,2,3,5,6] (fun f nl nh=>∃(m5:List (Int×D70)),∃(y6:Int),∃(y8:Int),nl=[(5,A.i y6),(29,A.i y8)]∧nh=[(4,.mp Int (fun i:Int=>A.i i) T70 true b2 m5)]∧A.h6 y6∧A.h6 y8∧F.q a0 f m5 y6 y8=some r) ⟨[],0,0,rfl,rfl,A.z0,A.z0,hF⟩ ?_;rintro f10 _ _ ⟨m5,y6,y8,rfl,rfl,hy7,hy9,hF⟩;rcases f10 with _|f10
 ·exact A.no0 hF
 rw[F.q]at hF;refine A.xl 1 ?_;refine A.n 1 [(30,.bool (decide (y8<(a0.length:Int))))] (A.dx 2 ?_);refine A.c hF ?_ ?_<;>intro hb hF
 ·refine A.xl 5 ?_;refine A.n 1 [(31,A.i y8)] ?_;have⟨x11,hv12,hF⟩:=A.b hF;refine A.AL.ixs 0 2907 hv12 fun ho13=>?_;intro A14 c15 b16 o17;refine A.q0 [] [2907] [.e 0 0] [(33,.agg #[A.i x11.1,A.i x11.2.1,.slice A14 x11.2.2.1.length c15,A.i x11.2.2.2.1.1,A.i x11.2.2.2.1.2.1,.string x11.2.2.2.1.2.2,.string x11.2.2.2.2.1,A.i x11.2.2.2.2.2.1,A.i x11.2.2.2.2.2.2])] ?_;refine A.AL.alloc 2909 (cs:=l2a) Tryz.zeroValue71 fun g18=>?_;refine A.n 1 [(6,A.i y8)] ?_;refine A.sw 2909 [] [A.i x11.1,A.i x11.2.1,.slice A14 x11.2.2.1.length c15,A.i x11.2.2.2.1.1,A.i x11.2.2.2.1.2.1,.string x11.2.2.2.1.2.2,.string x11.2.2.2.2.1,A.i x11.2.2.2.2.2.1,A.i x11.2.2.2.2.2.2] ?_;refine A.dx 1 ?_;refine A.AX.join [1,4,5,7,27,28,29] l2n (fun nl nh=>∃(y19:Bool),nl=[(8,.bool y19)]∧nh=[]∧F.b3 (F.q a0 f10) m5 y6 y8 x11 y19=some r) ?_ ?_
  ·refine A.xl 0 ?_;refine A.q0 [2909] [] [.n,.b 0 1] [(35,A.i x11.2.1)] ?_;refine A.v 2910 [] hF (o_g x11.2.1 ho13.2.1) .nil ?_;rintro r24 - hF _ _ ⟨rfl,rfl⟩;refine A.ck ?_;refine A.n 1 [(37,.bool r24)] ?_;refine A.AL.cnd (j:=37) rfl hF (fun hF=>?_) (fun hF=>?_)
   ·refine A.q0 [3] [] [.on .n,.on (.b 0 0),.on .n] [(39,.slice A0_ a0.length c1_),(40,A.i y8)] ?_;refine A.AL.on (dj:=37) rfl rfl ?_;have⟨hc26,hF⟩:=A.g hF;refine A.AL.cuth 0 2950 (v:=y8.toNat) (Int.toNat_of_nonneg hc26.1).symm hc26.2 fun c28=>?_;refine A.q0 [] [] [.on .n] [(42,.func (.func 81) #[] #[.pointer (some ⟨g18,0,none⟩)])] ?_;refine A.AL.on (dj:=37) rfl rfl ?_;refine A.v 2951 [] hF (o_d A0_ A14 c28 g18 c15 (List.take y8.toNat a0) x11 ho13.1 ho13.2.1 ho13.2.2.2.1.1 ho13.2.2.2.1.2.1 ho13.2.2.2.1.2.2 ho13.2.2.2.2.1 ho13.2.2.2.2.2.1 ho13.2.2.2.2.2.2) (.l 2950 (.b 2909 (.s 2908 .nil))) ?_;rintro r29 - hF _ _ ⟨rfl,rfl⟩;refine A.ck ?_;refine A.n 2 [(8,.bool r29)] (A.AL.done ?_);exact A.j ⟨r29,rfl,rfl,hF⟩
   refine A.q0 [] [] [.off,.off,.off,.off,.off,.off,.n,.n] [(8,.bool false)] (A.AL.done ?_);exact A.j ⟨false,rfl,rfl,hF⟩
  rintro _ _ ⟨y19,rfl,rfl,hF⟩;rw[F.b3]at hF;refine A.xx 1 ?_;refine A.AX.join [1,4,7,27,28,29] l2n (fun nl nh=>∃(y20:Bool),nl=[(56,.bool y20)]∧nh=[]∧F.cI (F.q a0 f10) m5 y8 x11 y20=some r) ?_ ?_
  ·refine A.xl 0 ?_;refine A.q0 [2909] [] [.n,.b 0 0,.n,.n,.n] [(49,.bool (decide (x11.1≤y6)))] ?_;refine A.AL.cnp (j:=49) rfl hF ?_ ?_<;>intro hb hF
   ·refine A.q0 [] [] [.off,.off,.off,.n,.n,.off,.n] [(56,.bool true)] (A.AL.done ?_);exact A.j ⟨true,rfl,rfl,hF⟩
   refine A.q0 [2909] [] [.on (.b 0 0)] [(50,.agg #[A.i x11.1,A.i x11.2.1,.slice A14 x11.2.2.1.length c15,A.i x11.2.2.2.1.1,A.i x11.2.2.2.1.2.1,.string x11.2.2.2.1.2.2,.string x11.2.2.2.2.1,A.i x11.2.2.2.2.2.1,A.i x11.2.2.2.2.2.2])] ?_;refine A.AL.on (dj:=49) rfl rfl ?_;refine A.v 2991 [] hF (o_br A14 c15 x11 ho13.1 ho13.2.1 ho13.2.2.2.1.1 ho13.2.2.2.1.2.1 ho13.2.2.2.1.2.2 ho13.2.2.2.2.1 ho13.2.2.2.2.2.1 ho13.2.2.2.2.2.2) (.s 2908 .nil) ?_;rintro r22 - hF _ _ ⟨rfl,rfl⟩;refine A.ck ?_;refine A.q0 [] [] [.on .n,.n,.n,.sy .n,.pk] [(56,.bool (bif !r22 then true else y19))] (A.AL.done ?_);exact A.j ⟨(bif !r22 then true else y19),rfl,rfl,hF⟩
  rintro _ _ ⟨y20,rfl,rfl,hF⟩;rw[F.cI]at hF;refine A.d hF ?_ ?_<;>intro hb hF
  ·refine A.xl 1 ?_;refine A.n 2 [(2,.pointer none),(3,A.i 80)] (A.dx 1 ?_);obtain rfl:=A.si hF;exact A.rt2 [] (.inl ⟨rfl,⟨rfl,rfl,(A.hasl .i64 (80) rfl)⟩⟩)
  refine A.xl 3 ?_;refine A.q0 [2909] [] [.n,.b 0 0,.n] [(5,A.i x11.1)] (A.dx 1 ?_);refine A.AX.dr mixed 7 8 (A.mb 8 0) ?_;refine A.hq A.pb [] l2n [2909,6] [] (A.mb 8 127) 1 [(0,.n),(4,.n),(6,.b 0 0),(1,.n),(5,.b 0 0),(2,.n),(3,.b 1 0)] [(65,.agg #[A.i x11.1,A.i x11.2.1,.slice A14 x11.2.2.1.length c15,A.i x11.2.2.2.1.1,A.i x11.2.2.2.1.2.1,.string x11.2.2.2.1.2.2,.string x11.2.2.2.2.1,A.i x11.2.2.2.2.2.1,A.i x11.2.2.2.2.2.2]),(64,A.i x11.1),(62,.map (some b2))] ?_;refine A.AH.one 7 ?_;refine A.AL.mup (t:=T70) 4 [] (cs:=[A.i x11.1,A.i x11.2.1,.slice A14 x11.2.2.1.length c15,A.i x11.2.2.2.1.1,A.i x11.2.2.2.1.2.1,.string x11.2.2.2.1.2.2,.string x11.2.2.2.2.1,A.i x11.2.2.2.2.2.1,A.i x11.2.2.2.2.2.2]) (u:=x11) ky3 x11.1 ⟨⟨rfl,ho13.1⟩,⟨rfl,ho13.2.1⟩,.inl ⟨2908,rfl⟩,⟨⟨rfl,ho13.2.2.2.1.1⟩,⟨rfl,ho13.2.2.2.1.2.1⟩,⟨rfl,ho13.2.2.2.1.2.2⟩⟩,⟨rfl,ho13.2.2.2.2.1⟩,⟨rfl,ho13.2.2.2.2.2.1⟩,⟨rfl,ho13.2.2.2.2.2.2⟩⟩ ?_;refine A.AH.nm (A.mb 8 255) ?_;refine A.AH.done ?_;refine A.el 2 ?_;have⟨hc21,hF⟩:=A.g hF;refine A.m 2 [Z.R64 (y8+1)] [(29,A.i (y8+1))] hc21 (A.AL.done ?_);exact A.j ⟨_,Nat.lt_succ_self _,⟨(Z.mins m5 x11.1 x11),x11.1,(y8+1),rfl,rfl,ho13.1,(Z.i64_has hc21),hF⟩⟩
 refine A.xl 4 ?_;refine A.q0 [3] [] [.n,.b 0 0,.n,.n] [(68,.slice A0_ a0.length c1_),(69,A.i (a0.length:Int)),(70,A.i 0)] (A.dx 2 ?_);refine A.lp_ [1,4,68,69] l2e (fun f nl nh=>∃(y31:Int),nl=[(70,A.i y31)]∧nh=[]∧A.h6 y31∧F.aj a0 m5 f y31=some r) ⟨0,rfl,rfl,A.z0,hF⟩ ?_;rintro f33 _ _ ⟨y31,rfl,rfl,hy32,hF⟩;rcases f33 with _|f33
 ·exact A.no0 hF
 rw[F.aj]at hF;refine A.xl 1 ?_;refine A.n 1 [(71,.bool (decide (y31<(a0.length:Int))))] (A.dx 2 ?_);refine A.c hF ?_ ?_<;>intro hb hF
 ·refine A.xl 5 ?_;have⟨x34,hv35,hF⟩:=A.b hF;refine A.AL.ixs 0 3915 hv35 fun ho36=>?_;intro A37 c38 b39 o40;refine A.q0 [] [3915] [.e 0 0] [(73,.agg #[A.i x34.1,A.i x34.2.1,.slice A37 x34.2.2.1.length c38,A.i x34.2.2.2.1.1,A.i x34.2.2.2.1.2.1,.string x34.2.2.2.1.2.2,.string x34.2.2.2.2.1,A.i x34.2.2.2.2.2.1,A.i x34.2.2.2.2.2.2])] ?_;refine A.AL.alloc 3917 (cs:=l2a) Tryz.zeroValue71 fun g41=>?_;refine A.sw 3917 [] [A.i x34.1,A.i x34.2.1,.slice A37 x34.2.2.1.length c38,A.i x34.2.2.2.1.1,A.i x34.2.2.2.1.2.1,.string x34.2.2.2.1.2.2,.string x34.2.2.2.2.1,A.i x34.2.2.2.2.2.1,A.i x34.2.2.2.2.2.2] ?_;refine A.dl 2 ?_;refine A.q0 [3917] [] [.n,.b 0 1,.n,.b 0 3] [(75,A.i x34.2.1),(77,.agg #[A.i x34.2.2.2.1.1,A.i x34.2.2.2.1.2.1,.string x34.2.2.2.1.2.2])] ?_;refine A.v 3918 [] hF (o_bU x34.2.1 x34.2.2.2.1 ho36.2.1 ho36.2.2.2.1.1 ho36.2.2.2.1.2.1 ho36.2.2.2.1.2.2) (.s 1 (.s 2 .nil)) ?_;rintro r42 - hF _ _ ⟨rfl,rfl,hr44⟩;refine A.ck ?_;refine A.n 1 [(11,A.i r42)] (A.dl 2 ?_);refine A.n 2 [(80,.bool (decide (r42≠0)))] (A.dx 1 ?_);refine A.c hF ?_ ?_<;>intro hb hF
  ·refine A.xl 1 ?_;refine A.n 3 [(2,.pointer none),(3,A.i r42)] (A.dx 1 ?_);obtain rfl:=A.si hF;exact A.rt2 [] (.inl ⟨rfl,⟨rfl,rfl,hr44⟩⟩)
  refine A.xl 3 ?_;have⟨hc45,hF⟩:=A.g hF;refine A.m 2 [Z.R64 (y31+1)] [(70,A.i (y31+1))] hc45 (A.AL.done ?_);exact A.j ⟨_,Nat.lt_succ_self _,⟨(y31+1),rfl,rfl,(Z.i64_has hc45),hF⟩⟩
 refine A.xl 4 ?_;refine A.q0 [3] [] [.n,.b 0 0,.n,.n] [(84,.slice A0_ a0.length c1_),(85,A.i (a0.length:Int)),(86,A.i 0)] (A.dx 2 ?_);refine A.lp_ [1,4,84,85] l2e (fun f nl nh=>∃(y46:Int),nl=[(86,A.i y46)]∧nh=[]∧A.h6 y46∧F.u a0 m5 f y46=some r) ⟨0,rfl,rfl,A.z0,hF⟩ ?_;rintro f48 _ _ ⟨y46,rfl,rfl,hy47,hF⟩;rcases f48 with _|f48
 ·exact A.no0 hF
 rw[F.u]at hF;refine A.xl 1 ?_;refine A.n 1 [(87,.bool (decide (y46<(a0.length:Int))))] (A.dx 2 ?_);refine A.c hF ?_ ?_<;>intro hb hF
 ·refine A.xl 5 ?_;have⟨x49,hv50,hF⟩:=A.b hF;refine A.AL.ixs 0 4224 hv50 fun ho51=>?_;intro A52 c53 b54 o55;refine A.q0 [] [4224] [.e 0 0] [(89,.agg #[A.i x49.1,A.i x49.2.1,.slice A52 x49.2.2.1.length c53,A.i x49.2.2.2.1.1,A.i x49.2.2.2.1.2.1,.string x49.2.2.2.1.2.2,.string x49.2.2.2.2.1,A.i x49.2.2.2.2.2.1,A.i x49.2.2.2.2.2.2])] ?_;refine A.AL.alloc 4226 (cs:=l2a) Tryz.zeroValue71 fun g56=>?_;refine A.sw 4226 [] [A.i x49.1,A.i x49.2.1,.slice A52 x49.2.2.1.length c53,A.i x49.2.2.2.1.1,A.i x49.2.2.2.1.2.1,.string x49.2.2.2.1.2.2,.string x49.2.2.2.2.1,A.i x49.2.2.2.2.2.1,A.i x49.2.2.2.2.2.2] ?_;refine A.dl 2 ?_;refine A.q0 [4226] [] [.n,.b 0 2,.n,.n] [(91,.slice A52 x49.2.2.1.length c53),(92,A.i (x49.2.2.1.length:Int)),(93,A.i 0)] (A.dx 2 ?_);refine A.lp_ [1,4,84,85,86,91,92] [0,1,2,3,4,5,6,4225] (fun f nl nh=>∃(y57:Int),nl=[(93,A.i y57)]∧nh=[]∧A.h6 y57∧F.bC (F.u a0 m5 f48) m5 y46 x49 f y57=some r) ⟨0,rfl,rfl,A.z0,hF⟩ ?_;rintro f59 _ _ ⟨y57,rfl,rfl,hy58,hF⟩;rcases f59 with _|f59
  ·exact A.no0 hF
  rw[F.bC]at hF;refine A.xl 1 ?_;refine A.n 1 [(94,.bool (decide (y57<(x49.2.2.1.length:Int))))] (A.dx 2 ?_);refine A.c hF ?_ ?_<;>intro hb hF
  ·refine A.xl 5 ?_;have⟨x60,hv61,hF⟩:=A.b hF;refine A.AL.ixs 4225 4233 hv61 fun ho62=>?_;intro b63 o64;refine A.q0 [] [4233] [.e 0 0,.n] [(15,A.i x60)] (A.dl 2 ?_);refine A.q0 [6] [] [.n,.n,.n,.b 0 0,.n] [(101,.map (some b2)),(102,A.i x60)] ?_;obtain⟨x65,hv66,hF⟩:=A.lt_some hF;refine A.AL.lk2 (t:=T70) 4 4234 (z:=((0,0,[],(0,0,(ByteArray.mk #[])),(ByteArray.mk #[]),0,0):D70)) (zs:=l2a) ky3 x60 Tryz.zeroValue71 ⟨⟨rfl,by decide⟩,⟨rfl,by decide⟩,(.inr ⟨rfl,rfl⟩),⟨⟨rfl,by decide⟩,⟨rfl,by decide⟩,⟨rfl,by decide⟩⟩,⟨rfl,by decide⟩,⟨rfl,by decide⟩,⟨rfl,by decide⟩⟩ hv66 fun ho67=>?_;intro A68 c69;refine A.n 3 [(104,.agg #[A.i x65.1,A.i x65.2.1,.slice A68 x65.2.2.1.length c69,A.i x65.2.2.2.1.1,A.i x65.2.2.2.1.2.1,.string x65.2.2.2.1.2.2,.string x65.2.2.2.2.1,A.i x65.2.2.2.2.2.1,A.i x65.2.2.2.2.2.2]),(105,.bool (Z.mhas m5 x60))] ?_;refine A.AL.alloc 4235 (cs:=l2a) Tryz.zeroValue71 fun g70=>?_;refine A.sw 4235 [] [A.i x65.1,A.i x65.2.1,.slice A68 x65.2.2.1.length c69,A.i x65.2.2.2.1.1,A.i x65.2.2.2.1.2.1,.string x65.2.2.2.1.2.2,.string x65.2.2.2.2.1,A.i x65.2.2.2.2.2.1,A.i x65.2.2.2.2.2.2] ?_;refine A.n 1 [(17,.bool (Z.mhas m5 x60))] (A.dl 2 ?_);refine A.q0 [4235] [] [.n,.n,.n,.sy .n,.sy (.b 0 1),.sy .n,.pk] [(112,.bool (bif !(Z.mhas m5 x60)then true else decide (x65.2.1=15)))] (A.dx 1 ?_);refine A.d hF ?_ ?_<;>intro hb hF
   ·refine A.xl 1 ?_;refine A.n 2 [(2,.pointer none),(3,A.i 80)] (A.dx 1 ?_);obtain rfl:=A.si hF;exact A.rt2 [] (.inl ⟨rfl,⟨rfl,rfl,(A.hasl .i64 (80) rfl)⟩⟩)
   refine A.xl 3 ?_;have⟨hc71,hF⟩:=A.g hF;refine A.m 2 [Z.R64 (y57+1)] [(93,A.i (y57+1))] hc71 (A.AL.done ?_);exact A.j ⟨_,Nat.lt_succ_self _,⟨(y57+1),rfl,rfl,(Z.i64_has hc71),hF⟩⟩
  refine A.xl 3 ?_;have⟨hc72,hF⟩:=A.g hF;refine A.m 2 [Z.R64 (y46+1)] [(86,A.i (y46+1))] hc72 (A.AL.done ?_);exact A.j ⟨_,Nat.lt_succ_self _,⟨(y46+1),rfl,rfl,(Z.i64_has hc72),hF⟩⟩
 refine A.xl 5 ?_;refine A.q0 [3] [] [.n,.b 0 0] [(116,.pointer (some ⟨g4,0,none⟩)),(117,.agg #[.slice A0_ a0.length c1_])] ?_;refine A.nil 4236 A.ti 3 ?_;refine A.v 4237 [] hF (o_aH none A0_ g4 b2 0 b3 c1_ (m5,[],[]) a0) (.m 6 (.m 4 (.m 4236 (.m 5 (.s 0 .nil))))) ?_;rintro r73 - hF _ _ ⟨b75,A76,c77,b78,rfl,rfl⟩;refine A.ck ?_;refine A.mvd 4237 6 [] ?_;refine A.mvd 4238 4 [] ?_;refine A.mvd 4239 4236 [] ?_;refine A.mvd 4240 5 [] ?_;refine A.n 2 [(115,.bool (!r73.1))] (A.dx 1 ?_);refine A.d hF ?_ ?_<;>intro hb hF
 ·refine A.xl 1 ?_;refine A.n 2 [(2,.pointer none),(3,A.i 81)] (A.dx 1 ?_);obtain rfl:=A.si hF;exact A.rt2 [] (.inl ⟨rfl,⟨rfl,rfl,(A.hasl .i64 (81) rfl)⟩⟩)
 refine A.xl 1 ?_;refine A.n 1 [(121,.pointer (some ⟨g4,0,none⟩))] ?_;refine A.v 4277 [] hF (o_av A76 g4 b75 c77 b78 r73.2) (.m 6 (.m 4 (.m 4236 (.m 5 .nil)))) ?_;rintro r79 - hF _ _ ⟨b81,A82,c83,b84,rfl,rfl⟩;refine A.ck ?_;refine A.mvd 4277 6 [] ?_;refine A.mvd 4278 4 [] ?_;refine A.mvd 4279 4236 [] ?_;refine A.mvd 4280 5 [] ?_;refine A.n 2 [(120,.bool (!r79.1))] (A.dx 1 ?_);refine A.d hF ?_ ?_<;>intro hb hF
 ·refine A.xl 1 ?_;refine A.n 2 [(2,.pointer none),(3,A.i 80)] (A.dx 1 ?_);obtain rfl:=A.si hF;exact A.rt2 [] (.inl ⟨rfl,⟨rfl,rfl,(A.hasl .i64 (80) rfl)⟩⟩)
 refine A.xl 1 ?_;refine A.q0 [3] [] [.n,.b 0 0] [(125,.pointer (some ⟨g4,0,none⟩)),(126,.agg #[.slice A0_ a0.length c1_])] ?_;refine A.v 4317 [] hF (o_aD A82 A0_ g4 b81 c83 b84 c1_ r79.2 a0) (.m 6 (.m 4 (.m 4236 (.m 5 (.s 0 .nil))))) ?_;rintro r85 - hF _ _ ⟨rfl,rfl⟩;refine A.ck ?_;refine A.mvd 4317 6 [] ?_;refine A.mvd 4318 4 [] ?_;refine A.mvd 4319 4236 [] ?_;refine A.mvd 4320 5 [] ?_;refine A.n 1 [(124,.bool r85)] (A.dx 1 ?_);refine A.d hF ?_ ?_<;>intro hb hF
 ·refine A.xl 1 ?_;refine A.n 2 [(2,.pointer none),(3,A.i 81)] (A.dx 1 ?_);obtain rfl:=A.si hF;exact A.rt2 [] (.inl ⟨rfl,⟨rfl,rfl,(A.hasl .i64 (81) rfl)⟩⟩)
 refine A.xl 4 ?_;refine A.n 3 [(2,.pointer (some ⟨g4,0,none⟩)),(3,A.i 0)] (A.dx 1 ?_);obtain rfl:=A.si hF;exact A.rt2 [(0,6),(1,4),(2,4236),(3,5)] (.inr ⟨r79.2,rfl,⟨g4,b81,A82,c83,b84,rfl,rfl,A.z0⟩⟩)
end Go.Proofs.YtfdfcaiiengdfaaGreatDoor
end
