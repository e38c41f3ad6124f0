import Derived.Test.YtpoabedecgeamaaGreatDoorG1
import Derived.Shelf.Unicode.ValidAny
import Derived.WalkSmall
import Derived.Laws.IdiomStrings
import Derived.Laws.Cover4
import Derived.Lib.TrimU
import Derived.Shelf.Small.Strs
import Derived.Calls
import GoSem.Step
import Derived.Shelf.SlSortCmp.NoneTotal
set_option linter.defProp false
set_option linter.unusedVariables false
set_option linter.unusedSimpArgs false
set_option linter.unusedSectionVars false
set_option maxRecDepth 20000
set_option synthInstance.maxSize 1000000
set_option synthInstance.maxHeartbeats 400000
set_option maxHeartbeats 8000000
section
namespace Go.A
open Go.RowKit Go.Z
section
variable {P:Program}{kt et tt:TypeId}{κ:Type}[DecidableEq κ]{enc:κ->Value}{w:World}{b:Nat}
def Qgj {arr:List MapEntry}{clock:Nat}{ks:List κ}{z:Value}(K:Ky P kt enc)(ht:P.underlying tt=some (.map kt et))(hz: ∀w,(zeroValue et).run P w=.ok z w)(hb:w.heap[b]?=some (.map arr.toArray clock))(hk:arr.map (·.key)=ks.map enc)(L: ∀e,e∈arr->e.born<clock)(W:(arr.map (·.born)).Nodup)(k:κ):
  ∃(arr1:List MapEntry) (clock1 i:Nat) (V:MapEntry),(Instr.mapEntry tt (.map (some b)) (enc k)).run P w=.ok (.tuple #[V.val,goInt V.born]) (w.putObj b (.map arr1.toArray clock1))/\arr1[i]?=some V/\V.key=enc k/\(∀e,e∈arr1->e.born<clock1)/\(arr1.map (·.born)).Nodup/\
   ((loc k ks=some i/\arr1=arr)\/(loc k ks=none/\i=arr.length/\arr1=arr++[V]/\V.val=z)):=by
 have hfind:=Qbs K k w arr ks hk;have hget:(getObj b).run P w=.ok (.map arr.toArray clock) w:=by simp[getObj,Sem.run,hb]
 cases hloc:loc k ks with
 |none=>
  rw[hloc]at hfind;refine⟨arr++[{key:=enc k,val:=z,born:=clock}],clock+1,arr.length,{key:=enc k,val:=z,born:=clock},?_,by simp,rfl,?_,?_,.inr ⟨rfl,rfl,rfl,rfl⟩⟩;simp only[Instr.mapEntry,Sem.run_bind,run_underlying ht,Result.andThen_ok,hget,K.check,hfind,Option.bind_none,hz,MapC.set hb,Sem.run_pure,List.push_toArray];intro e J;rcases Qx.1 J with J|J
  have:=L e J;omega;simp at J;subst J;simp;rw[X5,Xd];refine⟨W,by simp,λx hx y hy=>?_⟩;simp at hy;subst hy;obtain⟨e,J,rfl⟩:=Xf.1 hx;have:=L e J;omega
 |some i=>
  rw[hloc]at hfind;have hi:i<ks.length:=by
   have: ∀(ks:List κ) (i:Nat),loc k ks=some i->i<ks.length/\ks[i]?=some k:=by
    intro ks;induction ks with
    |nil=>intro i h;cases h
    |cons a r ih=>
     intro i h;unfold loc at h;split at h;rename_i e;injection h with h;subst h;subst e;exact⟨by simp,rfl⟩
     cases N:loc k r with
     |none=>rw[N]at h;cases h
     |some j=>rw[N]at h;injection h with h;subst h;have:=ih j N;exact⟨by simp;omega,by simpa using this.2⟩
   exact(this ks i hloc).1
  have hks:ks[i]?=some k:=by
   have: ∀(ks:List κ) (i:Nat),loc k ks=some i->ks[i]?=some k:=by
    intro ks;induction ks with
    |nil=>intro i h;cases h
    |cons a r ih=>
     intro i h;unfold loc at h;split at h;rename_i e;injection h with h;subst h;subst e;rfl
     cases N:loc k r with
     |none=>rw[N]at h;cases h
     |some j=>rw[N]at h;injection h with h;subst h;simpa using ih j N
   exact this ks i hloc
  have hlen:arr.length=ks.length:=by have:=Xb List.length hk;simpa using this
  obtain⟨e,J⟩: ∃e,arr[i]?=some e:=⟨_,Qf (by omega)⟩;have O:e.key=enc k:=by
   have h6:(arr.map (·.key))[i]?=some e.key:=by rw[Qy,J];rfl
   rw[hk,Qy,hks]at h6;simpa using h6.symm
  have hstay:(Instr.keyThatStays (enc k) (enc k)).run P w=.ok (enc k) w:=by simp[Instr.keyThatStays,K.bits]
  have hsame:(arr.toArray.modify i λe=>{e with key:=enc k})=arr.toArray:=by
   have:(arr.toArray.modify i λe=>{e with key:=enc k})=(arr.modify i λe=>{e with key:=enc k}).toArray:=by simp
   rw[this];refine Xb List.toArray (Xc λj=>?_);rw[Wq];by_cases hij:i=j;subst hij;rw[J];simp[<-O];simp[hij]
  refine⟨arr,clock,i,e,?_,J,O,L,W,.inl ⟨rfl,rfl⟩⟩;simp only[Instr.mapEntry,Sem.run_bind,run_underlying ht,Result.andThen_ok,hget,K.check,hfind,Qa,J,Wp,Ws,Y5,O,hstay,hsame,MapC.set hb,Sem.run_pure]
def run_entryStore {arr:List MapEntry}{clock i:Nat}{J:MapEntry}(V:w.heap[b]?=some (.map arr.toArray clock))(hi:arr[i]?=some J)(L:(arr.map (·.born)).Nodup)(v:Value):
  (Instr.entryStore tt (.map (some b)) (goInt J.born) v).run P w=.ok () (w.putObj b (.map (arr.modify i λe=>{e with val:=v}).toArray clock)):=by
 have hget:(getObj b).run P w=.ok (.map arr.toArray clock) w:=by simp[getObj,Sem.run,V]
 have hidx:arr.toArray.findIdx? (λe=>(e.born:Int)==(J.born:Int))=some i:=by
  rw[Array.findIdx?_eq_some_iff_getElem];obtain⟨W,hg⟩:=Qd.1 hi;refine⟨by simpa using W,by simp[hg],λj hj=>?_⟩;have N:j<arr.length:=by omega
  have hne:arr[j].born≠J.born:=λh=>by
   have:=(List.getElem_inj L (i:=j) (j:=i) (h₀:=by simpa using N) (h₁:=by simpa using W)).1 (by simp[hg,h]);omega
  simp only[List.getElem_toArray,beq_iff_eq];omega
 have O:(asIntOf (Value.int IntKind.i64 (J.born:Int))).run P w=.ok (.i64,(J.born:Int)) w:=by simp[asIntOf]
 simp only[Instr.entryStore,Sem.run_bind,hget,Result.andThen_ok,goInt,asInt,O,hidx,MapC.set V,Sem.run_pure,List.modify_toArray]
end
section
variable {P:Program}{kt et tt st ty:TypeId}{κ:Type}[DecidableEq κ]{enc:κ->Value}{w:World}{b:Nat}{t:Ty}{e:TypeId}{F G:Nat->Prop}{As:List (Option Addr×Nat)}{m:List (κ×List t.den)}
def Mr.asF {F':Nat->Prop}(h:Mr enc t e w F b As m)(J: ∀x,F x->x<w.heap.size->F' x):Mr enc t e w F' b As m:=h.to (S:=[]) (Ch.refl w) (by simp) λx L N=>⟨by simp,J x L N⟩
def Qft {i:Nat}{a a':Option Addr×Nat}(h:As[i]?=some a): ∀x,x∈rbl (As.set i a')->x∈rbl As\/x∈obl a'.1:=λx N=>by
 obtain⟨y,L,J⟩:=List.mem_flatMap.1 N;rcases List.mem_or_eq_of_mem_set L with L|rfl
 exact .inl (List.mem_flatMap.2 ⟨y,L,J⟩);exact .inr J
def rbl_other {i j:Nat}{a c:Option Addr×Nat}(W:(rbl As).Nodup)(L:As[i]?=some a)(N:As[j]?=some c)(O:i≠j): ∀x,x∈obl a.1->x∉obl c.1:=by
 induction As generalizing i j with
 |nil=>simp at L
 |cons y r ih=>
  have hn':(obl y.1++rbl r).Nodup:=W;rw[Xd]at hn';cases i with
  |zero=>
   cases j with
   |zero=>exact absurd rfl O
   |succ j=>
    simp only[Xa,Qr]at L;subst L;simp only[W7]at N;exact λx V J=>hn'.2.2 x V x (Qaz N J) rfl
  |succ i=>
   simp only[W7]at L;cases j with
   |zero=>
    simp only[Xa,Qr]at N;subst N;exact λx V J=>hn'.2.2 x J x (Qaz L V) rfl
   |succ j=>
    simp only[W7]at N;exact ih hn'.2.1 L N (by omega)
def Qfv {i:Nat}{a a':Option Addr×Nat}(W:(rbl As).Nodup)(h:As[i]?=some a)(ha:(obl a'.1).Nodup)(V: ∀x,x∈obl a'.1->x∈obl a.1\/x∉rbl As):(rbl (As.set i a')).Nodup:=by
 induction As generalizing i with
 |nil=>simp at h
 |cons y r ih=>
  have hn':(obl y.1++rbl r).Nodup:=W;rw[Xd]at hn';cases i with
  |zero=>
   simp only[Xa,Qr]at h;subst h;show(obl a'.1++rbl r).Nodup;rw[Xd];refine⟨ha,hn'.2.1,λx L z O e=>?_⟩;subst e;rcases V x L with J|J
   exact hn'.2.2 x J x O rfl;exact J (We _ O)
  |succ i=>
   simp only[W7]at h;show(obl y.1++rbl (r.set i a')).Nodup;rw[Xd];refine⟨hn'.1,ih hn'.2.1 h λx L=>?_,λx L z O e=>?_⟩;rcases V x L with J|J
   exact .inl J;exact .inr λN=>J (We _ N);subst e;rcases Qft h x O with J|J
   exact hn'.2.2 x L x J rfl;rcases V x J with N|N
   exact hn'.2.2 x L x (Qaz h N) rfl;exact N (Wh _ L)
def Mr.keys {arr:List MapEntry}{es:List (Value×Value)}(L:arr.map (λe=>(e.key,e.val))=es)(V:es.length=m.length)(W:As.length=m.length)(N: ∀(i:Nat) (p:κ×List t.den) (a:Option Addr×Nat),m[i]?=some p->As[i]?=some a->es[i]?=some (enc p.1,.slice a.1 p.2.length a.2)/\Own t e 0 w F a.1 a.2 p.2):arr.map (·.key)=(m.map Prod.fst).map enc:=by
 have O:arr.map (·.key)=es.map Prod.fst:=by rw[<-L,List.map_map];rfl
 rw[O];refine Xc λi=>?_;simp only[Qy];cases J:m[i]? with
 |none=>
  have:=List.getElem?_eq_none_iff.1 J;rw[Wn (by omega)];rfl
 |some p=>
  have hi:=(Qd.1 J).1;rw[(N i p As[i] J (Qf (by omega))).1];rfl
def Qhi (A:Option Addr):(obl A).Nodup:=by cases A<;>simp[obl]
def Mr.app {i:TypeInfo}{z:Value}{bytes:Nat}(K:Ky P kt enc)(ht:P.underlying tt=some (.map kt et))(hz0: ∀w,(zeroValue et).run P w=.ok (.slice none 0 0) w)(hst:P.underlying st=some (.slice e))(hi:P.info? e=some i)(hz:i.zero=some z)(hsize:i.size=t.size)(hby:i.bytes=bytes)(hzs:z.cells.size=t.size)(hbp:0<bytes)
  (hm:Mr enc t e w F b As m) (hF: ∀x,F x->x∉b::rbl As) (hFl: ∀x,F x->x<w.heap.size) {A2:Option Addr} {c2:Nat} {ys:List t.den} (hr:Row t w F G A2 c2 ys) (hG: ∀x,G x->x≠b) (k:κ) (h63:((mget [] m k).length+ys.length)*bytes<=140737488355328):
  ∃A c n w1 A' c' V w3,(Instr.mapEntry tt (.map (some b)) (enc k)).run P w=.ok (.tuple #[.slice A (mget [] m k).length c,goInt n]) w1/\(Builtin.append_ #[st,st] ty #[.slice A (mget [] m k).length c,.slice A2 ys.length c2]).run P w1=.ok (.slice A' ((mget [] m k).length+ys.length) c') V/\
   (Instr.entryStore tt (.map (some b)) (goInt n) (.slice A' ((mget [] m k).length+ys.length) c')).run P V=.ok () w3/\Ch (b::rbl As) w w3/\∃As',Mr enc t e w3 F b As' (mins m k (mget [] m k++ys))/\∀x,x∈rbl As'->x∈rbl As\/(w.heap.size<=x/\x<w3.heap.size):=by
 obtain⟨es,⟨arr,clock,hb,h1,hlt,hnd⟩,hl,hA,W,hsz,he⟩:=hm;have hblt:=(Qv.1 hb).1;rw[W5]at W;have hk:=Mr.keys h1 hl hA he;have hlen:arr.length=m.length:=by rw[<-hl,<-h1,Wd]
 obtain⟨arr1,clock1,O,e1,hrun,hi1,hek,hlt1,hnd1,hcase⟩:=Qgj K ht hz0 hb hk hlt hnd k;have hc1:=Ch.putObj w b (.map arr1.toArray clock1);have hrow: ∃A c,e1.val=.slice A (mget [] m k).length c/\Own t e 0 w F A c (mget [] m k)/\(∀x,x∈obl A->x∈rbl As)/\((loc k (m.map Prod.fst)=some O/\arr1=arr/\As[O]?=some (A,c))\/(loc k (m.map Prod.fst)=none/\O=arr.length/\arr1=arr++[e1]/\obl A=[])):=by
  rcases hcase with⟨hloc,rfl⟩|⟨hloc,hi0,harr,hv⟩
  have hmi:=Qfg hloc [];have hil:=(Qd.1 hmi).1;have hAi:As[O]?=some As[O]:=Qf (by omega);obtain⟨L,h3⟩:=he O _ _ hmi hAi;rw[<-h1,Qy,hi1]at L;injection L with L;injection L with _ L
  exact⟨_,_,L,h3,λx J=>Qaz hAi J,.inl ⟨hloc,rfl,hAi⟩⟩;have hg:mget [] m k=[]:=Qdj ((Qhu m k).1 hloc);rw[hg];exact⟨none,0,hv,Own.nil t e 0 w F,(λx J=>by cases J),.inr ⟨hloc,hi0,harr,rfl⟩⟩
 obtain⟨A,c,hval,hO,hOb,hcase2⟩:=hrow;rw[hval]at hrun;have hO1:Own t e 0 (w.putObj b (.map arr1.toArray clock1)) F A c (mget [] m k):=Own.to hO hc1 (λx J _ _=>by rw[Qk];rintro rfl;exact W.1 (hOb x J)) λx J _=>⟨by rw[Qk];rintro rfl;exact hF x J (Ql ..),J⟩;have hR1:Row t (w.putObj b (.map arr1.toArray clock1)) F G A2 c2 ys:=Row.to hr hc1 (λx J _=>⟨by rw[Qk];rintro rfl;exact hF x J (Ql ..),J⟩) λx J _=>⟨by rw[Qk];exact hG x J,J⟩;obtain⟨A',c',V,happ,hO2,hc2,hnew⟩:=run_appendR (P:=P) (ty:=ty) hst hi hz hsize hby hzs hO1 hR1 h63 hbp (λx J hxA=>hF x J (Qh _ (hOb x hxA))) (X7 _);have hbA:b∉obl A:=λJ=>W.1 (hOb b J);have hb1:(w.putObj b (.map arr1.toArray clock1)).heap[b]?=some (.map arr1.toArray clock1):=World.putObj_heap_same hblt;have hb2:V.heap[b]?=some (.map arr1.toArray clock1):=(hc2.block b (by simpa using hblt) hbA).trans hb1;have hstore:=run_entryStore (P:=P) (tt:=tt) hb2 hi1 hnd1 (.slice A' ((mget [] m k).length+ys.length) c');have hsz1:(w.putObj b (.map arr1.toArray clock1)).heap.size=w.heap.size:=by simp
 have hsz2:w.heap.size<=V.heap.size:=by rw[<-hsz1];exact hc2.size
 have hlt2: ∀x,x∈obl A'->x<V.heap.size:=λx J=>(hO2.lt x J).2;have hnew': ∀x,x∈obl A'->x∈obl A\/x∉rbl As:=λx J=>by
  rcases hnew x J with L|L
  exact .inl L;exact .inr λh3=>by have:=hsz x h3;omega
 have hc3:=Ch.putObj V b (.map (arr1.modify O λe=>{e with val:=.slice A' ((mget [] m k).length+ys.length) c'}).toArray clock1);have hall:Ch (b::rbl As) w (V.putObj b (.map (arr1.modify O λe=>{e with val:=.slice A' ((mget [] m k).length+ys.length) c'}).toArray clock1)):=
  ((hc1.mono (by simp)).then (U:=b::rbl As) (hc2.mono λx J=>.inl (hOb x J)) (λx J=>.inl J) (λx J=>.inl (Qh _ J))).then (U:=b::rbl As) hc3 (λx J=>.inl J) (λx J=>.inl (by rw[Qk]at J;subst J;exact Ql ..))
 refine⟨A,c,e1.born,_,A',c',V,_,hrun,happ,hstore,hall,?_⟩;obtain⟨v,hv⟩: ∃v,v=Value.slice A' ((mget [] m k).length+ys.length) c':=⟨_,rfl⟩;rw[<-hv]at hc3 ⊢;have hb3:(V.putObj b (.map (arr1.modify O λe=>{e with val:=v}).toArray clock1)).heap[b]?=some (.map (arr1.modify O λe=>{e with val:=v}).toArray clock1):=World.putObj_heap_same (Q3 hblt hsz2);have hborn: ∀x,x∈arr1.modify O (λe=>{e with val:=v})->x.born<clock1:=λx J=>by
  obtain⟨j,hj⟩:=Wt.1 J;rw[Wq]at hj;cases N:arr1[j]? with
  |none=>rw[N]at hj;simp at hj
  |some e0=>
   rw[N]at hj;have hb0:=hlt1 e0 (Qg N);simp only[Ya,Wp,Qr]at hj;subst hj;split<;>exact hb0
 have hborns:(arr1.modify O λe=>{e with val:=v}).map (·.born)=arr1.map (·.born):=by
  refine Xc λj=>?_;simp only[Qy,Wq];cases arr1[j]? with
  |none=>rfl
  |some e0=>simp only[Ya,Wp,Qr];split<;>rfl
 have hO3:Own t e 0 (V.putObj b (.map (arr1.modify O λe=>{e with val:=v}).toArray clock1)) F A' c' (mget [] m k++ys):=Own.to hO2 hc3 (λx J _ _=>by
   rw[Qk];rintro rfl;rcases hnew x J with L|L
   exact hbA L;omega) λx J _=>⟨by rw[Qk];rintro rfl;exact hF x J (Ql ..),J⟩
 have hOj: ∀(j:Nat) (p:κ×List t.den) (a:Option Addr×Nat),m[j]?=some p->As[j]?=some a->(∀x,x∈obl a.1->x∉obl A)->Own t e 0 (V.putObj b (.map (arr1.modify O λe=>{e with val:=v}).toArray clock1)) F a.1 a.2 p.2:=λj p a hp N hdis=>by
  have L:=(he j p a hp N).2;have h3:Own t e 0 (w.putObj b (.map arr1.toArray clock1)) F a.1 a.2 p.2:=Own.to L hc1 (λx J _ _=>by rw[Qk];rintro rfl;exact W.1 (Qaz N J)) λx J _=>⟨by rw[Qk];rintro rfl;exact hF x J (Ql ..),J⟩;have h4:Own t e 0 V F a.1 a.2 p.2:=Own.to h3 hc2 (λx J _ _=>hdis x J) λx J _=>⟨λhxA=>hF x J (Qh _ (hOb x hxA)),J⟩;exact Own.to h4 hc3 (λx J _ _=>by rw[Qk];rintro rfl;exact W.1 (Qaz N J)) λx J _=>⟨by rw[Qk];rintro rfl;exact hF x J (Ql ..),J⟩
 have hsz3:(V.putObj b (.map (arr1.modify O λe=>{e with val:=v}).toArray clock1)).heap.size=V.heap.size:=by simp
 have hbA':b∉obl A':=λJ=>by
  rcases hnew b J with L|L
  exact hbA L;omega
 have hnew2: ∀x,x∈obl A'->x∈rbl As\/(w.heap.size<=x/\x<(V.putObj b (.map (arr1.modify O λe=>{e with val:=v}).toArray clock1)).heap.size):=λx J=>by
  rcases hnew x J with L|L
  exact .inl (hOb x L);exact .inr ⟨by omega,by rw[hsz3];exact hlt2 x J⟩
 rcases hcase2 with⟨hloc,rfl,hAi⟩|⟨hloc,hi0,harr,hA0⟩
 refine⟨As.set O (A',c'),⟨_,⟨_,_,hb3,rfl,hborn,by rw[hborns];exact hnd1⟩,?_,?_,?_,?_,?_⟩,?_⟩;rw[Qbe,hloc];simp[hlen];rw[Qbe,hloc];simp[hA];rw[W5];refine⟨λJ=>?_,Qfv W.2 hAi (Qhi A') hnew'⟩;rcases Qft hAi b J with L|L
 exact W.1 L;exact hbA' L;intro x J;rw[hsz3];rcases Qft hAi x J with L|L
 exact Q3 (hsz x L) hsz2;exact hlt2 x L;intro j p a hp N;rw[Qbe,hloc]at hp;simp only[Wq]at hp;rw[List.getElem?_set]at N;have hil:=(Qd.1 hAi).1;by_cases hij:O=j;subst hij;rw[Qfg hloc []]at hp;simp only[W8,hil]at N;injection N with N;subst N
 simp only[W8,Ya,Wp,Qr]at hp;subst hp;refine⟨?_,hO3⟩;rw[Qy,Wq,hi1];simp[hek,hv];simp only[hij,Wb]at N hp;simp only[Ya,id_map']at hp;have hp':m[j]?=some p:=by cases hmj:m[j]?<;>rw[hmj]at hp<;>simp at hp ⊢;exact hp
 refine⟨?_,hOj j p a hp' N (rbl_other W.2 N hAi (Ne.symm hij))⟩;have L:=(he j p a hp' N).1;rw[<-h1,Qy]at L;rw[Qy,Wq];simp only[hij,Wb];cases harj:arr1[j]? with
 |none=>rw[harj]at L;cases L
 |some e0=>rw[harj]at L;simpa using L
 intro x J;rcases Qft hAi x J with L|L
 exact .inl L;exact hnew2 x L;have hmod:(arr1.modify O λe=>{e with val:=v})=arr++[{e1 with val:=v}]:=by
  rw[harr,hi0];refine Xc λj=>?_;rw[Wq];rcases Nat.lt_trichotomy j arr.length with L|L|L
  rw[Q9 L,Q9 L];have hne:arr.length≠j:=by omega
  simp[hne];subst L;simp;rw[Wn (by simp;omega),Wn (by simp;omega)];rfl
 have hdis: ∀x,x∈obl A'->x∉rbl As:=λx J hx2=>by
  rcases hnew x J with L|L
  rw[hA0]at L;cases L;have:=hsz x hx2;omega
 have hrbl:rbl (As++[(A',c')])=rbl As++obl A':=by simp[rbl]
 refine⟨As++[(A',c')],⟨_,⟨_,_,hb3,rfl,hborn,by rw[hborns];exact hnd1⟩,?_,?_,?_,?_,?_⟩,?_⟩;rw[Qbe,hloc,hmod];simp[hlen];rw[Qbe,hloc];simp[hA];rw[hrbl,W5,Qx,Xd];exact⟨λL=>L.elim W.1 hbA',W.2,Qhi A',λx J y hy e=>hdis y hy (e▸J)⟩;intro x J;rw[hsz3];rw[hrbl,Qx]at J;rcases J with L|L
 exact Q3 (hsz x L) hsz2;exact hlt2 x L;intro j p a hp N;rw[Qbe,hloc]at hp;rcases Nat.lt_trichotomy j m.length with L|L|L
 rw[Q9 L]at hp;rw[Q9 (by omega)]at N;refine⟨?_,hOj j p a hp N λx J hx2=>by rw[hA0]at hx2;cases hx2⟩;have h3:=(he j p a hp N).1;rw[<-h1,Qy]at h3;rw[hmod,Qy,Q9 (by omega)];exact h3;subst L;rw[Wx (Q4 _)]at hp;rw[Wx (by omega)]at N;simp[hA]at hp N;subst hp;subst N;refine⟨?_,hO3⟩;rw[hmod,Qy,Wx (by omega)];simp[hlen,hek,hv];rw[Wn (by simp;omega)]at hp;cases hp;intro x J;rw[hrbl,Qx]at J;rcases J with L|L
 exact .inl L;exact hnew2 x L
end
section
variable {r:Option Nat}{P:Program}{ops:Array Oper}{Q:Exit->Act->World->Prop}{rest:List Oper}{C:Cx}{l:List (Nat×Value)}{H:List (Nat×Res)}
def lk_hd (d:Nat)(v:Value)(l:List (Nat×Value)):lk ((d,v)::l) d=some v:=by simp[lk]
def AL.mkmr {d:Nat}{T tt:TypeId}{pos:String}{af:Array Edge}(k:Nat)(κ:Type)(enc:κ->Value)(t:Ty)(e:TypeId)(h: ∀b,AL r P ops Q rest C ((d,.map (some b))::l) ((k,.mr κ enc t e b [] [])::H))(L:Nat.ble (d+1) C.n=true:=by rfl)(N:hk H k=none:=by kernel_rfl):
  AL r P ops Q (⟨some d,.makeMap tt none,T,pos,af,none⟩::rest) C l H:=λa w O V=>by
 refine Z.valw (w':=w.alloc (.map #[] 0)) (v:=.map (some w.heap.size)) O L (by simp[execOp,Instr.makeMap]) λa' hf'=>h _ a' _ hf' (V.new N (Ch.alloc w _) (λx J=>?_) (λj W=>by cases W) λF B _ _ _=>?_);simp[Res.bl,rbl]at J;subst J;simp;exact⟨[],⟨[],0,heap_alloc_new w _,rfl,by simp,by simp⟩,rfl,rfl,by simp[rbl],by simp[rbl],λi p a hp=>by simp at hp⟩
def frzM {X:Act->World->Prop}(k:Nat)(js:List Nat){κ:Type}{enc:κ->Value}{t:Ty}{e:TypeId}{b:Nat}{As:List (Option Addr×Nat)}{m:List (κ×List t.den)}(h: ∀a w,Fr a C.n C.ds l->Hp C ((k,.mp κ enc (.slice t) false b m)::ded js H) w->X a w)(J:hk H k=some (.mr κ enc t e b As m):=by rfl)(O:hng [k] js H=true:=by kernel_rfl): ∀a w,Fr a C.n C.ds l->Hp C H w->X a w:=λa w hf W=>by
 refine h a w hf (Hp.dd (W.upd (S:=[]) (Ch.refl w) (by simp) (λx L=>.inl ⟨_,J,by simp[Res.bl]at L ⊢;exact .inl L⟩) (λj O=>by cases O) λF B h1 h2 _ _ _=>?_) O);obtain⟨es,c1,c2,c3,c4,c5,c6⟩:Mr enc t e w (Fh C H) b As m:=W.hold k _ J;refine⟨es,c1,c2,λi p hp=>?_⟩;have hi:=(Qd.1 hp).1;have V:As[i]?=some As[i]:=Qf (by omega);obtain⟨c7,cells,hr,o1,o2⟩:=c6 i p _ hp V;refine⟨[.slice As[i].1 p.2.length As[i].2],c7,?_⟩;have hO':Own t e 0 w F As[i].1 As[i].2 p.2:=⟨cells,hr,o1,λi x hi=>rep_as (o2 i x hi) λb hb hl=>h1 b hb hl⟩;refine hO'.rep (λ_ h=>h) λx L=>h2 x ⟨_,J,by simp only[Res.bl];exact Qh _ (Qaz V L)⟩ λN=>?_;simp only[Res.bl,Qk]at N;subst N;exact(W5.1 c4).1 (Qaz V L)
def AL.mapp {κ:Type}[DecidableEq κ]{enc:κ->Value}{kt et tt st e:TypeId}{t:Ty}{b d1 d2 d3 d4 n2:Nat}{As:List (Option Addr×Nat)}{m:List (κ×List t.den)}{mx kx y:Operand}{i:TypeInfo}{z:Value}{bytes sz:Nat}{A2:Option Addr}{c2:Nat}{ys:List t.den}
  {T1 T2 T3 T4 T5:TypeId} {p1 p2 p3 p4 p5:String} {f1 f2 f3 f4 f5:Array Edge} (k ky:Nat) (js:List Nat) (K:Ky P kt enc) (key:κ) (hz0: ∀w,(zeroValue et).run P w=.ok (.slice none 0 0) w)
  (hinf:P.info? e=some i/\i.zero=some z/\i.size=sz/\i.bytes=bytes/\z.cells.size=sz) (h63:((mget [] m key).length+ys.length)*bytes<=140737488355328)
  (h: ∀As' V v2 v3 v4,AL r P ops Q rest C ((d4,v4)::(d3,v3)::(d2,v2)::(d1,V)::l) ((k,.mr κ enc t e b As' (mins m key (mget [] m key++ys)))::ded js H))
  (hk1:hk H k=some (.mr κ enc t e b As m):=by rfl) (hk2:hk H ky=some (.own t e A2 c2 ys):=by rfl) (N:Nat.beq k ky=false:=by rfl) (J:ev l mx=some (.map (some b)):=by rfl) (hy:ev l kx=some (enc key):=by rfl) (hyy:ev l y=some (.slice A2 n2 c2):=by rfl) (hn2:n2=ys.length:=by rfl) (hsz:sz=t.size:=by rfl) (hbp:Nat.ble 1 bytes=true:=by rfl)
  (ht:P.underlying tt=some (.map kt et):=by rfl) (hst:P.underlying st=some (.slice e):=by rfl) (hd1:Nat.ble (d1+1) C.n=true:=by rfl) (hd2:Nat.ble (d2+1) C.n=true:=by rfl) (hd3:Nat.ble (d3+1) C.n=true:=by rfl) (hd4:Nat.ble (d4+1) C.n=true:=by rfl)
  (hl: ∀V v2 v3 v4,ev ((d2,v2)::(d1,V)::l) y=ev l y/\ev ((d4,v4)::(d3,v3)::(d2,v2)::(d1,V)::l) mx=ev l mx/\lk ((d3,v3)::(d2,v2)::(d1,V)::l) d1=some V/\lk ((d4,v4)::(d3,v3)::(d2,v2)::(d1,V)::l) d3=some v3:=by exact λ_ _ _ _=>⟨rfl,rfl,rfl,rfl⟩) (hj:hng [k] js H=true:=by kernel_rfl):
  AL r P ops Q (⟨some d1,.mapEntry tt mx kx,T1,p1,f1,none⟩::⟨some d2,.extract (.tmp d1) 0,T2,p2,f2,none⟩::⟨some d3,.call {callee:=.builtin .append,args:=#[.tmp d2,y],argTypes:=#[st,st]},T3,p3,f3,none⟩::⟨some d4,.extract (.tmp d1) 1,T4,p4,f4,none⟩::⟨none,.entryStore tt mx (.tmp d4) (.tmp d3),T5,p5,f5,none⟩::rest) C l H:=λa w hf hh=>by
 subst hn2;subst hsz;obtain⟨hi,hz,hsize,hby,hzs⟩:=hinf;have N:k≠ky:=λe=>by rw[e,Y1]at N;cases N
 have hM:Mr enc t e w (Fh C H) b As m:=hh.hold k _ hk1;have hM2:Mr enc t e w (λx=>Fh C H x/\x<w.heap.size) b As m:=by
  obtain⟨es,c1,c2,c3,c4,c5,c6⟩:=hM;refine⟨es,c1,c2,c3,c4,c5,λi p a hp ha=>?_⟩;obtain⟨c7,cells,hr,o1,o2⟩:=c6 i p a hp ha;exact⟨c7,cells,hr,o1,λi x hi=>Qaf t (o2 i x hi)⟩
 obtain⟨G,hR,hG⟩:=rowO hk2 w hh;have hR2:Row t w (λx=>Fh C H x/\x<w.heap.size) G A2 c2 ys:=by
  obtain⟨r1,r2,cs,r3,r4,r5⟩:=hR;exact⟨r1,r2,cs,r3,r4,λi x hi=>Qaf t (r5 i x hi)⟩
 have L: ∀x,x∈b::rbl As->Bk H k x:=λx J=>⟨_,hk1,J⟩;obtain⟨A,c,n,w1,A',c',w2,w3,e1,e2,e3,hch,As',hM3,hnew⟩:=hM2.app (ty:=T3) K ht hz0 hst hi hz hsize hby hzs (Qq hbp) (λx J W=>J.1.1 k (L x W)) (λx J=>J.2) hR2 (λx hgx W=>N (hh.dis k ky b (L b (Ql ..)) (W▸hG x hgx))) key h63;refine Z.valw (w':=w1) (v:=.tuple #[.slice A (mget [] m key).length c,goInt n]) hf hd1 ?_ λa1 hf1=>?_;simp only[execOp,Sem.run_bind,hf.eval J,hf.eval hy,e1,Result.andThen_ok,Sem.run_pure];refine Z.val (v:=.slice A (mget [] m key).length c) hf1 hd2 (Z.r_extract (hf1.eval (x:=.tmp d1) (lk_hd _ _ _)) rfl) λa2 hf2=>?_;obtain⟨q1,_,_,_⟩:=hl (.tuple #[.slice A (mget [] m key).length c,goInt n]) (.slice A (mget [] m key).length c) undef undef;refine Z.valw (w':=w2) (v:=.slice A' ((mget [] m key).length+ys.length) c') hf2 hd3 ?_ λa3 hf3=>?_;simp only[execOp,resolve,invoke,builtin,Sem.run_bind,Sem.run_pure,Result.andThen_ok,Xg,Q7,Xh,hf2.eval (x:=.tmp d2) (v:=.slice A (mget [] m key).length c) (lk_hd _ _ _),hf2.eval (q1.trans hyy),e2];obtain⟨_,_,q3,_⟩:=hl (.tuple #[.slice A (mget [] m key).length c,goInt n]) (.slice A (mget [] m key).length c) (.slice A' ((mget [] m key).length+ys.length) c') undef;refine Z.val (v:=goInt n) hf3 hd4 (Z.r_extract (hf3.eval (x:=.tmp d1) q3) rfl) λa4 O=>?_;obtain⟨_,q2,_,q4⟩:=hl (.tuple #[.slice A (mget [] m key).length c,goInt n]) (.slice A (mget [] m key).length c) (.slice A' ((mget [] m key).length+ys.length) c') (goInt n);refine Z.skipw (w':=w3) O ?_ λa5 hf5=>h As' _ _ _ _ a5 w3 hf5 (Hp.dd (hh.upd hch L (λx J=>?_) (λj hj=>by cases hj) λF B hF _ _ _ _=>hM3.asF λx J _=>hF x J.1 J.2) hj);simp only[execOp,Sem.run_bind,O.eval (q2.trans J),O.eval (x:=.tmp d4) (v:=goInt n) (lk_hd _ _ _),O.eval (x:=.tmp d3) q4,e3,Result.andThen_ok,Sem.run_pure];simp only[Res.bl]at J;rcases Qn.1 J with rfl|J
 exact .inl (L _ (Ql ..));rcases hnew x J with h2|h2
 exact .inl (L _ (Qh _ h2));exact .inr h2
end
end Go.A
end
section
namespace Go.A
open Go.RowKit Go.Z Go.Shelf Go.Proofs Go.Lib
def tabF:List Value:=(List.range 256).map λc=>.int .u8 (firstT c)
def tabA:List Value:=(List.range 32).map λj=>.int .u8 (if j%2=0 then accLo (j / 2)else accHi (j / 2))
def tabs_of {w:World}{J L:Nat}(O:Cells w ⟨J,0,none⟩ tabF)(N:Cells w ⟨L,0,none⟩ tabA):Lib.Utf8Tabs J L w:=by
 refine⟨λc V=>?_,λi hi=>⟨?_,?_⟩⟩;have:=O c (.int .u8 (firstT c)) (by simp[tabF,V]);rw[Addr.add_lit,W9]at this;exact this;have:=N (2*i) (.int .u8 (accLo i)) (by
  have:2*i<32:=by omega
  simp[tabA,this])
 rw[Addr.add_lit,W9]at this;exact this;have:=N (2*i+1) (.int .u8 (accHi i)) (by
  have W:2*i+1<32:=by omega
  have h4:(2*i+1)%2=1:=by omega
  have h5:(2*i+1) / 2=i:=by omega
  simp[tabA,W,h4,h5])
 rw[Addr.add_lit,W9]at this;exact this
def Ct.valid {P:Program}{ρ:Ren}{f N O:Nat}(L:Lays.n196 P ρ)(W:ρ.f 196=f)(h3:ρ.g 3=N)(h4:ρ.g 4=O)(s:ByteArray)(hs:s.size<=maxLen)(r:Bool)(J:some (Lib.validD s.data.toList)=some r):
  Ct P f [.string s] [(0,.el none N 0 tabF),(1,.el none O 0 tabA)] [] (λv H'=>v=.bool r/\H'=[]):=λw F V=>by
 subst W;subst h3;subst h4;have J:=Xm J;subst J;have h1:Cells w ⟨ρ.g 3,0,none⟩ tabF:=(V.hold 0 (.el none (ρ.g 3) 0 tabF) rfl).1;have h2:Cells w ⟨ρ.g 4,0,none⟩ tabA:=(V.hold 1 (.el none (ρ.g 4) 0 tabA) rfl).1;refine(Any.utf8_ValidString L s w (by simp only[maxLen]at hs;omega) (tabs_of h1 h2)).mono ?_;rintro e w' ⟨rfl,hb⟩;exact⟨_,[],rfl,⟨rfl,rfl⟩,(Ch.of_below hb),λk r h=>(by cases h),λk b ⟨_,h,_⟩=>(by cases h),λk k' b ⟨_,h,_⟩=>(by cases h),λk r j h=>(by cases h)⟩
end Go.A
end
section
namespace Go.A
open Go.RowKit
abbrev i (x:Int):Value:=.int .i64 x
abbrev h6:=IntKind.i64.has
abbrev ti:=Z.Ty.int .i64
abbrev TI:=Z.Ty.slice ti
def si{α:Type}{a b:α}(h:some a=some b):a=b:=Xm h
end Go.A
end
section
namespace Go.Proofs.YtpoabedecgeamaaGreatDoor
open Go.RowKit Go.Shelf Go.Lib
abbrev l2a:List Nat:=[0,1]
def Tryz.laysValid_ren:Go.Shelf.Ren:=⟨λ|196=>151|259=>169|n=>n,λ|9=>9|4=>4|3=>3|5=>5|12=>12|119=>246|0=>0|46=>157|139=>249|138=>248|53=>156|n=>n,λ|3=>1|4=>2|n=>n⟩
def Tryz.laysValid:Go.Proofs.Lays.n196 Tryz.prog Tryz.laysValid_ren where
 mixed:=by kernel_rfl
 f196:=Tryz.func151.trans (Xb some (by kernel_rfl));f259:=Tryz.func169.trans (Xb some (by kernel_rfl));t0:=Tryz.underlying0;a0:=Tryz.isAgg0;z0:=Tryz.sizeOf0;v0:=Tryz.zeroValue0;t3:=Tryz.underlying3;a3:=Tryz.isAgg3;z3:=Tryz.sizeOf3;v3:=Tryz.zeroValue3;t4:=Tryz.underlying4;a4:=Tryz.isAgg4;z4:=Tryz.sizeOf4;v4:=Tryz.zeroValue4;t5:=Tryz.underlying5;a5:=Tryz.isAgg5;z5:=Tryz.sizeOf5;v5:=Tryz.zeroValue5;t9:=Tryz.underlying9;a9:=Tryz.isAgg9;z9:=Tryz.sizeOf9;v9:=Tryz.zeroValue9;t12:=Tryz.underlying12;a12:=Tryz.isAgg12;z12:=Tryz.sizeOf12;v12:=Tryz.zeroValue12;t46:=Tryz.underlying157;a46:=Tryz.isAgg157;z46:=Tryz.sizeOf157;v46:=Tryz.zeroValue157;t53:=Tryz.underlying156;a53:=Tryz.isAgg156;z53:=Tryz.sizeOf156;v53:=Tryz.zeroValue156;t119:=Tryz.underlying246;a119:=Tryz.isAgg246;z119:=Tryz.sizeOf246;t138:=Tryz.underlying248;a138:=Tryz.isAgg248;z138:=Tryz.sizeOf248;v138:=Tryz.zeroValue248;t139:=Tryz.underlying249;a139:=Tryz.isAgg249;z139:=Tryz.sizeOf249;v139:=Tryz.zeroValue249;g3:=by kernel_rfl
 g4:=by kernel_rfl
def F.bB (o:ByteArray):Option Bool:=some (Lib.validD o.data.toList)
theorem o_ag (o:ByteArray)(h1:o.size<=maxLen)(r:Bool)(s:F.bB o=some r):
  A.Ct Tryz.prog 151 [.string o] [(0,.el none 1 0 A.tabF),(1,.el none 2 0 A.tabA)] [] (λv H'=>v=.bool r/\H'=[]):=
 A.Ct.valid Tryz.laysValid rfl rfl rfl o h1 r s
end Go.Proofs.YtpoabedecgeamaaGreatDoor
end
section
namespace Go.A
open Go.RowKit Go.Z
def mb:Nat->Nat->List Bool
 |0,_=>[]
 |n+1,m=>Nat.beq (m%2) 1::mb n (m / 2)
def nxs:Nat->Option Code->List Kx->Option (Option Code×List Kx)
 |0,c,K=>some (c,K)
 |n+1,some (.seq x y),K=>nxs n (some x) (.c y::K)
 |n+1,some (.block id c),K=>nxs n (some c) (.b id::K)
 |n+1,some .skip,K=>nxs n none K
 |n+1,some (.label _),K=>nxs n none K
 |n+1,some (.exit id),K=>match popx id K with
  |some K'=>nxs n none K'
  |none=>none
 |n+1,none,.c y::K=>nxs n (some y) K
 |n+1,none,.b _::K=>nxs n none K
 |n+1,none,.s::K=>nxs n none K
 |_+1,_,_=>none
section
variable {r:Option Nat}{P:Program}{Y:Exit->Act->World->Prop}{C:Cx}{l:List (Nat×Value)}{H:List (Nat×Res)}{K K':List Kx}{c c':Code}
def GX (r:Option Nat)(P:Program)(Y:Exit->Act->World->Prop)(C:Cx)(l:List (Nat×Value))(H:List (Nat×Res)):Option Code->List Kx->Prop
 |some c,K=>AX r P Y K c C l H
 |none,K=>AE r P Y K .normal C l H
def o_be: ∀{n:Nat} {c c':Option Code} {K K':List Kx},nxs n c K=some (c',K')->GX r P Y C l H c' K'->GX r P Y C l H c K:=by
 intro n;induction n with
 |zero=>intro c c' K K' e h;injection e with e;injection e with N O;subst N;subst O;exact h
 |succ n L=>
  intro c c' K K' e h;unfold nxs at e;split at e;injection e with e;injection e with N O;subst N;subst O;exact h
  rename_i J;cases J;exact AX.seq (L e h);rename_i J;cases J;exact AX.block (L e h);rename_i J;cases J;exact AX.skip (L e h);rename_i J;cases J;exact AX.label (L e h);rename_i J;cases J;split at e;rename_i hp;exact AX.exit hp (L e h);cases e;rename_i J;cases J;exact AE.c (L e h);rename_i J;cases J;exact AE.b (L e h);rename_i J;cases J;exact AE.s (L e h);cases e
def xx (n:Nat)(h:AX r P Y K' c' C l H)(e:nxs n (some c) K=some (some c',K'):=by rfl):AX r P Y K c C l H:=o_be (c:=some c) (c':=some c') e h
def xe (n:Nat)(h:AE r P Y K' .normal C l H)(e:nxs n (some c) K=some (none,K'):=by rfl):AX r P Y K c C l H:=o_be (c:=some c) (c':=none) e h
def ex (n:Nat)(h:AX r P Y K' c' C l H)(e:nxs n none K=some (some c',K'):=by rfl):AE r P Y K .normal C l H:=o_be (c:=none) (c':=some c') e h
def ee (n:Nat)(h:AE r P Y K' .normal C l H)(e:nxs n none K=some (none,K'):=by rfl):AE r P Y K .normal C l H:=o_be (c:=none) (c':=none) e h
def xl (n:Nat){id:Nat}{lo:List Oper}(h:AL r P lo.toArray (kont r P Y K') lo C l H)(e:nxs n (some c) K=some (some (.region id lo.toArray false),K'):=by rfl):AX r P Y K c C l H:=xx n (AX.reg h) e
def el (n:Nat){id:Nat}{lo:List Oper}(h:AL r P lo.toArray (kont r P Y K') lo C l H)(e:nxs n none K=some (some (.region id lo.toArray false),K'):=by rfl):AE r P Y K .normal C l H:=ex n (AX.reg h) e
def dl (n:Nat){ops:Array Oper}{id:Nat}{lo:List Oper}(h:AL r P lo.toArray (kont r P Y K') lo C l H)(e:nxs n none K=some (some (.region id lo.toArray false),K'):=by rfl):AL r P ops (kont r P Y K) [] C l H:=AL.done (el n h e)
def dx (n:Nat){ops:Array Oper}(h:AX r P Y K' c' C l H)(e:nxs n none K=some (some c',K'):=by rfl):AL r P ops (kont r P Y K) [] C l H:=AL.done (ex n h e)
def de (n:Nat){ops:Array Oper}(h:AE r P Y K' .normal C l H)(e:nxs n none K=some (none,K'):=by rfl):AL r P ops (kont r P Y K) [] C l H:=AL.done (ee n h e)
end
section
variable {r:Option Nat}{P:Program}{ops:Array Oper}{Q:Exit->Act->World->Prop}{lst rest:List Oper}{C:Cx}{l:List (Nat×Value)}{H:List (Nat×Res)}{T:TypeId}{pos:String}{af:Array Edge}
def q0 (bs es:List Nat)(J:List Hint)(nl:List (Nat×Value))(h:AL r P ops Q (lst.drop J.length) C (cat nl l) H)
  (hq:((qs P ⟨knb H bs,kne H es⟩ C.n ops J lst (Z.q0 l)).bind (qfin l (nl.map Prod.fst)))=some ([],nl):=by kernel_rfl)
  (L:(qs P ⟨knb H bs,kne H es⟩ C.n ops J lst (Z.q0 l)).map (λs=>s.q.map Prod.fst)=(qs P ⟨knb H bs,kne H es⟩ C.n ops J lst (Z.q0 l)).map (λs=>s.q.map Prod.snd):=by kernel_rfl):AL r P ops Q lst C l H:=
 AL.q bs es J (nl.map Prod.fst) [] nl trivial h hq L
def q (bs es:List Nat)(J:List Hint)(cs:List Prop)(nl:List (Nat×Value))(L:conj cs)(h:AL r P ops Q (lst.drop J.length) C (cat nl l) H)
  (hq:((qs P ⟨knb H bs,kne H es⟩ C.n ops J lst (Z.q0 l)).bind (qfin l (nl.map Prod.fst)))=some (cs,nl):=by kernel_rfl)
  (N:(qs P ⟨knb H bs,kne H es⟩ C.n ops J lst (Z.q0 l)).map (λs=>s.q.map Prod.fst)=(qs P ⟨knb H bs,kne H es⟩ C.n ops J lst (Z.q0 l)).map (λs=>s.q.map Prod.snd):=by kernel_rfl):AL r P ops Q lst C l H:=
 AL.q bs es J (nl.map Prod.fst) cs nl L h hq N
def sw (k:Nat)(js:List Nat)(new:List Value){t bt:TypeId}{x y:Operand}{g o m:Nat}{cs:List Value}{v:Value}(h:AL r P ops Q rest C l ((k,.blk g bt new)::ded js H))
  (J:hk H k=some (.blk g bt cs):=by rfl) (L:ev l x=some (.pointer (some ⟨g,o,none⟩)):=by rfl) (N:ev l y=some v:=by rfl) (O:szB P t=some m:=by kernel_rfl)
  (V:v.cells=new.toArray:=by rfl) (W:new.length=m:=by rfl) (ho:Nat.ble (o+m) cs.length=true:=by rfl) (h1:new.all (λu=>u.oneCell')=true:=by rfl) (hc:cs.take o++new++cs.drop (o+m)=new:=by rfl) (hj:hng [k] js H=true:=by kernel_rfl):
  AL r P ops Q (⟨none,.store t x y,T,pos,af,none⟩::rest) C l H:=AL.store k js h J L N O V W ho h1 hc hj
end
section
variable {r:Option Nat}{P:Program}{Y:Exit->Act->World->Prop}{K:List Kx}{C:Cx}{l:List (Nat×Value)}{H:List (Nat×Res)}
def j {l':List (Nat×Value)}{H':List (Nat×Res)}{ks L:List Nat}{J:List (Nat×Value)->List (Nat×Res)->Prop}{nl:List (Nat×Value)}{nh:List (Nat×Res)}(N:J nl nh)(O:kp l ((cat nl (kp l' ks)).map (·.1))=cat nl (kp l' ks):=by kernel_rfl)(V:kpH H (nh.map (·.1)++L) (nh.map (·.1)++L)=hcat nh (kpH H' L L):=by kernel_rfl):
  AE r P Y (.m (St C l' H' ks L J)::K) .normal C l H:=AE.j (nh.map (·.1)++L) nl nh N O V
def lp_ (ks L:List Nat)(J:Nat->List (Nat×Value)->List (Nat×Res)->Prop){nl:List (Nat×Value)}{nh:List (Nat×Res)}{x:Code}(N:J FU nl nh)
  (h: ∀f nl nh,J f nl nh->AX r P Y (.m (St C l H ks L λnl nh=>∃f',f'<f/\J f' nl nh)::K) x C (cat nl (kp l ks)) (hcat nh (kpH H L L)))
  (O:kp l ((cat nl (kp l ks)).map (·.1))=cat nl (kp l ks):=by kernel_rfl) (V:kpH H (nh.map (·.1)++L) (nh.map (·.1)++L)=hcat nh (kpH H L L):=by kernel_rfl):AX r P Y K (.loop x) C l H:=
 AX.loop ks L (nh.map (·.1)++L) J FU nl nh N h O V
end
section
variable {r:Option Nat}{P:Program}{ops:Array Oper}{Q:Exit->Act->World->Prop}{Hq:List (Nat×Res)}{m g:Nat}{li:List Bool}{C:Cx}{l:List (Nat×Value)}{H:List (Nat×Res)}
def hq (L:Pq Q)(gs qs bs es:List Nat)(li':List Bool)(f:Nat)(is:List (Nat×Hint))(nl:List (Nat×Value))(h:AH r P ops Q (kpH H qs qs) m f li' C (cat nl l) H)
  (N:g=f+is.length:=by rfl) (O:is.all (λp=>bon ops m p.1)=true:=by kernel_rfl) (J:cloB ops li.toArray=true:=by kernel_rfl) (V:(Region.noSelect ops&&Qay ops)=true:=by kernel_rfl)
  (hq:((dqs P ⟨knb (kpH H qs qs) bs,kne (kpH H qs qs) es⟩ C.n ops is li.toArray (Z.q0 l)).bind λx=>(qfin l (nl.map Prod.fst) x.2).map λy=>(x.1.toList,y))=some (li',[],nl):=by kernel_rfl)
  (W:(dqs P ⟨knb (kpH H qs qs) bs,kne (kpH H qs qs) es⟩ C.n ops is li.toArray (Z.q0 l)).map (λs=>s.2.q.map Prod.fst)=(dqs P ⟨knb (kpH H qs qs) bs,kne (kpH H qs qs) es⟩ C.n ops is li.toArray (Z.q0 l)).map (λs=>s.2.q.map Prod.snd):=by kernel_rfl)
  (e:kpH (kpH H qs qs) gs gs=Hq:=by kernel_rfl):AH r P ops Q Hq m g li C l H:=AH.q L gs qs bs es li' f is (nl.map Prod.fst) [] nl trivial h N O J V hq W e
end
section
variable {r:Option Nat}{P:Program}{l:List (Nat×Value)}{H:List (Nat×Res)}{fn:Func}{K:List Kx}{w0:World}{S:List Nat}{F:Nat->Prop}{n:Nat}{R:Value->List (Nat×Res)->Prop}
def rt1 (ps:List (Nat×Nat)){t:Nat}{v:Value}(J:R v (A.ren H ps))(L:fn.results=#[.tmp t]:=by rfl)(N:lk l t=some v:=by rfl)(O:nod (ps.map (·.1))=true:=by rfl)(V:nod (ps.map (·.2))=true:=by rfl):
  AX r P (bodyPost P fn λe w'=>∃v H',e=.returned v/\R v H'/\Hp ⟨0,[],w0,S,F⟩ H' w') K .ret ⟨n,[],w0,S,F⟩ l H:=AX.ret ps v (λa w h W=>Z.resv1 L (Z.rv_t h N)) J O V
def rt2 (ps:List (Nat×Nat)){t u:Nat}{v J:Value}(L:R (.tuple #[v,J]) (A.ren H ps))(N:fn.results=#[.tmp t,.tmp u]:=by rfl)(O:lk l t=some v:=by rfl)(V:lk l u=some J:=by rfl)(W:nod (ps.map (·.1))=true:=by rfl)(h2:nod (ps.map (·.2))=true:=by rfl):
  AX r P (bodyPost P fn λe w'=>∃v H',e=.returned v/\R v H'/\Hp ⟨0,[],w0,S,F⟩ H' w') K .ret ⟨n,[],w0,S,F⟩ l H:=AX.ret ps (.tuple #[v,J]) (λa w h hh=>Z.resv2 N (Z.rv_t h O) (Z.rv_t h V)) L W h2
end
def pb {r:Option Nat}{P:Program}{fn:Func}{R:Ending->World->Prop}{K:List Kx}:Pq (kont r P (bodyPost P fn R) K):=pk_kont (Z.Pq.body _ _ _)
section
variable {P:Program}{C:Cx}{l:List (Nat×Value)}{H:List (Nat×Res)}
def cutp {X:Act->World->Prop}(k kn:Nat){t:Ty}{A:Option Addr}{c:Nat}{xs:List t.den}(v:Nat)(W:v<=xs.length)(h: ∀a w,Fr a C.n C.ds l->Hp C ((kn,.sh (.slice t) [.slice A (xs.take v).length c] (xs.take v))::H) w->X a w)
  (J:hk H k=some (.sh (.slice t) [.slice A xs.length c] xs):=by rfl) (hn:hk H kn=none:=by kernel_rfl): ∀a w,Fr a C.n C.ds l->Hp C H w->X a w:=λa w hf V=>by
 have hr:(Ty.slice t).rep w (Fh C H) [.slice A xs.length c] xs:=V.hold k _ J;have L:(xs.take v).length=v:=by rw[Qo];omega
 have N:=Qbi hr W;have O:(Ty.slice t).rep w (Fh C H) [.slice A (xs.take v).length c] (xs.take v):=by rw[L];exact N
 exact h a w hf (V.add hn rfl (λj hj=>by cases hj) (Qaf _ O))
def r_cuth (k:Nat){a:Act}{w:World}{t:Ty}{tt e:TypeId}{x O:Operand}{A:Option Addr}{c:Nat}{xs:List t.den}{W:IntKind}{q:Int}{v:Nat}{d:Option Tmp}{T:TypeId}{pos:String}{af:Array Edge}{gd:Option (Nat×Bool)}(V:Fr a C.n C.ds l)(hh:Hp C H w)(hq:q=(v:Int))(h2:v<=xs.length)
  (J:hk H k=some (.sh (.slice t) [.slice A xs.length c] xs):=by rfl) (hx:ev l x=some (.slice A xs.length c):=by rfl) (L:ev l O=some (.int W q):=by rfl) (hS:szB P e=some t.size:=by kernel_rfl)
  (ht:P.underlying tt=some (.slice e):=by rfl):(execOp a.eval ⟨d,.slice tt x none (some O) none,T,pos,af,gd⟩).run P w=.ok (.value (.slice A (xs.take v).length c)) w:=by
 have hr:(Ty.slice t).rep w (Fh C H) [.slice A xs.length c] xs:=hh.hold k _ J;have hlen:=rep_slice_len hr;have N:(xs.take v).length=v:=by rw[Qo];omega
 rw[N];exact Qdf ht (Qah hS) (V.eval hx) (V.eval L) hq (by omega)
end
end Go.A
end
section
namespace Go.Z
open Go.RowKit
section
variable {κ:Type}[DecidableEq κ]{α:Type}
end
section
variable {r:Option Nat}{P:Program}{ops:Array Oper}{Q:Exit->Act->World->Prop}{a:Act}{w:World}{rest:List Oper}{n:Nat}{ds:List Deferred}{l:List (Nat×Value)}{d:Nat}{T:TypeId}{pos:String}{af:Array Edge}
variable {κ:Type}[DecidableEq κ]{enc:κ->Value}{kt et tt kt2:TypeId}{t:Ty}{agg:Bool}{F:Nat->Prop}{b:Nat}{m:List (κ×t.den)}
end
end Go.Z
namespace Go.A
open Go.RowKit Go.Z
section
variable {r:Option Nat}{P:Program}{ops:Array Oper}{Q:Exit->Act->World->Prop}{rest lst:List Oper}{C:Cx}{l:List (Nat×Value)}{H:List (Nat×Res)}{d:Nat}{op:Op}{T:TypeId}{pos:String}{af:Array Edge}
variable {κ:Type}[DecidableEq κ]{enc:κ->Value}{kt et tt kt2:TypeId}{t:Ty}{agg:Bool}{b:Nat}{m:List (κ×t.den)}
end
section
variable {r:Option Nat}{P:Program}{ops:Array Oper}{Q:Exit->Act->World->Prop}{rest lst:List Oper}{C:Cx}{l:List (Nat×Value)}{H:List (Nat×Res)}{d:Nat}{op:Op}{T T2:TypeId}{pos pos2:String}{af af2:Array Edge}
end
end Go.A
end
section
namespace Go.Z
open Go.RowKit
section
variable {r:Option Nat}{P:Program}{ops:Array Oper}{Q:Exit->Act->World->Prop}{a:Act}{w:World}{rest:List Oper}{n:Nat}{ds:List Deferred}{l:List (Nat×Value)}{d:Nat}{T:TypeId}{pos:String}{af:Array Edge}
end
end Go.Z
namespace Go.A
open Go.RowKit Go.Z
def pn {α:Type}(A:Option Addr)(xs:List α):Prop:=A.isNone=xs.isEmpty/\xs.length<=1
section
variable {P:Program}{a:Act}{w:World}{d:Option Tmp}{T tt ty e:TypeId}{pos:String}{af:Array Edge}{n:Nat}{ds:List Deferred}{l:List (Nat×Value)}{x y:Operand}{A:Option Addr}
end
section
variable {C:Cx}{l:List (Nat×Value)}{H:List (Nat×Res)}{X:Act->World->Prop}
end
section
variable {r:Option Nat}{P:Program}{ops:Array Oper}{Q:Exit->Act->World->Prop}{rest lst:List Oper}{C:Cx}{l:List (Nat×Value)}{H:List (Nat×Res)}{d:Nat}{T:TypeId}{pos:String}{af:Array Edge}
end
section
variable {r:Option Nat}{P:Program}{ops:Array Oper}{Q:Exit->Act->World->Prop}{rest lst:List Oper}{C:Cx}{l:List (Nat×Value)}{H:List (Nat×Res)}{d:Nat}{T:TypeId}{pos:String}{af:Array Edge}
end
end Go.A
end
section
namespace Go.A
open Go.RowKit Go.Z
def sm {α β:Type}(r:Int ⊕ α)(k:α->Option (Int ⊕ β)):Option (Int ⊕ β):=match r with
 | .inl e=>some (.inl e)
 | .inr x=>k x
def EZ {α:Type}(r:Int ⊕ α):Int->Prop:=λe=>r=.inl e/\IntKind.i64.has e
section
variable {α β:Type}{r:Int ⊕ α}{k:α->Option (Int ⊕ β)}{r0:Int ⊕ β}{x:α}{e:Int}
def sm_l (h:sm r k=some r0): ∀x,EZ r x->EZ r0 x:=λx ⟨J,L⟩=>⟨by subst J;exact(Xm h).symm,L⟩
def sm_r (h:sm (.inr x) k=some r0):k x=some r0:=h
end
def YP (pv:Int->Value)(w0:World)(S:List Nat)(F:Nat->Prop)(R:Value->List (Nat×Res)->Prop)(E:Int->Prop):Ending->World->Prop:=λe w'=>
 (∃v H',e=.returned v/\R v H'/\Hp ⟨0,[],w0,S,F⟩ H' w')\/∃x,e=.panicked [{v:=pv x,recovered:=false}]/\E x/\Ch S w0 w'
def Cp (P:Program)(pv:Int->Value)(f:FuncId)(vs:List Value)(H:List (Nat×Res))(S:List Nat)(R:Value->List (Nat×Res)->Prop)(E:Int->Prop):Prop:=
 ∀(w:World) (F:Nat->Prop),Hp ⟨0,[],w,S,F⟩ H w->Calls P f vs.toArray w (YP pv w S F R E)
def Cp.enter {P:Program}{pv:Int->Value}{f:FuncId}{fn:Func}{c:Code}{vs:List Value}{H:List (Nat×Res)}{n:Nat}{S:List Nat}{R:Value->List (Nat×Res)->Prop}{E:Int->Prop}(N:P.funcs[f]?=some fn)(O:fn.body=some c)(V:fn.ntmps=n)(W:Nat.ble vs.length n=true)
  (h: ∀w F,AX none P (bodyPost P fn (YP pv w S F R E)) [] c ⟨n,[],w,S,F⟩ (argl vs 0) H):Cp P pv f vs H S R E:=λw F J=>
 Z.enter N O V (Qq W) λa L=>h w F a w L ⟨J.ch,J.hold,J.bnd,J.dis,J.ref⟩
section
variable {r:Option Nat}{P:Program}{K:List Kx}{l:List (Nat×Value)}{H:List (Nat×Res)}{pv:Int->Value}{E:Int->Prop}
def AX.retp {fn:Func}{w0:World}{S:List Nat}{F:Nat->Prop}{n:Nat}{R:Value->List (Nat×Res)->Prop}(ps:List (Nat×Nat))(v:Value)(hres: ∀a w,Fr a n [] l->Hp ⟨n,[],w0,S,F⟩ H w->(results fn a.tmps).run P w=.ok v w)(O:R v (A.ren H ps))(V:nod (ps.map (·.1))=true:=by rfl)(W:nod (ps.map (·.2))=true:=by rfl):
  AX r P (bodyPost P fn (YP pv w0 S F R E)) K .ret ⟨n,[],w0,S,F⟩ l H:=AX.ret0 λa w L N=>by
 have J:=N.ren ps V W;exact Z.retv L (hres a w L N) (.inl ⟨v,_,rfl,O,⟨J.ch,J.hold,J.bnd,J.dis,J.ref⟩⟩)
def AE.retp {fn:Func}{w0:World}{S:List Nat}{F:Nat->Prop}{n:Nat}{R:Value->List (Nat×Res)->Prop}(ps:List (Nat×Nat))(v:Value)(hres: ∀a w,Fr a n [] l->Hp ⟨n,[],w0,S,F⟩ H w->(results fn a.tmps).run P w=.ok v w)(O:R v (A.ren H ps))(V:nod (ps.map (·.1))=true:=by rfl)(W:nod (ps.map (·.2))=true:=by rfl):
  AE r P (bodyPost P fn (YP pv w0 S F R E)) [] .normal ⟨n,[],w0,S,F⟩ l H:=λa w L N=>by
 have J:=N.ren ps V W;exact Z.endv L (hres a w L N) (.inl ⟨v,_,rfl,O,⟨J.ch,J.hold,J.bnd,J.dis,J.ref⟩⟩)
def PQ (Q:Exit->Act->World->Prop)(pv:Int->Value)(C:Cx)(E:Int->Prop):Prop:=∀x a w,a.defers=C.ds->E x->Ch C.S C.w0 w->Q (.panic [{v:=pv x,recovered:=false}]) a w
def kont_pan {Y:Exit->Act->World->Prop}{a:Act}{w:World}{c:List PanicEntry}: ∀{K:List Kx},Y (.panic c) a w->kont r P Y K (.panic c) a w
 | [],h=>h
 | .b _::K,h=>kont_pan (K:=K) h
 | .c _::K,h=>kont_pan (K:=K) h
 | .m _::K,h=>kont_pan (K:=K) h
 | .s::K,h=>kont_pan (K:=K) h
def pq_kont {fn:Func}{w0:World}{S:List Nat}{F:Nat->Prop}{n:Nat}{R:Value->List (Nat×Res)->Prop}:PQ (kont r P (bodyPost P fn (YP pv w0 S F R E)) K) pv ⟨n,[],w0,S,F⟩ E:=λx a w J L N=>
 kont_pan ⟨J,.inr ⟨x,rfl,L,N⟩⟩
end
def hp_pan {C:Cx}{H:List (Nat×Res)}{w w':World}{ms:List (Nat×Nat)}{js:List Nat}(J:Hp C H w)(L:Ch (blks H ms) w w')(N:hng (ms.map (·.2)) js H=true):Hp C (kld js H (ms.map (·.2))) w':=by
 have O:Hp ⟨0,[],w,blks H ms,Fh C H⟩ [] w':=⟨L,λk r h=>(by cases h),λk b ⟨r,h,_⟩=>(by cases h),λk k' b ⟨r,h,_⟩=>(by cases h),λk r j h=>by cases h⟩;exact(J.back (n:=0) O rfl rfl).ext (hk_kld N)
section
variable {r:Option Nat}{P:Program}{ops:Array Oper}{Q:Exit->Act->World->Prop}{rest:List Oper}{C:Cx}{l:List (Nat×Value)}{H:List (Nat×Res)}{d:Nat}{T:TypeId}{pos:String}{af:Array Edge}{pv:Int->Value}
def AL.callP (n:Nat)(js:List Nat){f:FuncId}{c:Operand}{xs:List Operand}{vs vs' first cap:List Value}{ts:Array TypeId}{H0:List (Nat×Res)}{ms:List (Nat×Nat)}{ls:List Nat}{S:List Nat}{R:Value->List (Nat×Res)->Prop}{E:Int->Prop}
  (L: ∀args w,(callFunc f args).run P w=.ok (.enter f args) w) (N:Cp P pv f vs' H0 S R E) (hs:Sub H H0 ms ls)
  (hp: ∀x,E x->∀a w,Fr a C.n C.ds l->Hp C (kld js H (ms.map (·.2))) w->Q (.panic [{v:=pv x,recovered:=false}]) a w)
  (h: ∀v H',R v H'->(outs H'&&frs n H H')=true/\AL r P ops Q rest C ((d,v)::l) (hcat (sft n H') (kld js H (ms.map (·.2)))))
  (hc:ev l c=some (.func (.func f) first.toArray cap.toArray):=by rfl) (hx:evs l xs=some vs:=by rfl) (hv:first++vs++cap=vs':=by rfl) (hS:blks H ms=S:=by rfl) (h1:nod (H0.map (·.1))=true:=by rfl) (h2:nod (ms.map (·.2))=true:=by rfl) (h3:ls.all (λk=> !(ms.map (·.2)).any (Nat.beq k))=true:=by rfl) (hd:Nat.ble (d+1) C.n=true:=by rfl) (hj:hng (ms.map (·.2)) js H=true:=by kernel_rfl):
  AL r P ops Q (⟨some d,.call {callee:=.value c,args:=xs.toArray,argTypes:=ts},T,pos,af,none⟩::rest) C l H:=λa w O V=>by
 subst hS;subst hv;refine Z.call O hd (r_callv L O (first:=first) (cap:=cap) (vs:=vs) (xs:=xs) hc hx) (N w (Fh C H) (hs.hp V h1 h2 h3)) λe w' J=>?_;rcases J with⟨v,H',J,hR,hh'⟩|⟨x,J,hE,W⟩
 refine .inl ⟨v,J,λa' hf'=>?_⟩;obtain⟨h4,h5⟩:=h v H' hR;rw[Qp]at h4;exact h5 a' w' hf' ((V.back hh' h4.1 h4.2).ext (Qfl (hk_kld hj)));exact .inr ⟨_,J,hp x hE a w' O (hp_pan V W hj)⟩
def AL.callp (n:Nat)(js:List Nat){f:FuncId}{c:Operand}{xs:List Operand}{vs vs' first cap:List Value}{ts:Array TypeId}{H0:List (Nat×Res)}{ms:List (Nat×Nat)}{ls:List Nat}{S:List Nat}{R:Value->List (Nat×Res)->Prop}{E E':Int->Prop}
  (J: ∀args w,(callFunc f args).run P w=.ok (.enter f args) w) (L:Cp P pv f vs' H0 S R E) (O:Sub H H0 ms ls) (hq:PQ Q pv C E') (V: ∀x,E x->E' x)
  (h: ∀v H',R v H'->(outs H'&&frs n H H')=true/\AL r P ops Q rest C ((d,v)::l) (hcat (sft n H') (kld js H (ms.map (·.2)))))
  (W:ev l c=some (.func (.func f) first.toArray cap.toArray):=by rfl) (N:evs l xs=some vs:=by rfl) (hv:first++vs++cap=vs':=by rfl) (hS:blks H ms=S:=by rfl) (h1:nod (H0.map (·.1))=true:=by rfl) (h2:nod (ms.map (·.2))=true:=by rfl) (h3:ls.all (λk=> !(ms.map (·.2)).any (Nat.beq k))=true:=by rfl) (hd:Nat.ble (d+1) C.n=true:=by rfl) (hj:hng (ms.map (·.2)) js H=true:=by kernel_rfl):
  AL r P ops Q (⟨some d,.call {callee:=.value c,args:=xs.toArray,argTypes:=ts},T,pos,af,none⟩::rest) C l H:=
 AL.callP n js J L O (λx N a w hf hh=>hq x a w hf.defs (V x N) hh.ch) h W N hv hS h1 h2 h3 hd hj
def AL.pan {E:Int->Prop}{dd:Option Tmp}{x:Operand}{e:Int}{t:TypeId}{u:Value}(hq:PQ Q pv C E)(L:E e)(N:ev l x=some (pv e):=by rfl)(O:pv e=.iface t u:=by rfl):
  AL r P ops Q (⟨dd,.panic x,T,pos,af,none⟩::rest) C l H:=λa w J V=>by
 refine wpListIn_plain rfl λK hK=>⟨λ_ _=>trivial,?_⟩;have W:(Oper.semAt (FW r).round a.eval ⟨dd,.panic x,T,pos,af,none⟩)=execOp a.eval ⟨dd,.panic x,T,pos,af,none⟩:=Oper.semAt_eq _ _ _ (λc h=>by cases h);have h1:(execOp a.eval ⟨dd,.panic x,T,pos,af,none⟩).run P w=.halt (.panic (pv e)) w:=by
  simp[execOp,J.eval N,O,run_panic_iface]
 rw[W,h1];exact hq e a w J.defs L V.ch
end
section
variable {C:Cx}{l:List (Nat×Value)}{H:List (Nat×Res)}{X:Act->World->Prop}
end
section
variable {r:Option Nat}{P:Program}{ops:Array Oper}{Q:Exit->Act->World->Prop}{rest lst:List Oper}{C:Cx}{l:List (Nat×Value)}{H:List (Nat×Res)}{d:Nat}{T:TypeId}{pos:String}{af:Array Edge}
end
def mk_le {xs:List UInt8}(h:xs.length<=maxLen):(ByteArray.mk xs.toArray).size<=maxLen:=by simpa[ByteArray.size] using h
def b8 (x:Int):UInt8:=UInt8.ofNat (x%256).toNat
def b8_wrap (x:Int):IntKind.u8.wrap x=((b8 x).toNat:Int):=by
 have N:=Int.emod_nonneg x (show(256:Int)≠0 by decide);have O:=Int.emod_lt_of_pos x (show(0:Int)<256 by decide);have J:IntKind.u8.wrap x=x%256:=by simp[IntKind.wrap,IntKind.bits,IntKind.signed]
 have L:(b8 x).toNat=(x%256).toNat:=by
  unfold b8;rw[UInt8.toNat_ofNat'];omega
 rw[J,L];omega
def Fz (fz:Nat×Nat)(n:Nat):Prop:=∀j,j<n->¬(fz.1<=j/\j<fz.2)
def Bs (e:TypeId)(c:Nat)(xs:List UInt8):Obj->Prop:=λo=>∃(cur:Array Value) (fz:Nat×Nat),o=.cells cur e fz/\Fz fz c/\cur.size=c/\c<=maxLen/\xs.length<=c/\∀(j:Nat) (b:UInt8),xs[j]?=some b->cur[j]?=some (.int .u8 (b.toNat:Int))
section
variable {r:Option Nat}{P:Program}{ops:Array Oper}{Q:Exit->Act->World->Prop}{rest:List Oper}{C:Cx}{l:List (Nat×Value)}{H:List (Nat×Res)}{d:Nat}{T:TypeId}{pos:String}{af:Array Edge}
def AL.cvt {src dst e:TypeId}{x:Operand}{A:Option Addr}{c n:Nat}{xs:List UInt8}{kp':(Nat->Prop)->Prop}(hrow: ∀w,Hp C H w->∃G:Nat->Prop,Row .byte w (Fh C H) G A c xs/\kp' G)(hlen:n=xs.length)(h:AL r P ops Q rest C ((d,.string ⟨xs.toArray⟩)::l) H)
  (L:ev l x=some (.slice A n c):=by rfl) (N:P.underlying src=some (.slice e):=by rfl) (O:P.underlying e=some (.int .u8):=by rfl) (V:P.underlying dst=some .string:=by rfl) (hd:Nat.ble (d+1) C.n=true:=by rfl):
  AL r P ops Q (⟨some d,.convert src dst x,T,pos,af,none⟩::rest) C l H:=λa w J W=>by
 subst hlen;obtain⟨G,hR,_⟩:=hrow w W;refine Z.val J hd ?_ λa' hf'=>h a' w hf' W;obtain⟨cells,p1,p2,p3,p4⟩:=hR.cells;rcases p3 with h0|⟨ad,rfl,hcell⟩
 have:xs=[]:=Qz h0;subst this;have hl:(execOp a.eval ⟨some d,.convert src dst x,T,pos,af,none⟩).run P w=.ok (.value (.string ⟨([]:List UInt8).toArray⟩)) w:=by
  have hrep:(Ty.slice .byte).rep w no [.slice A 0 c] []:=⟨A,c,[],rfl,X7 _,hR.2.1,rfl,.inl rfl,λi x h=>by simp at h⟩;exact r_b2s N O V (J.eval L) hrep
 exact hl;have:=run_convert_bytes_back (P:=P) w src dst e ad c xs N O V λj hj=>by
  refine hcell j _ ?_;have h4:=p4 j _ (Qf hj);have h5:(cells.drop (j*1)).take 1=[.int .u8 (xs[j].toNat:Int)]:=h4;rw[Yd]at h5;have h6:((cells.drop j).take 1)[0]?=some (.int .u8 (xs[j].toNat:Int)):=by rw[h5];rfl
  rwa[Q2 (by omega),Wl,Ja]at h6
 simp[execOp,J.eval L,this]
end
end Go.A
end
section
namespace Go.A
open Go.RowKit Go.Z Go.Shelf Go.Proofs
def Hem.bh {r:Option Nat}{P:Program}{ops:Array Oper}{Q:Exit->Act->World->Prop}{S S':World->Prop}{m m':Nat}: ∀(f:Nat) (li:Array Bool) (a:Act) (w:World),gn ops li m=true->Hem r P ops Q S' m' f li a w->Hem r P ops Q S m f li a w
 |0,_,_,_,_,h=>h
 |f+1,li,a,w,J,h=>⟨h.1,λi N=>wpOpIn_mono (λa' w' h'=>by
   have hg':gn ops (li.setIfInBounds i true) m=true:=by
    cases hq:gn ops (li.setIfInBounds i true) m with
    |true=>rfl
    |false=>rw[Qfr hq]at J;cases J
   exact⟨λL=>(by rw[hg']at L;cases L),Hem.bh f _ a' w' hg' h'.2⟩) (h.2 i N)⟩
def AH.bh {r:Option Nat}{P:Program}{ops:Array Oper}{Q:Exit->Act->World->Prop}{Hq:List (Nat×Res)}{m f:Nat}{li:List Bool}{C:Cx}{l:List (Nat×Value)}{H:List (Nat×Res)}(m':Nat)(h:AH r P ops Q [] m' f li C l H)(J:gn ops li.toArray m=true:=by kernel_rfl):AH r P ops Q Hq m f li C l H:=λa w L N=>
 Hem.bh _ _ a w J (h a w L N)
section
variable {r:Option Nat}{P:Program}{Q:Exit->Act->World->Prop}{C:Cx}{l:List (Nat×Value)}{H:List (Nat×Res)}{ops:Array Oper}{rest:List Oper}{T:TypeId}{pos:String}{af:Array Edge}{d:Nat}
end
end Go.A
end
section
namespace Go.Z
open Go.RowKit Go.Lib
section
variable {P:Program}{a:Act}{w:World}{d:Option Tmp}{T:TypeId}{pos:String}{af:Array Edge}{gd:Option (Nat×Bool)}
end
end Go.Z
namespace Go.A
open Go.RowKit Go.Z
section
variable {r:Option Nat}{P:Program}{ops:Array Oper}{Q:Exit->Act->World->Prop}{rest lst:List Oper}{C:Cx}{l:List (Nat×Value)}{H:List (Nat×Res)}{d:Nat}{T:TypeId}{pos:String}{af:Array Edge}
end
section
variable {C:Cx}{l:List (Nat×Value)}{H:List (Nat×Res)}{P:Program}
def cutpl {X:Act->World->Prop}(k kn:Nat){t:Ty}{A:Option Addr}{c:Nat}{xs:List t.den}(u:Nat)(V:u<=xs.length)
  (h: ∀A' c',A'=cutA A c u t.size->c'=c-u->∀a w,Fr a C.n C.ds l->Hp C ((kn,.sh (.slice t) [.slice A' (xs.drop u).length c'] (xs.drop u))::H) w->X a w)
  (L:hk H k=some (.sh (.slice t) [.slice A xs.length c] xs):=by rfl) (W:hk H kn=none:=by kernel_rfl): ∀a w,Fr a C.n C.ds l->Hp C H w->X a w:=λa w hf N=>by
 have O:(Ty.slice t).rep w (Fh C H) [.slice A xs.length c] xs:=N.hold k _ L;have hlen:=rep_slice_len O;have hlen2:(xs.drop u).length=xs.length-u:=by rw[Qu]
 have J:(Ty.slice t).rep w (Fh C H) [.slice (cutA A c u t.size) (xs.length-u) (c-u)] (xs.drop u):=by
  refine rep_drop O V (by omega) (by omega) λhlt ad hA=>?_;unfold cutA;rw[Qb (by omega),hA];rfl
 rw[<-hlen2]at J;exact h _ _ rfl rfl a w hf (N.add W rfl (λj hj=>by cases hj) (Qaf _ J))
def r_cutl (k:Nat){a:Act}{w:World}{t:Ty}{tt e:TypeId}{x lo:Operand}{A A':Option Addr}{c c':Nat}{xs:List t.den}{k1:IntKind}{p:Int}{u:Nat}{d:Option Tmp}{T:TypeId}{pos:String}{af:Array Edge}{gd:Option (Nat×Bool)}(L:Fr a C.n C.ds l)(hh:Hp C H w)
  (hp:p=(u:Int)) (N:u<=xs.length) (O:A'=cutA A c u t.size) (V:c'=c-u)
  (W:hk H k=some (.sh (.slice t) [.slice A xs.length c] xs):=by rfl) (hx:ev l x=some (.slice A xs.length c):=by rfl) (J:ev l lo=some (.int k1 p):=by rfl) (hS:szB P e=some t.size:=by kernel_rfl)
  (ht:P.underlying tt=some (.slice e):=by rfl):(execOp a.eval ⟨d,.slice tt x (some lo) none none,T,pos,af,gd⟩).run P w=.ok (.value (.slice A' (xs.drop u).length c')) w:=by
 subst O;subst V;rw[Qu];exact r_slice_l ht (Qah hS) (L.eval hx) (L.eval J) hp N
end
end Go.A
end
section
set_option linter.tactic.unusedName false
namespace Go.Dr
open Go
def R {α:Type}(n:Nat):Result α->Prop
 | .ok _ w=>n<=w.drawn
 | .halt _ w=>n<=w.drawn
def ask {α:Type}: ∀(a:Ask α) (w:World),w.drawn<=(w.ask a).2.drawn
 | .done a,w=>Q4 _
 | .ask what range k,w=>by
  unfold World.ask;dsimp only;split;exact ask _ w;exact Wr (Nat.le_succ _) (ask _ {w with drawn:=w.drawn+1})
def sys (w:World)(c:Sys):w.drawn<=(w.sys c).2.drawn:=by
 unfold World.sys;have h:=ask (Kernel.perform c w.os) w;split;exact Q4 _;rename_i e;rw[e]at h;exact h
def EP {ε α:Type}(P:α->Prop)(x:Except ε α):Prop:=∀a,x=.ok a->P a
def eb {ε α β:Type}{P:β->Prop}{x:Except ε α}{f:α->Except ε β}(h: ∀a,EP P (f a)):EP P (x >>= f):=λb J=>by
 cases x with
 |error e=>cases J
 |ok a=>exact h a b J
def et {α:Type}{P:α->Prop}{e:String}:EP P (MonadExcept.throw e:Except String α):=λ_ h=>by cases h
def ep {ε α:Type}{P:α->Prop}{a:α}(h:P a):EP P (pure a:Except ε α):=λb J=>by injection J with J;subst J;exact h
def vs0 (w:World)(p:Program)(at_:Addr)(u:TypeId)(a:Addr)(v:Value)(b:Bool):EP (λr=>r.1.drawn=w.drawn) (w.viewStore p at_ u a v b):=by
 unfold World.viewStore;dsimp only;repeat' first|exact et|exact ep rfl|(refine eb λ_=>?_)|split|dsimp only
def vs {w w':World}{p:Program}{at_:Addr}{u:TypeId}{a:Addr}{v:Value}{b:Bool}{l:List Addr}(h:w.viewStore p at_ u a v b=.ok (w',l)):w'.drawn=w.drawn:=vs0 w p at_ u a v b _ h
def fs {w w':World}{p:Program}{a:Addr}{v:Value}{b:Bool}{l:List Addr}(h:w.farStore p a v b=.ok (w',l)):w'.drawn=w.drawn:=by
 unfold World.farStore at h;split at h;split at h;rename_i e;injection h with h;subst h;exact vs e
 cases h;cases h
def run {α:Type}(p:Program)(n:Nat): ∀(s:Sem α) (w:World),n<=w.drawn->R n (s.run p w):=by
 intro s;induction s with
 |pure a=>intro w h;exact h
 |load m a k J=>
  intro w h;unfold Sem.run;split;exact J _ w h
  (split)
  exact J _ w h;exact h
 |store m a v k J=>
  intro w h;cases v;all_goals
   unfold Sem.run;first|exact h|skip
  all_goals
   split
   (split)
   exact h;exact J _ h
   (split)
   rename_i e;exact J _ (by rw[fs e];exact h);exact h
 |choose q k J=>
  intro w h;unfold Sem.run;split;exact J _ w h;exact J _ _ (Nat.le_succ_of_le h)
 |sys c k J=>intro w h;unfold Sem.run;exact J _ _ (Wr h (sys w c))
 |new o k J=>intro w h;unfold Sem.run;exact J _ _ h
 |shape r k J=>intro w h;unfold Sem.run;exact J _ _ h
 |freeze a n k J=>intro w h;unfold Sem.run;refine J _ ?_;unfold World.freeze;((repeat' split)<;>(exact h))
 |frozen a k J=>intro w h;unfold Sem.run;exact J _ _ h
 |getObj r k J=>intro w h;unfold Sem.run;((repeat' split)<;>(first|exact h|exact J _ _ h))
 |setObj r o k J=>intro w h;unfold Sem.run;((repeat' split)<;>(first|exact h|exact J _ h))
 |program k J=>intro w h;unfold Sem.run;exact J _ _ h
 |mark m k J=>intro w h;unfold Sem.run;exact J _ h
 |halt x=>intro w h;exact h
def runT {α:Type}(p:Program)(n:Nat)(s:Sem α)(w:World)(es:Array Event)(h:n<=w.drawn):R n (s.runT p w es).1:=by
 induction s generalizing w es with
 |pure a=>exact h
 |halt x=>exact h
 |choose q k J=>
  unfold Sem.runT;split;exact J _ w _ h;exact J _ _ _ (Nat.le_succ_of_le h)
 |sys c k J=>unfold Sem.runT;exact J _ _ _ (Wr h (sys w c))
 |freeze a n k J=>unfold Sem.runT;refine J _ _ ?_;unfold World.freeze;((repeat' split)<;>(exact h))
 |store m a v k J=>
  cases v;all_goals
   unfold Sem.runT;first|exact h|skip
  all_goals
   split
   (split)
   exact h;exact J _ _ h
   (split)
   rename_i e;exact J _ _ (by rw[fs e];exact h);exact h
 |_=>
  unfold Sem.runT;repeat' split
  all_goals first|exact h|(rename_i J;exact J _ _ _ h)|(rename_i J;exact J _ _ h)|(rename_i J _;exact J _ _ _ h)|(rename_i J _;exact J _ _ h)|(rename_i J _ _;exact J _ _ _ h)|(rename_i J _ _;exact J _ _ h)|(rename_i J _ _ _;exact J _ _ _ h)|(rename_i J _ _ _;exact J _ _ h)|(rename_i J _ _ _ _;exact J _ _ _ h)|(rename_i J _ _ _ _;exact J _ _ h)|(rename_i J _ _ _ _ _;exact J _ _ _ h)|(rename_i J _ _ _ _ _ _;exact J _ _ _ h)
def G (n:Nat):GStep->Prop
 | .go _ w _| .comm _ _ _ _ w _| .spawn _ _ w _| .count _ w _| .timer _ _ w _| .alone _ _ w _| .newcoro _ _ _ w _| .coroswitch _ _ _ w _| .collect _ w _| .watch _ w _=>n<=w.drawn
 | .ended _ _ _=>True
def after {n:Nat}{es:Array Event}{g:GStep}(h:G n g):G n (g.after es):=by cases g<;>exact h
variable {p:Program}{n:Nat}{w:World}
def ro {α:Type}{s:Sem α}{v:α}{w':World}(e:s.run p w=.ok v w')(h:n<=w.drawn):n<=w'.drawn:=by have:=run p n s w h;rw[e]at this;exact this
def rh {α:Type}{s:Sem α}{v:Halt}{w':World}(e:s.run p w=.halt v w')(h:n<=w.drawn):n<=w'.drawn:=by have:=run p n s w h;rw[e]at this;exact this
def gi {c:Prop}[Decidable c]{a b:GStep}(J:G n a)(L:G n b):G n (if c then a else b):=by split<;>assumption
def rto {α:Type}{s:Sem α}{v:α}{w':World}{es es':Array Event}(e:s.runT p w es=(.ok v w',es'))(h:n<=w.drawn):n<=w'.drawn:=by have:=runT p n s w es h;rw[e]at this;exact this
def rtr {α:Type}{s:Sem α}{r:Result α}{es es':Array Event}(e:s.runT p w es=(r,es'))(h:n<=w.drawn):R n r:=by have:=runT p n s w es h;rw[e]at this;exact this
def rth {α:Type}{s:Sem α}{v:Halt}{w':World}{es es':Array Event}(e:s.runT p w es=(.halt v w',es'))(h:n<=w.drawn):n<=w'.drawn:=by have:=runT p n s w es h;rw[e]at this;exact this
def endThrow (fr:Frame)(m:String)(h:n<=w.drawn):G n (Go.endThrow fr m w):=h
def endPrinting (fr:Frame)(v:Value)(h:n<=w.drawn):G n (Go.endPrinting p fr v w):=by
 unfold Go.endPrinting;dsimp only;split;exact h;trivial
def endWith (fd:Nat)(t:ByteArray)(o:Outcome):G n (Go.endWith w fd t o):=by
 unfold Go.endWith;dsimp only;((repeat' split)<;>(trivial))
def endFatal (fr:Frame)(cs:List Frame)(d:Option Dying)(m:String)(h:n<=w.drawn):G n (Go.endFatal p fr cs d m w):=by
 unfold Go.endFatal;extract_lets;split;rename_i e;exact ro e h;trivial;trivial
def writeOn (fr:Frame)(d:Dying)(f:Fatal)(h:n<=w.drawn):G n (Go.writeOn p fr d f w):=by
 unfold Go.writeOn;extract_lets;split;trivial
 ·extract_lets
  split;all_goals first|trivial|(rename_i e;exact rto e h)|(rename_i e;exact rth e h)
def die (fr:Frame)(d:Dying)(h:n<=w.drawn):G n (Go.die p fr d w):=by
 unfold Go.die;split;exact writeOn _ _ _ h
 ·(split)
  (split)
  exact h;exact endWith _ _ _
  ·extract_lets d2
   split;exact h
   (split)
   rename_i e;exact ro e h;trivial
   ·rename_i t recv name _
    have J:=runT p n (invoke (.fn (.method name) #[]) #[.iface t recv]) w #[] h;split;rename_i r es e;rw[e]at J;refine after ?_;split;all_goals first|trivial|exact J|exact endPrinting _ _ J
   trivial
def doReturn (main:Bool)(fr:Frame)(cs:List Frame)(d:Option Dying)(v:Value)(h:n<=w.drawn):G n (Go.doReturn p main fr cs d v w):=by
 unfold Go.doReturn;repeat' split
 all_goals first|trivial|exact h
def callDeferred (fr:Frame)(cs:List Frame)(dy:Option Dying)(d:Deferred)(h:n<=w.drawn):G n (Go.callDeferred p fr cs dy d w):=by
 unfold Go.callDeferred;refine gi trivial ?_
 ·have J:=runT p n (invoke d.target d.args) w #[] h
  split;rename_i r es e;rw[e]at J;extract_lets;refine after ?_;split;all_goals first|trivial|exact J|exact endFatal _ _ _ _ J|exact endThrow _ _ J|(split<;>first|trivial|exact J)
def unwind (main:Bool)(fr:Frame)(cs:List Frame)(dy:Option Dying)(h:n<=w.drawn):G n (Go.unwind p main fr cs dy w):=by
 unfold Go.unwind;split;rename_i block _ _ _;have J:=runT p n (Instr.takeDeferred block) w #[] h;split;rename_i r es e;rw[e]at J;refine after ?_;split;exact J;trivial;exact callDeferred _ _ _ _ h
 (split)
 trivial
 (split)
 trivial
 (split)
 exact h
 (split)
 (split)
 exact h
 (split)
 rename_i e;exact ro e h;trivial;trivial
 (split)
 exact endPrinting _ _ h;trivial
 (split)
 exact doReturn _ _ _ _ _ h;rename_i fn _;have J:=runT p n (results fn fr.tmps) w #[] h;split;rename_i r es e;rw[e]at J;refine after ?_;split;exact doReturn _ _ _ _ _ J;trivial;trivial
def early (fr:Frame)(cs:List Frame)(dy:Option Dying)(g:Nat)(h:n<=w.drawn):G n (Go.early p fr cs dy g w):=by
 unfold Go.early;extract_lets refuse notYet;have L: ∀w:World,n<=w.drawn->G n (notYet w):=λw h=>by
  show G n (match w.heap[g]? with|some (.pending c elem)=>_|_=>_);split;exact h;trivial
 split;exact L w h
 ·(split)
  trivial
  ·extract_lets there
   have J: ∀w:World,n<=w.drawn->G n (there w):=λw h=>h;repeat' split
   all_goals first|trivial|exact L w h|exact J w h|(rename_i e;exact L _ (ro e h))|(rename_i e;exact J _ (ro e h))|(rename_i e _;exact J _ (ro e h))|(rename_i _ e;exact J _ (ro e h))
def oe {α:Type}{o:Option α}{a:GStep}{f:α->GStep}(J:G n a)(L: ∀x,G n (f x)):G n (o.elim a f):=by cases o with
 |none=>exact J
 |some x=>exact L x
def app (listen:Bool)(fr:Frame)(cs:List Frame)(dy:Option Dying)(s:Sem Next)(h:n<=w.drawn):G n (Go.stepG.apply p listen fr cs dy s w):=by
 unfold Go.stepG.apply;extract_lets;have J:R n (if listen=true then s.runT p w #[]else(s.run p w,#[])).1:=by
  split;exact runT p n s w #[] h;exact run p n s w h
 split;rename_i r es e;rw[e]at J;extract_lets;refine after ?_;split;all_goals first|trivial|exact J|exact endFatal _ _ _ _ J|exact endThrow _ _ J|exact early _ _ _ _ J|(split<;>first|trivial|exact J|(exact gi (endThrow _ _ J) J))|exact gi (endThrow _ _ J) J
def oper (listen:Bool)(fr:Frame)(cs:List Frame)(dy:Option Dying)(h:n<=w.drawn):G n (Go.stepG.oper p listen fr cs dy w):=by
 unfold Go.stepG.oper;repeat' split
 all_goals first|trivial|exact app _ _ _ _ _ h
def exec (main listen:Bool)(fr:Frame)(cs:List Frame)(dy:Option Dying)(h:n<=w.drawn):G n (Go.stepG.exec p main listen fr cs dy w):=by
 unfold Go.stepG.exec;extract_lets go tgo lost leave;have N: ∀fr w,n<=w.drawn->G n (go fr w):=λ_ _ h=>h;have J: ∀k,G n (tgo k):=λk=>h;have hlost: ∀k,G n (lost k):=λk=>trivial;have hleave: ∀j,G n (leave j):=λj=>by
  unfold leave;split;refine gi h trivial
  (split)
  rename_i r es e;have L:=rtr e h;refine after ?_;split;exact doReturn _ _ _ _ _ L;trivial
 split;case h_1=>exact hleave none
 case h_2=>exact hleave (some .ret)
 case h_13=>exact oe (hleave (some (.exit _))) J
 case h_14=>exact oe (hleave (some (.goto _))) J
 all_goals first
  |exact J _|trivial|exact app _ _ _ _ _ h|exact hlost _
  |(split<;>first|exact J _|exact hlost _)
  |(refine gi (J _) ?_;split<;>first|trivial|(rename_i e;exact ro e h))
  |(refine gi (oper _ _ _ _ h) ?_;exact h)
  |exact oe (hlost _) λ_=>app _ _ _ _ _ h
  |(split;rename_i r es e;have L:=rtr e h;refine after ?_;split<;>first|trivial|exact L|exact app _ _ _ _ _ L)
def stepG (main listen:Bool)(g:Goroutine)(h:n<=w.drawn):G n (Go.stepG p main g w listen):=by
 unfold Go.stepG;split;split;exact die _ _ h;exact exec _ _ _ _ _ h;exact unwind _ _ _ _ h
def S (n:Nat):Stepped->Prop
 | .next m=>n<=m.world.drawn
 | .ended _ _=>True
def si {c:Prop}[Decidable c]{a b:Stepped}(J:S n a)(L:S n b):S n (if c then a else b):=by split<;>assumption
def si1 {α:Type}{c:Prop}[Decidable c]{a b:Stepped×α}(J:S n a.1)(L:S n b.1):S n (if c then a else b).1:=by split<;>assumption
def waitingAt {rest:Rest}{cs:Array CommCase}{w w':World}(h:Go.waitingAt rest cs w=some w'):w'.drawn=w.drawn:=by
 unfold Go.waitingAt at h;split at h;split at h;injection h with h;subst h;rfl
 cases h;injection h with h;subst h;rfl
def comm (rest:Rest)(gs:Array Goroutine)(i:Nat)(g:Goroutine)(cases:Array CommCase)(b:Bool)(sh:CommShape)(h:n<=w.drawn):S n (communicate p rest gs i g cases b sh w).1:=by
 unfold communicate;extract_lets put;refine si1 trivial ?_;extract_lets ready;refine si1 ?_ ?_;refine si1 ?_ h;split;rename_i e;show n<=World.drawn _;rw[waitingAt e];exact h;trivial;extract_lets pick;split;trivial;rename_i e;have J:=ro e h;extract_lets r;split
 (split)
 rename_i L;exact rh L J;trivial;exact J;exact J;extract_lets v buf;split;exact J
 (split)
 rename_i N;have O:=ro N J;exact O;trivial;exact J;exact J;trivial
def look (gs:Array Goroutine)(rest:Rest)(h:n<=w.drawn):S n (Go.look p gs rest w):=by
 unfold Go.look;split
 (split)
 extract_lets;refine si trivial ?_;extract_lets;split;trivial;extract_lets;split;rename_i e;have J:=ro e h;exact J;trivial;trivial;trivial
def drain (w:World)(c:Nat):(Go.drain w c).2.drawn=w.drawn:=by
 unfold Go.drain;split<;>rfl
def retime (m:Machine)(k:Nat)(t:Timer)(a b:Nat):(Go.retime m k t a b).2.world.drawn=m.world.drawn:=by
 unfold Go.retime;split;rename_i e;split at e;rename_i c _;have:=drain m.world c;rw[e]at this;exact this;injection e with _ e;subst e;rfl
def named (m:Machine)(v:Addr)(f:Nat->Timer->Value×Machine){d:Nat}(J: ∀k t,(f k t).2.world.drawn=d){r:Value×Machine}(e:timerOp.named m v f=.ok r):r.2.world.drawn=d:=by
 unfold timerOp.named at e;split at e;injection e with e;subst e;exact J _ _
 cases e
def opened {m m':Machine}{v:Addr}(e:timerOp.opened m v=some m'):m'.world.drawn=m.world.drawn:=by
 unfold timerOp.opened at e;split at e;split at e;injection e with e;subst e;rfl
 cases e;injection e with e;subst e;rfl
def timer (m:Machine)(op:TimerOp){r:Value×Machine}(e:timerOp m op=.ok r):r.2.world.drawn=m.world.drawn:=by
 unfold timerOp at e;split at e;split at e;injection e with e;subst e;rfl
 split at e;split at e;cases e;injection e with e;subst e;rfl
 cases e;exact named _ _ _ (λ_ _=>retime _ _ _ _ _) e;split at e;rename_i L J;exact(named _ _ _ (λ_ _=>retime _ _ _ _ _) e).trans (opened J);cases e;injection e with e;subst e;rfl
def commr {rest:Rest}{gs:Array Goroutine}{i:Nat}{g:Goroutine}{cases:Array CommCase}{b:Bool}{sh:CommShape}{r:Stepped}{ops:Array MemOp}(e:communicate p rest gs i g cases b sh w=(r,ops))(h:n<=w.drawn):S n r:=by have:=comm (p:=p) rest gs i g cases b sh h;rw[e]at this;exact this
def et1 {fr:Frame}{m:String}{g:GStep}(e:Go.endThrow fr m w=g)(h:n<=w.drawn):G n g:=e▸endThrow fr m h
def runM (m:Machine)(i:Nat)(listen:Bool)(h:n<=m.world.drawn):S n (Go.runT p m i listen).1:=by
 unfold Go.runT;extract_lets rest world;split;extract_lets wake fn pos s ops done;have L: ∀r,(done r).1=r:=λ_=>rfl;have J:G n s:=stepG _ _ _ h;clear_value s;split;trivial
 (split)
 rename_i e;exact commr e J;all_goals first|exact J|exact si trivial J|exact look _ _ J|skip
 rw[L];split;exact J
 (split)
 rename_i e;exact et1 e J;trivial;trivial;rw[L];split;rename_i e;have N:=timer _ _ e;exact Wr J (Nat.le_of_eq N.symm)
 (split)
 rename_i e;exact et1 e J;trivial;trivial;trivial
def serve (m:Machine)(k:Nat)(h:n<=m.world.drawn):S n (Go.serve p m k):=by
 unfold Go.serve;split;trivial;exact h;extract_lets;split;trivial;exact h
def M (n:Nat):Move->Prop
 | .goroutine m _=>n<=m.world.drawn
 | .machine s _=>S n s
def askOn (m:Machine)(h:n<=m.world.drawn):M n (Go.askOn p m):=by
 unfold Go.askOn;extract_lets mono rs ds pick;have hp: ∀m:Machine,n<=m.world.drawn->M n (pick m):=λm h=>by
  simp only[pick];split;trivial;rename_i e;have J:=ro e h;split;exact J
  (split)
  trivial;rename_i O;exact ro O J
 clear_value pick;split;trivial;rename_i e;have J:=ro e h;extract_lets V;clear_value rs;split;exact serve _ _ J;cases rs with
 |nil=>
  dsimp only;split;exact J
  (split)
  exact J;split<;>trivial
 |cons a l=>
  dsimp only;split;exact hp _ J
  (split)
  trivial;rename_i L;exact hp _ (ro L J);rename_i L;have N:=ro L J;exact N;rename_i L;have N:=ro L J;exact hp _ N
def ask2 (m:Machine)(h:n<=m.world.drawn):M n (Go.ask p m):=by
 unfold Go.ask;split
 (split)
 trivial;rename_i e;have J:=look (p:=p) m.gs m.rest (ro e h);split;rename_i L;rw[L]at J;exact askOn _ J;exact J;rename_i e;exact askOn _ (ro e h);exact askOn _ h
def move (m:Machine)(h:n<=m.world.drawn):M n (Go.move p m):=by
 unfold Go.move;split
 (split)
 exact h;trivial
 (split)
 (split)
 exact h;exact ask2 _ h;exact ask2 _ h
def step (m:Machine)(h:n<=m.world.drawn):S n (Go.step p m):=by
 unfold Go.step stepT;have:=move (p:=p) m h;split;rename_i e;rw[e]at this;exact runM _ _ _ this;rename_i e;rw[e]at this;exact this
def runN: ∀(k:Nat) (m m':Machine),Go.runN p k m=.next m'->n<=m.world.drawn->n<=m'.world.drawn
 |0,m,m',e,h=>by injection e with e;subst e;exact h
 |k+1,m,m',e,h=>by
  have J:=step (p:=p) m h;unfold Go.runN at e;split at e;rename_i L;rw[L]at J;exact runN k _ _ e J;rename_i N;exact absurd e (N _)
def steps {m m':Machine}(h:Steps p m m'):m.world.drawn<=m'.world.drawn:=by
 obtain⟨k,hk⟩:=h;exact runN k m m' hk (Q4 _)
end Go.Dr
end
section
namespace Go.A
open Go.RowKit Go.Z Go.Shelf Go.Proofs Go.Sort
section
variable {α:Type}
structure OrdOn (lt:α->α->Bool) (X:List α):Prop where
 asym: ∀x∈X,∀y∈X,lt x y=true->lt y x=false
 tri: ∀x∈X,∀y∈X,lt x y=false->lt y x=false->x=y
 trans: ∀x∈X,∀y∈X,∀z∈X,lt x y=true->lt y z=true->lt x z=true
end
end Go.A
end
section
namespace Go.A
open Go.RowKit Go.Z
structure In1 (T t:Ty) where
 get:T.den->List t.den
 set:T.den->List t.den->T.den
 pos:Nat
 hlt:pos<T.size
 hcl: ∀x ys p q,cl T (set x ys) [q]=(cl T x [p]).set pos (.slice q.1 ys.length q.2)
 hgs: ∀x ys,get (set x ys)=ys
 hss: ∀x a b,set (set x a) b=set x b
 hsg: ∀x,set x (get x)=x
 hrep: ∀(w:World) (F:Nat->Prop) x ys p q,T.rep w F (cl T x [p]) x->(Ty.slice t).rep w F [.slice q.1 ys.length q.2] ys->T.rep w F (cl T (set x ys) [q]) (set x ys)
section
variable {T t:Ty}{I:In1 T t}{e ei:TypeId}{A:Option Addr}{c:Nat}{xs:List T.den}{As:Lf}{h:Option Nat}
end
section
variable {C:Cx}{l:List (Nat×Value)}{H:List (Nat×Res)}{X:Act->World->Prop}{T t:Ty}{e ei:TypeId}{A:Option Addr}{c:Nat}{xs:List T.den}{As:Lf}
end
section
variable {r:Option Nat}{P:Program}{ops:Array Oper}{Q:Exit->Act->World->Prop}{rest lst:List Oper}{C:Cx}{l:List (Nat×Value)}{H:List (Nat×Res)}{d:Nat}{T0:TypeId}{pos:String}{af:Array Edge}{T t:Ty}{e ei:TypeId}{A:Option Addr}{c:Nat}{xs ys:List T.den}{As Bs:Lf}
end
section
variable {r:Option Nat}{P:Program}{ops:Array Oper}{Q:Exit->Act->World->Prop}{C:Cx}{l:List (Nat×Value)}{H Hq:List (Nat×Res)}{m f:Nat}{li:List Bool}
end
end Go.A
end
section
namespace Go.Z
open Go.RowKit Go.Lib
section
variable {P:Program}{a:Act}{w:World}{d:Option Tmp}{T:TypeId}{pos:String}{af:Array Edge}{gd:Option (Nat×Bool)}
end
end Go.Z
namespace Go.A
open Go.RowKit Go.Z
section
variable {C:Cx}{H:List (Nat×Res)}{w:World}
end
section
variable {r:Option Nat}{P:Program}{ops:Array Oper}{Q:Exit->Act->World->Prop}{rest lst:List Oper}{C:Cx}{l:List (Nat×Value)}{H:List (Nat×Res)}{d:Nat}{T:TypeId}{pos:String}{af:Array Edge}
end
section
variable {r:Option Nat}{P:Program}{ops:Array Oper}{Q:Exit->Act->World->Prop}{C:Cx}{l:List (Nat×Value)}{H Hq:List (Nat×Res)}{m f:Nat}{li:List Bool}
end
section
variable {r:Option Nat}{P:Program}{ops:Array Oper}{Q:Exit->Act->World->Prop}{rest lst:List Oper}{C:Cx}{l:List (Nat×Value)}{H:List (Nat×Res)}{d:Nat}{T:TypeId}{pos:String}{af:Array Edge}
end
end Go.A
end
section
namespace Go.A
open Go.RowKit Go.Z
def LV (P:Program)(fn:Func)(R:Ending->World->Prop)(u:FrameMode)(C:Cx)(l:List (Nat×Value))(H:List (Nat×Res)):Prop:=∀a w,Fr a C.n C.ds l->Hp C H w->Leaves P fn a.tmps R a.defers u w
def Ct.enterD {P:Program}{f:FuncId}{fn:Func}{c:Code}{vs:List Value}{H:List (Nat×Res)}{n:Nat}{S:List Nat}{R:Value->List (Nat×Res)->Prop}(N:P.funcs[f]?=some fn)(O:fn.body=some c)(V:fn.ntmps=n)(W:Nat.ble vs.length n=true)
  (h: ∀w F,AX none P (bodyPostD P fn λe w'=>∃v H',e=.returned v/\R v H'/\Hp ⟨0,[],w,S,F⟩ H' w') [] c ⟨n,[],w,S,F⟩ (argl vs 0) H):Ct P f vs H S R:=λw F J=>
 Z.enterDf N O V (Qq W) λa L=>h w F a w L ⟨J.ch,J.hold,J.bnd,J.dis,J.ref⟩
section
variable {r:Option Nat}{P:Program}{K:List Kx}{C:Cx}{l:List (Nat×Value)}{H:List (Nat×Res)}{fn:Func}{R:Ending->World->Prop}
def AX.retL (h:LV P fn R .returning C l H):AX r P (bodyPostD P fn R) K .ret C l H:=AX.ret0 λa w J L=>h a w J L
def panL {c:List PanicEntry}(h:LV P fn R (.panicking c) C l H): ∀a w,Fr a C.n C.ds l->Hp C H w->kont r P (bodyPostD P fn R) K (.panic c) a w:=λa w J L=>kont_pan (h a w J L)
end
section
variable {P:Program}{fn:Func}{n:Nat}{ds:List Deferred}{w0:World}{S:List Nat}{F:Nat->Prop}{l:List (Nat×Value)}{H:List (Nat×Res)}{pv:Int->Value}
def LV.nil {R:Value->List (Nat×Res)->Prop}(ps:List (Nat×Nat))(v:Value)(hres: ∀a w,Fr a n [] l->Hp ⟨n,[],w0,S,F⟩ H w->(results fn a.tmps).run P w=.ok v w)(O:R v (A.ren H ps))(V:nod (ps.map (·.1))=true:=by rfl)(W:nod (ps.map (·.2))=true:=by rfl):
  LV P fn (λe w'=>∃v H',e=.returned v/\R v H'/\Hp ⟨0,[],w0,S,F⟩ H' w') .returning ⟨n,[],w0,S,F⟩ l H:=λa w L N=>by
 have J:=N.ren ps V W;rw[show a.defers=[]from L.defs];exact⟨v,hres a w L N,v,_,rfl,O,⟨J.ch,J.hold,J.bnd,J.dis,J.ref⟩⟩
def LV.consC {f:FuncId}{vs cap:List Value}{R:Ending->World->Prop}{u u':FrameMode}(W:u≠ .run)(L: ∀args w,(callFunc f args).run P w=.ok (.enter f args) w)
  (hD: ∀w,Hp ⟨n,ds,w0,S,F⟩ H w->CallsD P f (vs++cap).toArray u w λe V w'=>(∃v,e=.returned v)/\settle V=u'/\∃H',LV P fn R u' ⟨n,ds,w0,S,F⟩ l H'/\Hp ⟨n,ds,w0,S,F⟩ H' w'):
  LV P fn R u ⟨n,{target:=.fn (.func f) cap.toArray,args:=vs.toArray}::ds,w0,S,F⟩ l H:=λa w N J=>by
 rw[show a.defers={target:=.fn (.func f) cap.toArray,args:=vs.toArray}::ds from N.defs];refine leaves_cons W (by simp[invoke,L]) ((hD w ⟨J.ch,J.hold,J.bnd,J.dis,J.ref⟩).mono λe V w' ⟨⟨v,he⟩,O,H',h,hh'⟩=>?_);subst he;subst O;exact h {a with defers:=ds} w' ⟨N.size,rfl,N.get⟩ hh'
def LV.cons {f:FuncId}{vs:List Value}{R:Ending->World->Prop}{u u':FrameMode}{H':List (Nat×Res)}(W:u≠ .run)(L: ∀args w,(callFunc f args).run P w=.ok (.enter f args) w)
  (hD: ∀w,Hp ⟨n,ds,w0,S,F⟩ H w->CallsD P f vs.toArray u w λe V w'=>(∃v,e=.returned v)/\settle V=u'/\Hp ⟨n,ds,w0,S,F⟩ H' w') (h:LV P fn R u' ⟨n,ds,w0,S,F⟩ l H'):
  LV P fn R u ⟨n,{target:=.fn (.func f) #[],args:=vs.toArray}::ds,w0,S,F⟩ l H:=λa w N J=>by
 rw[show a.defers={target:=.fn (.func f) #[],args:=vs.toArray}::ds from N.defs];refine leaves_cons W (by simp[invoke,L]) ((hD w ⟨J.ch,J.hold,J.bnd,J.dis,J.ref⟩).mono λe V w' ⟨⟨v,he⟩,O,hh'⟩=>?_);subst he;subst O;exact h {a with defers:=ds} w' ⟨N.size,rfl,N.get⟩ hh'
def hp_one {w:World}{g:Nat}{T:TypeId}{cs:List Value}{F:Nat->Prop}(N:Blk w g T cs)(L:g<w.heap.size):Hp ⟨0,[],w,[g],F⟩ [(0,.blk g T cs)] w:=by
 have J: ∀k r,hk [(0,.blk g T cs)] k=some r->k=0/\r=.blk g T cs:=λk r h=>by
  rw[Qaa]at h;split at h;rename_i e;injection h with h;exact⟨e.symm,h.symm⟩
  cases h
 refine⟨Ch.refl w |>.mono (by simp),λk r h=>?_,λk b ⟨r,h,O⟩=>?_,λk k' b ⟨r,h,_⟩ ⟨r',h',_⟩=>by rw[(J k r h).1,(J k' r' h').1],λk r j h V=>?_⟩;obtain⟨rfl,rfl⟩:=J k r h;exact N;obtain⟨rfl,rfl⟩:=J k r h;obtain rfl:b=g:=by simpa[Res.bl] using O
 exact⟨.inr (by simp),L⟩;obtain⟨rfl,rfl⟩:=J k r h;cases V
end
def CtD (P:Program)(f:FuncId)(vs:List Value)(H:List (Nat×Res))(S:List Nat)(R:Value->List (Nat×Res)->Prop):Prop:=
 ∀(w:World) (F:Nat->Prop),Hp ⟨0,[],w,S,F⟩ H w->CallsD P f vs.toArray .returning w λe u' w'=>u'=.returning/\∃v H',e=.returned v/\R v H'/\Hp ⟨0,[],w,S,F⟩ H' w'
def CtD.enter {P:Program}{f:FuncId}{fn:Func}{c:Code}{vs:List Value}{H:List (Nat×Res)}{n:Nat}{S:List Nat}{R:Value->List (Nat×Res)->Prop}(L:P.funcs[f]?=some fn)(N:fn.body=some c)(O:fn.ntmps=n)(V:Nat.ble vs.length n=true)
  (h: ∀w F,AX none P (bodyPost P fn λe w'=>∃v H',e=.returned v/\R v H'/\Hp ⟨0,[],w,S,F⟩ H' w') [] c ⟨n,[],w,S,F⟩ (argl vs 0) H):CtD P f vs H S R:=λw F J=>by
 subst O;refine callsD_of_wp L N (wpIn_wide.1 (h w F _ w ?_ ⟨J.ch,J.hold,J.bnd,J.dis,J.ref⟩));exact Fr.entry vs _ (Qq V)
section
variable {P:Program}{fn:Func}{n:Nat}{ds:List Deferred}{w0:World}{S0:List Nat}{F:Nat->Prop}{l:List (Nat×Value)}{H:List (Nat×Res)}
def LV.call (m:Nat)(js:List Nat){f:FuncId}{vs' first cap:List Value}{H0:List (Nat×Res)}{ms:List (Nat×Nat)}{ls:List Nat}{S:List Nat}{R:Ending->World->Prop}{R':Value->List (Nat×Res)->Prop}
  (J: ∀args w,(callFunc f args).run P w=.ok (.enter f args) w) (L:CtD P f vs' H0 S R') (V:Sub H H0 ms ls)
  (h: ∀v H',R' v H'->(outs H'&&frs m H H')=true/\LV P fn R .returning ⟨n,ds,w0,S0,F⟩ l (hcat (sft m H') (kld js H (ms.map (·.2)))))
  (W:first++cap=vs':=by rfl) (hS:blks H ms=S:=by rfl) (h1:nod (H0.map (·.1))=true:=by rfl) (h2:nod (ms.map (·.2))=true:=by rfl) (h3:ls.all (λk=> !(ms.map (·.2)).any (Nat.beq k))=true:=by rfl) (hj:hng (ms.map (·.2)) js H=true:=by kernel_rfl):
  LV P fn R .returning ⟨n,{target:=.fn (.func f) cap.toArray,args:=first.toArray}::ds,w0,S0,F⟩ l H:=by
 subst hS;subst W;refine LV.consC (by simp) J (λw O=>(L w (Fh ⟨n,ds,w0,S0,F⟩ H) (V.hp O h1 h2 h3)).mono λe u2 w' ⟨hu,v,H',he,hr,hh'⟩=>⟨⟨_,he⟩,by subst hu;rfl,?_⟩);obtain⟨N,h5⟩:=h v H' hr;rw[Qp]at N;exact⟨_,h5,(O.back hh' N.1 N.2).ext (Qfl (hk_kld hj))⟩
end
section
variable {r:Option Nat}{P:Program}{ops:Array Oper}{Q:Exit->Act->World->Prop}{rest:List Oper}{C:Cx}{l:List (Nat×Value)}{H:List (Nat×Res)}{d:Option Tmp}{T:TypeId}{pos:String}{af:Array Edge}
def AL.dfr {f:FuncId}{xs:List Operand}{vs:List Value}{ts:Array TypeId}(h:AL none P ops Q rest ⟨C.n,{target:=.fn (.func f) #[],args:=vs.toArray}::C.ds,C.w0,C.S,C.F⟩ l H)(N:evs l xs=some vs:=by rfl):
  AL none P ops Q (⟨none,.defer {callee:=.value (.func f),args:=xs.toArray,argTypes:=ts},T,pos,af,none⟩::rest) C l H:=λa w L J=>
 Z.defer L (Z.r_defer L N) λa' hf'=>h a' w hf' ⟨J.ch,J.hold,J.bnd,J.dis,J.ref⟩
def AL.dfrC {f:FuncId}{c:Operand}{xs:List Operand}{vs first cap:List Value}{ts:Array TypeId}(h:AL none P ops Q rest ⟨C.n,{target:=.fn (.func f) cap.toArray,args:=(first++vs).toArray}::C.ds,C.w0,C.S,C.F⟩ l H)(N:ev l c=some (.func (.func f) first.toArray cap.toArray):=by rfl)(O:evs l xs=some vs:=by rfl):
  AL none P ops Q (⟨none,.defer {callee:=.value c,args:=xs.toArray,argTypes:=ts},T,pos,af,none⟩::rest) C l H:=λa w L J=>by
 refine Z.defer L (dd:={target:=.fn (.func f) cap.toArray,args:=(first++vs).toArray}) ?_ λa' hf'=>h a' w hf' ⟨J.ch,J.hold,J.bnd,J.dis,J.ref⟩;have V:=L.evals xs O;have W:=L.eval N;simp only[execOp,resolve,V,W];simp[Deferred.ofValue]
end
def CtN (P:Program)(f:FuncId)(vs:List Value)(H:List (Nat×Res))(S:List Nat)(R:Value->List (Nat×Res)->Prop):Prop:=
 ∀(w:World) (F:Nat->Prop),Hp ⟨0,[],w,S,F⟩ H w->CallsD P f vs.toArray .returning w λe u' w'=>u'=.returning/\∃v H',e=.returned v/\R v H'/\Hp ⟨0,[],w,S,F⟩ H' w'
def CtR (P:Program)(pv:Int->Value)(x:Int)(f:FuncId)(vs:List Value)(H:List (Nat×Res))(S:List Nat)(R:Value->List (Nat×Res)->Prop):Prop:=
 ∀(w:World) (F:Nat->Prop),Hp ⟨0,[],w,S,F⟩ H w->CallsD P f vs.toArray (.panicking [{v:=pv x,recovered:=false}]) w λe u' w'=>u'=.panicking [{v:=pv x,recovered:=true}]/\∃v H',e=.returned v/\R v H'/\Hp ⟨0,[],w,S,F⟩ H' w'
section
variable {P:Program}{pv:Int->Value}{x:Int}{f:FuncId}{fn:Func}{c:Code}{vs:List Value}{H:List (Nat×Res)}{m id d:Nat}{T:TypeId}{pos:String}{af:Array Edge}{S:List Nat}{R:Value->List (Nat×Res)->Prop}
def CtN.enter (N:P.funcs[f]?=some fn)(O:fn.body=some (Code.seq (.region id #[⟨some d,.call {callee:=.builtin .recover,args:=#[],argTypes:=#[]},T,pos,af,none⟩] false) c))(V:fn.ntmps=m)(W:Nat.ble vs.length m=true)(hd:Nat.ble (d+1) m=true)
  (h: ∀w F,AX none P (bodyPost P fn λe w'=>∃v H',e=.returned v/\R v H'/\Hp ⟨0,[],w,S,F⟩ H' w') [] c ⟨m,[],w,S,F⟩ ((d,.nilIface)::argl vs 0) H):CtN P f vs H S R:=λw F J=>
 Z.enterRec (Or.inl ⟨rfl,rfl,rfl⟩) N O V (Qq W) hd λa L=>h w F a w L ⟨J.ch,J.hold,J.bnd,J.dis,J.ref⟩
def CtR.enter (N:P.funcs[f]?=some fn)(O:fn.body=some (Code.seq (.region id #[⟨some d,.call {callee:=.builtin .recover,args:=#[],argTypes:=#[]},T,pos,af,none⟩] false) c))(V:fn.ntmps=m)(W:Nat.ble vs.length m=true)(hd:Nat.ble (d+1) m=true)
  (h: ∀w F,AX none P (bodyPost P fn λe w'=>∃v H',e=.returned v/\R v H'/\Hp ⟨0,[],w,S,F⟩ H' w') [] c ⟨m,[],w,S,F⟩ ((d,pv x)::argl vs 0) H):CtR P pv x f vs H S R:=λw F J=>
 Z.enterRec (Or.inr ⟨[],rfl,rfl⟩) N O V (Qq W) hd λa L=>h w F a w L ⟨J.ch,J.hold,J.bnd,J.dis,J.ref⟩
end
section
variable {P:Program}{fn:Func}{n:Nat}{ds:List Deferred}{w0:World}{S0:List Nat}{F:Nat->Prop}{l:List (Nat×Value)}{H:List (Nat×Res)}{pv:Int->Value}
def LV.n0 {f:FuncId}{g:Nat}{R:Ending->World->Prop}{T:TypeId}{L:Int}{kd:IntKind}(k:Nat)(N: ∀args w,(callFunc f args).run P w=.ok (.enter f args) w)
  (O: ∀(g:Nat) (a0:Int),kd.has a0->CtN P f [.pointer (some ⟨g,0,none⟩)] [(0,.blk g T [.int kd a0])] [g] λv H'=>v=.tuple #[]/\H'=[(0,.blk g T [.int kd a0])]) (he:kd.has L) (h:LV P fn R .returning ⟨n,ds,w0,S0,F⟩ l ((k,.blk g T [.int kd L])::ded [] H))
  (J:hk H k=some (.blk g T [.int kd L]):=by rfl) (V:hng [k] [] H=true:=by kernel_rfl):LV P fn R .returning ⟨n,{target:=.fn (.func f) #[],args:=#[.pointer (some ⟨g,0,none⟩)]}::ds,w0,S0,F⟩ l H:=
 LV.cons (vs:=[.pointer (some ⟨g,0,none⟩)]) (by simp) N (λw W=>by
  have hB:Blk w g T [.int kd L]:=W.hold k _ J;have hlt:=(W.bnd k g ⟨_,J,by simp[Res.bl]⟩).2;refine(O g L he w (λ_=>False) (hp_one hB hlt)).mono λe u2 w' ⟨h1,v,H',h2,⟨_,h3⟩,hh'⟩=>⟨⟨_,h2⟩,by subst h1;rfl,?_⟩;subst h3;exact Hp.dd (W.upd (S:=[g]) hh'.ch (λb hb=>⟨_,J,by simpa[Res.bl] using hb⟩) (λb hb=>.inl ⟨_,J,hb⟩) (λj V=>by cases V) λ_ _ _ _ _ _ _=>hh'.hold 0 _ rfl) V) h
def LV.n1 {f:FuncId}{g:Nat}{R:Ending->World->Prop}{T:TypeId}{L x:Int}{kd:IntKind}(k:Nat)(N: ∀args w,(callFunc f args).run P w=.ok (.enter f args) w)
  (O: ∀(g:Nat) (a0 x:Int),kd.has a0->CtR P pv x f [.pointer (some ⟨g,0,none⟩)] [(0,.blk g T [.int kd a0])] [g] λv H'=>v=.tuple #[]/\H'=[(0,.blk g T [.int kd x])]) (he:kd.has L) (h:LV P fn R .returning ⟨n,ds,w0,S0,F⟩ l ((k,.blk g T [.int kd x])::ded [] H))
  (J:hk H k=some (.blk g T [.int kd L]):=by rfl) (V:hng [k] [] H=true:=by kernel_rfl):LV P fn R (.panicking [{v:=pv x,recovered:=false}]) ⟨n,{target:=.fn (.func f) #[],args:=#[.pointer (some ⟨g,0,none⟩)]}::ds,w0,S0,F⟩ l H:=
 LV.cons (vs:=[.pointer (some ⟨g,0,none⟩)]) (by simp) N (λw W=>by
  have hB:Blk w g T [.int kd L]:=W.hold k _ J;have hlt:=(W.bnd k g ⟨_,J,by simp[Res.bl]⟩).2;refine(O g L x he w (λ_=>False) (hp_one hB hlt)).mono λe u2 w' ⟨h1,v,H',h2,⟨_,h3⟩,hh'⟩=>⟨⟨_,h2⟩,by subst h1;rfl,?_⟩;subst h3;exact Hp.dd (W.upd (S:=[g]) hh'.ch (λb hb=>⟨_,J,by simpa[Res.bl] using hb⟩) (λb hb=>.inl ⟨_,J,hb⟩) (λj V=>by cases V) λ_ _ _ _ _ _ _=>hh'.hold 0 _ rfl) V) h
end
section
variable {P:Program}{l:List (Nat×Value)}{a:Act}{w:World}{d:Option Tmp}{T:TypeId}{pos:String}{af:Array Edge}{gd:Option (Nat×Bool)}{n:Nat}{ds:List Deferred}{x:Operand}{v:Value}{t t0:TypeId}
def r_mki {td:TypeDesc}(J:Fr a n ds l)(L:P.underlying t=some td)(N:ev l x=some v:=by rfl)(O:(match td with| .interface _=>false|_=>true)=true:=by rfl):(execOp a.eval ⟨d,.makeInterface t x,T,pos,af,gd⟩).run P w=.ok (.value (.iface t v)) w:=by
 cases td<;>simp_all [execOp,J.eval N,Instr.makeInterface,run_underlying L]
def r_tas {td:TypeDesc}(J:Fr a n ds l)(L:P.underlying t=some td)(N:ev l x=some (.iface t v):=by rfl)(O:(match td with| .interface _=>false|_=>true)=true:=by rfl):(execOp a.eval ⟨d,.typeAssert x t0 t true,T,pos,af,gd⟩).run P w=.ok (.value (.tuple #[v,.bool true])) w:=by
 cases td<;>simp_all [execOp,J.eval N,Instr.typeAssert,run_underlying L]
end
end Go.A
end
section
namespace Go.A
open Go.RowKit Go.Z Go.Lib
section
variable {r:Option Nat}{P:Program}{ops:Array Oper}{Q:Exit->Act->World->Prop}{rest:List Oper}{C:Cx}{l:List (Nat×Value)}{H:List (Nat×Res)}{d:Nat}{T:TypeId}{pos:String}{af:Array Edge}
end
def has_shr {x:Int}{n:Nat}(h:IntKind.u64.has x):IntKind.u64.has (x / 2^n):=by
 simp only[IntKind.has,IntKind.min,IntKind.max]at*;have L:(0:Int)<2^n:=Int.pow_pos (by decide);have J:0<=x:=h.1;refine⟨Int.ediv_nonneg J (Int.le_of_lt L),?_⟩;exact Int.le_trans (Int.ediv_le_self _ J) h.2
def sh8 (i:Int):Prop:=0<=i/\i*256+255<18446744073709551616
instance (i:Int):Decidable (sh8 i):=by unfold sh8;exact inferInstance
def has_or8 {i:Int}(h:sh8 i)(b:UInt8):IntKind.u64.has (i*256+(b.toNat:Int)):=by
 have:=b.toNat_lt;unfold sh8 at h;exact⟨show(0:Int)<=i*256+(b.toNat:Int) by omega,show i*256+(b.toNat:Int)<=(18446744073709551615:Int) by omega⟩
section
variable {P:Program}{l:List (Nat×Value)}{a:Act}{w:World}{d:Option Tmp}{T:TypeId}{pos:String}{af:Array Edge}{gd:Option (Nat×Bool)}{n:Nat}{ds:List Deferred}{tt ty:TypeId}{x y:Operand}{i:Int}
def r_shl8 {k':IntKind}(J:Fr a n ds l)(h:sh8 i)(L:ev l x=some (.int .u64 i):=by rfl)(N:ev l y=some (.int k' 8):=by rfl):(execOp a.eval ⟨d,.binOp .shl tt x y ty,T,pos,af,gd⟩).run P w=.ok (.value (.int .u64 (i*256))) w:=
 Z.r_shl8 (J.eval L) (J.eval N) rfl (Z.u64_in _ (by unfold sh8 at h;omega))
def r_or8 {b:UInt8}(J:Fr a n ds l)(h:sh8 i)(L:ev l x=some (.int .u64 (i*256)):=by rfl)(N:ev l y=some (.int .u64 (IntKind.u64.wrap (b.toNat:Int))):=by rfl):(execOp a.eval ⟨d,.binOp .or tt x y ty,T,pos,af,gd⟩).run P w=.ok (.value (.int .u64 (i*256+(b.toNat:Int)))) w:=by
 have:=b.toNat_lt;unfold sh8 at h;have O:((i.toNat:Nat):Int)=i:=Q8 h.1;have:=Z.r_orb (P:=P) (w:=w) (d:=d) (T:=T) (pos:=pos) (af:=af) (gd:=gd) (t:=tt) (ty:=ty) (u:=i.toNat) (b:=b.toNat) (J.eval L) (J.eval N) (by rw[O]) (Z.u64_in _ (by omega)) (by omega) (by omega);rw[this];congr 3;omega
end
def se {α β:Type}(r:Int ⊕ α)(k1:Int->Option β)(k:α->Option β):Option β:=match r with
 | .inl e=>k1 e
 | .inr x=>k x
section
variable {α β:Type}{k1:Int->Option β}{k:α->Option β}{r0:β}{x:α}{e:Int}
def se_r (h:se (.inr x) k1 k=some r0):k x=some r0:=h
def se_l (h:se (.inl e) k1 k=some r0):k1 e=some r0:=h
end
def rep_cap {t:Ty}{w:World}{F:Nat->Prop}{A:Option Addr}{c m:Nat}{xs:List t.den}(h:(Ty.slice t).rep w F [.slice A xs.length c] xs)(L:xs.length<=m)(V:m<=c):(Ty.slice t).rep w F [.slice A xs.length m] xs:=by
 obtain⟨A',c',cells,J,W,h5,h6⟩:=h;injection J with J _
 injection J with N hn O
 subst N;subst O;exact⟨A,m,cells,rfl,L,by omega,h6⟩
def rep_cut3 {t:Ty}{w:World}{F:Nat->Prop}{A:Option Addr}{c u v:Nat}{xs:List t.den}(h:(Ty.slice t).rep w F [.slice A xs.length c] xs)(h1:u<=v)(N:v<=xs.length):(Ty.slice t).rep w F [.slice (cutA A v u t.size) ((xs.take v).drop u).length (v-u)] ((xs.take v).drop u):=by
 have hlen:=rep_slice_len h;have J:(xs.take v).length=v:=by rw[Qo];omega
 have hlen2:((xs.take v).drop u).length=v-u:=by rw[Qu,J]
 rw[hlen2];have O:=Qbi h N;have V:(Ty.slice t).rep w F [.slice A (xs.take v).length c] (xs.take v):=by rw[J];exact O
 have L:=rep_cap (m:=v) V (by omega) (by omega);rw[J]at L;refine rep_drop L (by omega) (by omega) (by omega) λW ad hA=>?_;unfold cutA;rw[Qb (by omega),hA];rfl
section
variable {r:Option Nat}{P:Program}{ops:Array Oper}{Q:Exit->Act->World->Prop}{rest:List Oper}{C:Cx}{l:List (Nat×Value)}{H:List (Nat×Res)}{d:Nat}{T:TypeId}{pos:String}{af:Array Edge}
def AL.cut3 (k kn:Nat){t:Ty}{tt e:TypeId}{x lo hi mx:Operand}{A:Option Addr}{c:Nat}{xs:List t.den}{k1 k2 k3:IntKind}{p q:Int}{u v:Nat}(hp:p=(u:Int))(hq:q=(v:Int))(h1:u<=v)(h2:v<=xs.length)
  (h: ∀A' c',AL r P ops Q rest C ((d,.slice A' ((xs.take v).drop u).length c')::l) ((kn,.sh (.slice t) [.slice A' ((xs.take v).drop u).length c'] ((xs.take v).drop u))::H))
  (N:hk H k=some (.sh (.slice t) [.slice A xs.length c] xs):=by rfl) (hx:ev l x=some (.slice A xs.length c):=by rfl) (O:ev l lo=some (.int k1 p):=by rfl) (V:ev l hi=some (.int k2 q):=by rfl) (W:ev l mx=some (.int k3 q):=by rfl) (hS:szB P e=some t.size:=by kernel_rfl)
  (ht:P.underlying tt=some (.slice e):=by rfl) (hd:Nat.ble (d+1) C.n=true:=by rfl) (hn:hk H kn=none:=by kernel_rfl):AL r P ops Q (⟨some d,.slice tt x (some lo) (some hi) (some mx),T,pos,af,none⟩::rest) C l H:=λa w L hh=>by
 have hr:(Ty.slice t).rep w (Fh C H) [.slice A xs.length c] xs:=hh.hold k _ N;have hlen:=rep_slice_len hr;have hlen2:((xs.take v).drop u).length=v-u:=by rw[Qu,Qo];omega
 have J:=rep_cut3 hr h1 h2;refine Z.val (v:=.slice (cutA A v u t.size) (v-u) (v-u)) L hd (Qdg ht (Qah hS) (L.eval hx) (L.eval O) (L.eval V) (L.eval W) hp hq hq h1 (Q4 _) (by omega)) λa' hf'=>?_;rw[hlen2]at J;rw[<-hlen2]at J hf';exact h _ _ a' w hf' (hh.add hn rfl (λj hj=>by cases hj) (Qaf _ J))
def AL.cuth3 (k kn:Nat){t:Ty}{tt e:TypeId}{x hi mx:Operand}{A:Option Addr}{c:Nat}{xs:List t.den}{k2 k3:IntKind}{q:Int}{v:Nat}(hq:q=(v:Int))(h2:v<=xs.length)
  (h: ∀c',AL r P ops Q rest C ((d,.slice A (xs.take v).length c')::l) ((kn,.sh (.slice t) [.slice A (xs.take v).length c'] (xs.take v))::H))
  (N:hk H k=some (.sh (.slice t) [.slice A xs.length c] xs):=by rfl) (hx:ev l x=some (.slice A xs.length c):=by rfl) (O:ev l hi=some (.int k2 q):=by rfl) (V:ev l mx=some (.int k3 q):=by rfl) (hS:szB P e=some t.size:=by kernel_rfl)
  (ht:P.underlying tt=some (.slice e):=by rfl) (hd:Nat.ble (d+1) C.n=true:=by rfl) (hn:hk H kn=none:=by kernel_rfl):AL r P ops Q (⟨some d,.slice tt x none (some hi) (some mx),T,pos,af,none⟩::rest) C l H:=λa w L hh=>by
 have hr:(Ty.slice t).rep w (Fh C H) [.slice A xs.length c] xs:=hh.hold k _ N;have hlen:=rep_slice_len hr;have J:(xs.take v).length=v:=by rw[Qo];omega
 have W:(Ty.slice t).rep w (Fh C H) [.slice A (xs.take v).length v] (xs.take v):=rep_cap (by rw[J];exact Qbi hr h2) (by omega) (by omega);refine Z.val (v:=.slice A v v) L hd (r_slice_hm ht (Qah hS) (L.eval hx) (L.eval O) (L.eval V) hq hq (Q4 _) (by omega)) λa' hf'=>?_;have e1:Value.slice A v v=.slice A (xs.take v).length v:=by rw[J]
 rw[e1]at hf';exact h _ a' w hf' (hh.add hn rfl (λj hj=>by cases hj) (Qaf _ W))
def AL.apt (k:Nat)(js:List Nat){tt tu e:TypeId}{x y:Operand}{i:TypeInfo}{A:Option Addr}{c n:Nat}{xs:List UInt8}{s:ByteArray}(hsz:xs.length+s.size<=140737488355328)
  (hinf:P.info? e=some i/\i.zero=some (.int .u8 0)/\i.size=1/\i.bytes=1)
  (h: ∀A' c',AL r P ops Q rest C ((d,.slice A' (xs++s.data.toList).length c')::l) ((k,.own .byte e A' c' (xs++s.data.toList))::ded js H))
  (O:hk H k=some (.own .byte e A c xs):=by rfl) (hx:ev l x=some (.slice A n c):=by rfl) (hy:ev l y=some (.string s):=by rfl) (hlen:n=xs.length:=by rfl)
  (W:P.underlying tt=some (.slice e):=by rfl) (h2:P.underlying tu=some .string:=by rfl) (hd:Nat.ble (d+1) C.n=true:=by rfl) (hj:hng [k] js H=true:=by kernel_rfl):
  AL r P ops Q (⟨some d,.call {callee:=.builtin .append,args:=#[x,y],argTypes:=#[tt,tu]},T,pos,af,none⟩::rest) C l H:=λa w hf hh=>by
 subst hlen;obtain⟨hi,hz,N,V⟩:=hinf;have hO:Own .byte e 0 w (Fh C H) A c xs:=hh.hold k _ O;obtain⟨cells,hrow,o1,o2⟩:=hO;obtain⟨v',w',hrun,h3,h4,_⟩:=run_append_own_string (P:=P) w 0 tt tu T e i W h2 hi hz N V _ xs.length cells hrow s (by simp only[maxLen];omega) hsz (X7 _);obtain⟨A',c',rfl,hO'⟩:=Own.str (w:=w) h3 hrow.1 o1 (λi x hx=>o2 i x hx);have hch:Ch (obl A) w w':=by have:=Ch.of_grown h4;rwa[ownBlock_slice]at this
 have hnew: ∀b,b∈obl A'->b∈obl A\/b=w.heap.size:=by
  rcases hrow.2 with⟨hv,hn⟩|⟨g,cap,cur,hv,hbg,hg,hnc,hcm,hcs,htake⟩
  injection hv with hA _ hc
  subst hA;subst hc;intro b L;by_cases hm:s.size=0;have hf0:=run_firstCells_string (P:=P) w 1 s;rw[hm]at hf0;have J:(Builtin.append_ #[tt,tu] T #[.slice none xs.length 0,.string s]).run P w=.ok (.slice none 0 0) w:=by
   rw[hn];simp[Builtin.append_,run_underlying W,run_underlying h2,sizeOf,typeInfo,hi,N,Builtin.lenOf,hm,hf0]
  rw[hrun]at J;injection J with J _
  injection J with J _ _
  subst J;cases L;have J:=run_append_nil_string (P:=P) w tt tu T e i (.int .u8 0) W h2 hi hz s (by omega) (by omega) (by rw[V];omega);rw[hn]at hrun;rw[hrun]at J;injection J with J _
  injection J with J _ _
  subst J;exact .inr (by simpa[obl] using L);injection hv with hA _ hc
  subst hA;subst hc;intro b L;by_cases hroom:xs.length+s.size<=c;have hcs':cur.size=c:=by simpa[Ty.size] using hcs
  have J:=run_append_room_string (P:=P) w tt tu T e i W h2 hi N g xs.length c cur hg s hroom (by omega);rw[hrun]at J;injection J with J _
  injection J with J _ _
  subst J;exact .inl L;have holds: ∀j u,cells[j]?=some u->w.cell? ((⟨g,0,none⟩:Addr).add j)=some u:=hrow.cells (g:=g) rfl;have J:=run_append_grow_string (P:=P) w tt tu T e i (.int .u8 0) W h2 hi hz ⟨g,0,none⟩ xs.length c cells (by rw[N];simpa[Ty.size] using hrow.1) holds s (by omega) (by omega) (by rw[V];exact growslice_fits (by omega) (by omega));rw[hrun]at J;injection J with J _
  injection J with J _ _
  subst J;exact .inr (by simpa[obl] using L)
 refine Z.valw (w':=w') (v:=.slice A' (xs++s.data.toList).length c') hf hd ?_ λa' hf'=>h A' c' a' w' hf' (Hp.dd (hh.upd hch (λb L=>⟨_,O,L⟩) (λb L=>?_) (λj hj=>by cases hj) λF B _ _ _ _ _=>hO'.more λ_ L=>L.elim) hj);simp only[execOp,resolve,invoke,builtin,Sem.run_bind,Sem.run_pure,Result.andThen_ok,Xg,Q7,Xh,hf.eval hx,hf.eval hy,hrun];rcases hnew b L with h5|h5
 exact .inl ⟨_,O,h5⟩;exact .inr ⟨by omega,(hO'.lt b L).2⟩
end
section
variable {P:Program}{C:Cx}{l:List (Nat×Value)}{H:List (Nat×Res)}
def cutp3 {X:Act->World->Prop}(k kn:Nat){t:Ty}{A:Option Addr}{c:Nat}{xs:List t.den}(u v:Nat)(N:u<=v)(O:v<=xs.length)
  (h: ∀A' c',A'=cutA A v u t.size->c'=v-u->∀a w,Fr a C.n C.ds l->Hp C ((kn,.sh (.slice t) [.slice A' ((xs.take v).drop u).length c'] ((xs.take v).drop u))::H) w->X a w)
  (J:hk H k=some (.sh (.slice t) [.slice A xs.length c] xs):=by rfl) (V:hk H kn=none:=by kernel_rfl): ∀a w,Fr a C.n C.ds l->Hp C H w->X a w:=λa w W L=>
 h _ _ rfl rfl a w W (L.add V rfl (λj hj=>by cases hj) (Qaf _ (rep_cut3 (L.hold k _ J) N O)))
def r_cut3 {a:Act}{w:World}{d:Option Tmp}{T:TypeId}{pos:String}{af:Array Edge}{gd:Option (Nat×Bool)}(k:Nat){t:Ty}{tt e:TypeId}{x lo W mx:Operand}{A A':Option Addr}{c c':Nat}{xs:List t.den}{k1 k2 k3:IntKind}{p q:Int}{u v:Nat}(J:Fr a C.n C.ds l)(hh:Hp C H w)(hp:p=(u:Int))(hq:q=(v:Int))(h1:u<=v)(h2:v<=xs.length)(hA:A'=cutA A v u t.size)(hc:c'=v-u)
  (L:hk H k=some (.sh (.slice t) [.slice A xs.length c] xs):=by rfl) (hx:ev l x=some (.slice A xs.length c):=by rfl) (N:ev l lo=some (.int k1 p):=by rfl) (O:ev l W=some (.int k2 q):=by rfl) (V:ev l mx=some (.int k3 q):=by rfl) (hS:szB P e=some t.size:=by kernel_rfl) (ht:P.underlying tt=some (.slice e):=by rfl):
  (execOp a.eval ⟨d,.slice tt x (some lo) (some W) (some mx),T,pos,af,gd⟩).run P w=.ok (.value (.slice A' ((xs.take v).drop u).length c')) w:=by
 have hr:(Ty.slice t).rep w (Fh C H) [.slice A xs.length c] xs:=hh.hold k _ L;have hlen:=rep_slice_len hr;have hlen2:((xs.take v).drop u).length=v-u:=by rw[Qu,Qo];omega
 subst hA;subst hc;rw[hlen2];exact Qdg ht (Qah hS) (J.eval hx) (J.eval N) (J.eval O) (J.eval V) hp hq hq h1 (Q4 _) (by omega)
def r_cvt {a:Act}{w:World}{d:Option Tmp}{T:TypeId}{pos:String}{af:Array Edge}{gd:Option (Nat×Bool)}{src dst e:TypeId}{x:Operand}{A:Option Addr}{c n:Nat}{xs:List UInt8}{kp':(Nat->Prop)->Prop}(J:Fr a C.n C.ds l)(hh:Hp C H w)(hrow: ∀w,Hp C H w->∃G:Nat->Prop,Row .byte w (Fh C H) G A c xs/\kp' G)
  (hlen:n=xs.length:=by rfl) (L:ev l x=some (.slice A n c):=by rfl) (N:P.underlying src=some (.slice e):=by rfl) (O:P.underlying e=some (.int .u8):=by rfl) (V:P.underlying dst=some .string:=by rfl):
  (execOp a.eval ⟨d,.convert src dst x,T,pos,af,gd⟩).run P w=.ok (.value (.string ⟨xs.toArray⟩)) w:=by
 subst hlen;obtain⟨G,W,_⟩:=hrow w hh;obtain⟨cells,p1,p2,p3,p4⟩:=W.cells;rcases p3 with h0|⟨ad,rfl,hcell⟩
 have:xs=[]:=Qz h0;subst this;have hl:(execOp a.eval ⟨d,.convert src dst x,T,pos,af,gd⟩).run P w=.ok (.value (.string ⟨([]:List UInt8).toArray⟩)) w:=by
  have hrep:(Ty.slice .byte).rep w no [.slice A 0 c] []:=⟨A,c,[],rfl,X7 _,W.2.1,rfl,.inl rfl,λi x h=>by simp at h⟩;exact r_b2s N O V (J.eval L) hrep
 exact hl;have:=run_convert_bytes_back (P:=P) w src dst e ad c xs N O V λj hj=>by
  refine hcell j _ ?_;have h4:=p4 j _ (Qf hj);have h5:(cells.drop (j*1)).take 1=[.int .u8 (xs[j].toNat:Int)]:=h4;rw[Yd]at h5;have h6:((cells.drop j).take 1)[0]?=some (.int .u8 (xs[j].toNat:Int)):=by rw[h5];rfl
  rwa[Q2 (by omega),Wl,Ja]at h6
 simp[execOp,J.eval L,this]
end
def npQ (Q:Exit->Act->World->Prop):Exit->Act->World->Prop:=λe a w=>(∀c,e≠ .panic c)/\Q e a w
def pqN {Q:Exit->Act->World->Prop}:Pq (npQ Q):=λc a d v w h=>(h.1 c rfl).elim
section
variable {r:Option Nat}{P:Program}{Y:Exit->Act->World->Prop}{K:List Kx}{C:Cx}{l:List (Nat×Value)}{H Hq:List (Nat×Res)}{ops:Array Oper}{m f:Nat}{li:List Bool}
def AX.drN {id:Nat}{lo:List Oper}(L:P.follows .mixedOrders=true)(m f:Nat)(li:List Bool)(h:AH r P lo.toArray (npQ (kont r P Y K)) [] m f li C l H)(J:lo.toArray.size=f:=by rfl)(N:(Array.replicate lo.toArray.size false).toList=li:=by kernel_rfl):
  AX r P Y K (.region id lo.toArray true) C l H:=λa w O V=>by
 subst J;subst N;have:=h a _ O (Hp.drew V (Ch.drew w));rw[Wy]at this;exact wpIn_mono (wpIn_region_any L (Hem.any _ _ _ _ this)) λe a w h=>h.2
def AH.doneN (h:AE r P Y K .normal C l H)(J:Region.ready .any ops li.toArray=[]:=by kernel_rfl):AH r P ops (npQ (kont r P Y K)) Hq m f li C l H:=λa w L N=>by
 cases f with
 |zero=>exact⟨J,λc h=>(by cases h),h a w L N⟩
 |succ f=>exact⟨λ_=>⟨λc h=>(by cases h),h a w L N⟩,by rw[J];simp⟩
end
def Ct.join {P:Program}{f:FuncId}{xss:List (List UInt8)}{rr:List UInt8}{A:Option Addr}{c:Nat}
  (W: ∀w,(Ty.slice (.slice .byte)).rep w (nt []) [.slice A xss.length c] xss->Calls P f #[.slice A xss.length c,.slice none 0 0] w λe w'=>∃(A':Option Addr) (c':Nat),e=.returned (.slice A' rr.length c')/\(Ty.slice .byte).rep w' (iv w.heap.size w'.heap.size) [.slice A' rr.length c'] rr/\Ch [] w w'):
  Ct P f [.slice A xss.length c,.slice none 0 0] [(0,.sh (.slice (.slice .byte)) [.slice A xss.length c] xss)] [] λv H'=>∃(A':Option Addr) (c':Nat),v=.slice A' rr.length c'/\H'=[(0,.sh (.slice .byte) [.slice A' rr.length c'] rr)]:=λw F hh=>by
 have hr:(Ty.slice (.slice .byte)).rep w _ [.slice A xss.length c] xss:=hh.hold 0 _ rfl;refine(W w (Qbz (λb _=>by simp[nt]) _ hr)).mono λe w' ⟨A',c',he,hr',O⟩=>⟨_,_,he,⟨A',c',rfl,rfl⟩,?_⟩;have J: ∀k r,hk [(0,Res.sh (.slice .byte) [.slice A' rr.length c'] rr)] k=some r->r=.sh (.slice .byte) [.slice A' rr.length c'] rr:=λk r h=>by
  rw[Qaa]at h;split at h;injection h with h;exact h.symm
  cases h
 have L: ∀k b,¬Bk [(0,Res.sh (.slice .byte) [.slice A' rr.length c'] rr)] k b:=λk b ⟨r,h,N⟩=>by rw[J k r h]at N;cases N
 refine⟨O,λk r h=>?_,λk b h=>(L k b h).elim,λk k' b h=>(L k b h).elim,λk r j h V=>by rw[J k r h]at V;cases V⟩;rw[J k r h];exact Qbz (λb N=>⟨λk=>L k b,.inr (.inl N.1)⟩) _ hr'
end Go.A
end
section
namespace Go.Codec
abbrev Bytes:=List UInt8
def flat_take {α:Type}{xs:List (List α)}{k:Nat}{x:List α}(h:xs[k]?=some x):
  (xs.take (k+1)).flatten=(xs.take k).flatten++x/\(xs.take (k+1)).flatten.length=(xs.take k).flatten.length+x.length/\(xs.take (k+1)).flatten.length<=xs.flatten.length:=by
 have hk:=(Qd.1 h).1;have J:(xs.take (k+1)).flatten=(xs.take k).flatten++x:=by
  rw[Xp hk,List.flatten_append,(Qd.1 h).2];simp
 refine⟨J,by rw[J,Qe],?_⟩;have L:xs.flatten=(xs.take (k+1)).flatten++(xs.drop (k+1)).flatten:=by rw[<-List.flatten_append,Xu]
 rw[L,Qe];omega
def flat_all {α:Type}{xs:List (List α)}{k:Nat}(h:xs.length<=k):(xs.take k).flatten=xs.flatten:=by rw[Wf h]
def flat_le {α:Type}(xs:List (List α))(k:Nat):(xs.take k).flatten.length<=xs.flatten.length:=by
 have J:xs.flatten=(xs.take k).flatten++(xs.drop k).flatten:=by rw[<-List.flatten_append,Xu]
 rw[J,Qe];omega
def be:Nat->Nat->Bytes
 |0,_=>[]
 |f+1,u=>if u=0 then []else be f (u / 256)++[UInt8.ofNat u]
def val (l:Bytes):Nat:=l.foldl (λu c=>u*256+c.toNat) 0
def val_snoc (l:Bytes)(c:UInt8):val (l++[c])=val l*256+c.toNat:=by simp[val]
def Qar (f u:Nat):(be f u).length<=f:=by
 induction f generalizing u with
 |zero=>simp[be]
 |succ f J=>
  unfold be;split;simp;have:=J (u / 256);simp;omega
def encInt (n:Int):Bytes:=
 if 0<=n/\n<100 then [UInt8.ofNat (100+n.toNat)]
 else if n<0/\ -50<=n then [UInt8.ofNat ((50+n).toNat)]
 else if 0<=n then UInt8.ofNat (199+(be 8 n.toNat).length)::be 8 n.toNat
 else UInt8.ofNat (207+(be 8 (-1-n).toNat).length)::be 8 (-1-n).toNat
def be_step (f u:Nat)(J:0<u):be (f+1) u=be f (u / 256)++[UInt8.ofNat u]:=by
 rw[be,Qb (by omega)]
def Qgd (f:Nat):be f 0=[]:=by cases f<;>simp[be]
def enc_one (n:Int)(J:0<=n)(L:n<100):encInt n=[UInt8.ofNat (100+n).toNat]:=by
 unfold encInt;rw[Qc ⟨J,L⟩];congr 2;omega
def enc_low (n:Int)(J:n<0)(L: -50<=n):encInt n=[UInt8.ofNat (50+n).toNat]:=by
 unfold encInt;rw[Qb (by omega),Qc ⟨J,L⟩]
def enc_up (n:Int)(J:100<=n)(bs:Bytes)(h:be 8 n.toNat=bs)(L:bs.length<=8):[UInt8.ofNat (199+(UInt8.ofNat bs.length).toNat)]++bs=encInt n:=by
 unfold encInt;rw[Qb (by omega),Qb (by omega),Qc (by omega),h];have:(UInt8.ofNat bs.length).toNat=bs.length:=by simp;omega
 rw[this];rfl
def enc_dn (n:Int)(J:n< -50)(bs:Bytes)(h:be 8 (-1-n).toNat=bs)(L:bs.length<=8):[UInt8.ofNat (207+(UInt8.ofNat bs.length).toNat)]++bs=encInt n:=by
 unfold encInt;rw[Qb (by omega),Qb (by omega),Qb (by omega),h];have:(UInt8.ofNat bs.length).toNat=bs.length:=by simp;omega
 rw[this];rfl
def okInt (n:Int):Prop:= -9223372036854775808<=n/\n<=9223372036854775807
def encInt_length (n:Int):1<=(encInt n).length/\(encInt n).length<=9:=by
 unfold encInt;have J:=Qar 8 n.toNat;have L:=Qar 8 (-1-n).toNat;split;simp
 (split)
 simp;split<;>simp<;>omega
def encText (s:ByteArray):Bytes:=encInt s.size++s.data.toList
def okText (s:ByteArray):Prop:=s.size<=9223372036854775807
def Qad {α:Type}(enc:α->Bytes)(l:List α):Bytes:=encInt l.length++l.flatMap enc
def okList {α:Type}(ok:α->Prop)(l:List α):Prop:=l.length<=9223372036854775807/\∀a∈l,ok a
abbrev Fn:=Int×Int×ByteArray
abbrev Node:=Int×Int×List Int×Fn×ByteArray×Int×Int
abbrev Move:=Int×Int×Int×Int×Fn
abbrev Delta:=List Int×List Node×List Move
abbrev Rec:=Int×ByteArray
abbrev Lim:=Int×Int×Int×Int
abbrev Time:=Int×Int×Lim
abbrev Place:=Int×Int
abbrev Change:=Place×Time×Int
abbrev Entry:=Int×Int×ByteArray×Int
abbrev Msg:=Int×Int×Place×Time×List Rec×List Change×Delta×Int×List Entry×Bool×Int
def encFn (f:Fn):Bytes:=encInt f.1++(encInt f.2.1++encText f.2.2)
def Qae (n:Node):Bytes:=encInt n.1++(encInt n.2.1++(Qad encInt n.2.2.1++(encFn n.2.2.2.1++(encText n.2.2.2.2.1++(encInt n.2.2.2.2.2.1++encInt n.2.2.2.2.2.2)))))
def okFn (f:Fn):Prop:=okInt f.1/\okInt f.2.1/\okText f.2.2
def okNode (n:Node):Prop:=okInt n.1/\okInt n.2.1/\okList okInt n.2.2.1/\okFn n.2.2.2.1/\okText n.2.2.2.2.1/\okInt n.2.2.2.2.2.1/\okInt n.2.2.2.2.2.2
end Go.Codec
end
section
namespace Go.A
open Go.RowKit Go.Z
def z0:h6 0:=hasl .i64 (0) rfl
def ck{b:Bool}{p:Prop}(h:p)(e:b=true:=by kernel_rfl):b=true/\p:=⟨e,h⟩
def b{α β:Type}{x:Option α}{f:α->Option β}{y:β}(h:x.bind f=some y):∃v,x=some v/\f v=some y:=Yw.1 h
def g{α:Type}{p:Prop}[Decidable p]{x:Option α}{y:α}(h:gd p x=some y):p/\x=some y:=gd_some h
section
variable{r:Option Nat}{P:Program}{ops:Array Oper}{Q:Exit->Act->World->Prop}{lst rest:List Oper}{C:Cx}{l:List (Nat×Value)}{H:List (Nat×Res)}{Y:Exit->Act->World->Prop}{K:List Kx}
def n(k:Nat)(nl:List (Nat×Value))(h:AL r P ops Q (lst.drop k) C (cat nl l) H)
    (hq:((qs P ⟨knb H [],kne H []⟩ C.n ops (List.replicate k .n) lst (Z.q0 l)).bind (qfin l (nl.map Prod.fst)))=some ([],nl):=by kernel_rfl)
    (J:(qs P ⟨knb H [],kne H []⟩ C.n ops (List.replicate k .n) lst (Z.q0 l)).map (λs=>s.q.map Prod.fst)=(qs P ⟨knb H [],kne H []⟩ C.n ops (List.replicate k .n) lst (Z.q0 l)).map (λs=>s.q.map Prod.snd):=by kernel_rfl):AL r P ops Q lst C l H:=q0 [] [] (List.replicate k .n) nl (by rw[Xt];exact h) hq J
def m(k:Nat)(cs:List Prop)(nl:List (Nat×Value))(J:conj cs)(h:AL r P ops Q (lst.drop k) C (cat nl l) H)
    (hq:((qs P ⟨knb H [],kne H []⟩ C.n ops (List.replicate k .n) lst (Z.q0 l)).bind (qfin l (nl.map Prod.fst)))=some (cs,nl):=by kernel_rfl)
    (L:(qs P ⟨knb H [],kne H []⟩ C.n ops (List.replicate k .n) lst (Z.q0 l)).map (λs=>s.q.map Prod.fst)=(qs P ⟨knb H [],kne H []⟩ C.n ops (List.replicate k .n) lst (Z.q0 l)).map (λs=>s.q.map Prod.snd):=by kernel_rfl):AL r P ops Q lst C l H:=q [] [] (List.replicate k .n) cs nl J (by rw[Xt];exact h) hq L
def c{ρ:Type}{A B R:Option ρ}{c:Operand}{x y:Code}{p:Prop}[Decidable p](J:(if p then A else B)=R)(L:p->A=R->AX r P Y K x C l H)(N:¬p->B=R->AX r P Y K y C l H)(O:ev l c=some (.bool (decide p)):=by rfl):AX r P Y K (.cond c x y) C l H:=AX.cnd O J L N
def d{ρ:Type}{A B R:Option ρ}{c:Operand}{x y:Code}{b:Bool}(J:(if b=true then A else B)=R)(L:b=true->A=R->AX r P Y K x C l H)(N:b=false->B=R->AX r P Y K y C l H)(O:ev l c=some (.bool b):=by rfl):AX r P Y K (.cond c x y) C l H:=AX.cnb O J L N
def zb(k:Nat)(nl:List (Nat×Value))(j:Nat){K':List Kx}{c':Code}(h:AX r P Y K' c' C (cat nl l) H)(e0:lst.drop k=[]:=by rfl)
    (hq:((qs P ⟨knb H [],kne H []⟩ C.n ops (List.replicate k .n) lst (Z.q0 l)).bind (qfin l (nl.map Prod.fst)))=some ([],nl):=by kernel_rfl)
    (he:(qs P ⟨knb H [],kne H []⟩ C.n ops (List.replicate k .n) lst (Z.q0 l)).map (λs=>s.q.map Prod.fst)=(qs P ⟨knb H [],kne H []⟩ C.n ops (List.replicate k .n) lst (Z.q0 l)).map (λs=>s.q.map Prod.snd):=by kernel_rfl)
    (e:nxs j none K=some (some c',K'):=by rfl):AL r P ops (kont r P Y K) lst C l H:=n k nl (by rw[e0];exact dx j h e) hq he
def zc(k:Nat)(nl:List (Nat×Value))(j:Nat){K':List Kx}{id:Nat}{lo:List Oper}(h:AL r P lo.toArray (kont r P Y K') lo C (cat nl l) H)(e0:lst.drop k=[]:=by rfl)
    (hq:((qs P ⟨knb H [],kne H []⟩ C.n ops (List.replicate k .n) lst (Z.q0 l)).bind (qfin l (nl.map Prod.fst)))=some ([],nl):=by kernel_rfl)
    (he:(qs P ⟨knb H [],kne H []⟩ C.n ops (List.replicate k .n) lst (Z.q0 l)).map (λs=>s.q.map Prod.fst)=(qs P ⟨knb H [],kne H []⟩ C.n ops (List.replicate k .n) lst (Z.q0 l)).map (λs=>s.q.map Prod.snd):=by kernel_rfl)
    (e:nxs j none K=some (some (.region id lo.toArray false),K'):=by rfl):AL r P ops (kont r P Y K) lst C l H:=n k nl (by rw[e0];exact dl j h e) hq he
def zd(bs es:List Nat)(hs:List Hint)(nl:List (Nat×Value))(j:Nat){K':List Kx}{c':Code}(h:AX r P Y K' c' C (cat nl l) H)(e0:lst.drop hs.length=[]:=by rfl)
    (hq:((qs P ⟨knb H bs,kne H es⟩ C.n ops hs lst (Z.q0 l)).bind (qfin l (nl.map Prod.fst)))=some ([],nl):=by kernel_rfl)
    (he:(qs P ⟨knb H bs,kne H es⟩ C.n ops hs lst (Z.q0 l)).map (λs=>s.q.map Prod.fst)=(qs P ⟨knb H bs,kne H es⟩ C.n ops hs lst (Z.q0 l)).map (λs=>s.q.map Prod.snd):=by kernel_rfl)
    (e:nxs j none K=some (some c',K'):=by rfl):AL r P ops (kont r P Y K) lst C l H:=q0 bs es hs nl (by rw[e0];exact dx j h e) hq he
def ze(i k:Nat)(nl:List (Nat×Value)){K':List Kx}{id:Nat}{lo:List Oper}{c:Code}(h:AL r P lo.toArray (kont r P Y K') (lo.drop k) C (cat nl l) H)(e:nxs i (some c) K=some (some (.region id lo.toArray false),K'):=by rfl)
    (hq:((qs P ⟨knb H [],kne H []⟩ C.n lo.toArray (List.replicate k .n) lo (Z.q0 l)).bind (qfin l (nl.map Prod.fst)))=some ([],nl):=by kernel_rfl)
    (he:(qs P ⟨knb H [],kne H []⟩ C.n lo.toArray (List.replicate k .n) lo (Z.q0 l)).map (λs=>s.q.map Prod.fst)=(qs P ⟨knb H [],kne H []⟩ C.n lo.toArray (List.replicate k .n) lo (Z.q0 l)).map (λs=>s.q.map Prod.snd):=by kernel_rfl):AX r P Y K c C l H:=xl i (n k nl h hq he) e
def zf(i k:Nat)(nl:List (Nat×Value))(j:Nat){K' K2:List Kx}{id:Nat}{lo:List Oper}{c c':Code}(h:AX r P Y K2 c' C (cat nl l) H)(e:nxs i (some c) K=some (some (.region id lo.toArray false),K'):=by rfl)(e0:lo.drop k=[]:=by rfl)
    (hq:((qs P ⟨knb H [],kne H []⟩ C.n lo.toArray (List.replicate k .n) lo (Z.q0 l)).bind (qfin l (nl.map Prod.fst)))=some ([],nl):=by kernel_rfl)
    (he:(qs P ⟨knb H [],kne H []⟩ C.n lo.toArray (List.replicate k .n) lo (Z.q0 l)).map (λs=>s.q.map Prod.fst)=(qs P ⟨knb H [],kne H []⟩ C.n lo.toArray (List.replicate k .n) lo (Z.q0 l)).map (λs=>s.q.map Prod.snd):=by kernel_rfl)
    (e2:nxs j none K'=some (some c',K2):=by rfl):AX r P Y K c C l H:=ze i k nl (by rw[e0];exact dx j h e2) e hq he
def zg(i k:Nat)(nl:List (Nat×Value))(j:Nat){ρ:Type}{A0 B0 R:Option ρ}{p:Prop}[Decidable p](E:(if p then A0 else B0)=R){K' K2:List Kx}{id:Nat}{lo:List Oper}{c x y:Code}{o:Operand}(I:p->A0=R->AX r P Y K2 x C (cat nl l) H)(L:¬p->B0=R->AX r P Y K2 y C (cat nl l) H)(e:nxs i (some c) K=some (some (.region id lo.toArray false),K'):=by rfl)(e0:lo.drop k=[]:=by rfl)
    (hq:((qs P ⟨knb H [],kne H []⟩ C.n lo.toArray (List.replicate k .n) lo (Z.q0 l)).bind (qfin l (nl.map Prod.fst)))=some ([],nl):=by kernel_rfl)
    (he:(qs P ⟨knb H [],kne H []⟩ C.n lo.toArray (List.replicate k .n) lo (Z.q0 l)).map (λs=>s.q.map Prod.fst)=(qs P ⟨knb H [],kne H []⟩ C.n lo.toArray (List.replicate k .n) lo (Z.q0 l)).map (λs=>s.q.map Prod.snd):=by kernel_rfl)
    (e2:nxs j none K'=some (some (.cond o x y),K2):=by rfl)(N:ev (cat nl l) o=some (.bool (decide p)):=by rfl):AX r P Y K c C l H:=zf i k nl j (A.c E I L N) e e0 hq he e2
def zh(i:Nat)(bs es:List Nat)(hs:List Hint)(nl:List (Nat×Value)){K':List Kx}{id:Nat}{lo:List Oper}{c:Code}(h:AL r P lo.toArray (kont r P Y K') (lo.drop hs.length) C (cat nl l) H)(e:nxs i (some c) K=some (some (.region id lo.toArray false),K'):=by rfl)
    (hq:((qs P ⟨knb H bs,kne H es⟩ C.n lo.toArray hs lo (Z.q0 l)).bind (qfin l (nl.map Prod.fst)))=some ([],nl):=by kernel_rfl)
    (he:(qs P ⟨knb H bs,kne H es⟩ C.n lo.toArray hs lo (Z.q0 l)).map (λs=>s.q.map Prod.fst)=(qs P ⟨knb H bs,kne H es⟩ C.n lo.toArray hs lo (Z.q0 l)).map (λs=>s.q.map Prod.snd):=by kernel_rfl):AX r P Y K c C l H:=xl i (q0 bs es hs nl h hq he) e
def zi(i:Nat)(bs es:List Nat)(hs:List Hint)(nl:List (Nat×Value))(j:Nat){K' K2:List Kx}{id:Nat}{lo:List Oper}{c c':Code}(h:AX r P Y K2 c' C (cat nl l) H)(e:nxs i (some c) K=some (some (.region id lo.toArray false),K'):=by rfl)(e0:lo.drop hs.length=[]:=by rfl)
    (hq:((qs P ⟨knb H bs,kne H es⟩ C.n lo.toArray hs lo (Z.q0 l)).bind (qfin l (nl.map Prod.fst)))=some ([],nl):=by kernel_rfl)
    (he:(qs P ⟨knb H bs,kne H es⟩ C.n lo.toArray hs lo (Z.q0 l)).map (λs=>s.q.map Prod.fst)=(qs P ⟨knb H bs,kne H es⟩ C.n lo.toArray hs lo (Z.q0 l)).map (λs=>s.q.map Prod.snd):=by kernel_rfl)
    (e2:nxs j none K'=some (some c',K2):=by rfl):AX r P Y K c C l H:=zh i bs es hs nl (by rw[e0];exact dx j h e2) e hq he
@[elab_as_elim]theorem ke{ρ:Type}{x y:ρ}{M:ρ->Prop}(e:some x=some y)(h:M x):M y:=by cases e;exact h
def zj{t n:Nat}{v:Value}{fn:Func}{w0:World}{S:List Nat}{F:Nat->Prop}{R:Value->List (Nat×Res)->Prop}(hR:R v (A.ren H []))(hf:fn.results=#[.tmp t]:=by rfl)(hv:lk l t=some v:=by rfl):AX r P (bodyPost P fn λe w'=>∃v H',e=.returned v/\R v H'/\Hp ⟨0,[],w0,S,F⟩ H' w') K .ret ⟨n,[],w0,S,F⟩ l H:=rt1 [] hR hf hv
def zk(n:Int)(h:decide (IntKind.i64.has n)=true:=by rfl):IntKind.i64.has n:=hasl .i64 n h
def v{ρ σ:Type}{d:Tmp}{T:TypeId}{pos:String}{af:Array Edge}(n:Nat)(js:List Nat){f:FuncId}{c:Operand}{xs:List Operand}{vs:List Value}{ts:Array TypeId}{H0:List (Nat×Res)}{ms:List (Nat×Nat)}{ls:List Nat}{S:List Nat}{R:ρ->Value->List (Nat×Res)->Prop}{X:Option ρ}{fF:ρ->Option σ}{yF:σ}
    (J:X.bind fF=some yF)(L:∀x,X=some x->Ct P f vs H0 S (R x))(O:Sub H H0 ms ls)
    (h:∀x,X=some x->fF x=some yF->∀v H',R x v H'->(outs H'&&frs n H H')=true/\AL r P ops Q rest C ((d,v)::l) (hcat (sft n H') (kld js H (ms.map (·.2)))))
    (N:∀args w,(callFunc f args).run P w=.ok (.enter f args) w:=by intros;kernel_rfl)
    (V:ev l c=some (.func (.func f) #[] #[]):=by rfl)(W:evs l xs=some vs:=by rfl)(hS:blks H ms=S:=by rfl)(h1:nod (H0.map (·.1))=true:=by rfl)(h2:nod (ms.map (·.2))=true:=by rfl)(h3:ls.all (λk=>!(ms.map (·.2)).any (Nat.beq k))=true:=by rfl)(hd:Nat.ble (d+1) C.n=true:=by rfl)(hj:hng (ms.map (·.2)) js H=true:=by kernel_rfl):
    AL r P ops Q (⟨some d,.call {callee:=.value c,args:=xs.toArray,argTypes:=ts},T,pos,af,none⟩::rest) C l H:=by
 obtain⟨x,e,J⟩:=bd_some J;exact AL.call n js (first:=[]) (cap:=[]) N (L x e) O (h x e J) V W (by rw[Wj];rfl) hS h1 h2 h3 hd hj
end
abbrev zz8:List Value:=[i 0,i 0,i 0,i 0,i 0,i 0,i 0,i 0]
abbrev rah{a1:Type}(x:Bool×List a1×Int)(A1:Option Addr)(c1:Nat):List Value:=[.bool x.1,.slice A1 x.2.1.length c1,i x.2.2]
abbrev rai{a1:Type}(x:Int×Int×List a1×(Int×Int×ByteArray)×ByteArray×Int×Int)(A1:Option Addr)(c1:Nat):List Value:=[i x.1,i x.2.1,.slice A1 x.2.2.1.length c1,i x.2.2.2.1.1,i x.2.2.2.1.2.1,.string x.2.2.2.1.2.2,.string x.2.2.2.2.1,i x.2.2.2.2.2.1,i x.2.2.2.2.2.2]
abbrev raj(x:Int×Int×ByteArray):List Value:=[i x.1,i x.2.1,.string x.2.2]
abbrev rak{a1:Type}(x:List a1×Int)(A1:Option Addr)(c1:Nat):List Value:=[.slice A1 x.1.length c1,i x.2]
abbrev ral{a1:Type}(x:Int×Int×List a1×(Int×Int×ByteArray)×ByteArray×Int×Int)(A1:Option Addr)(c1:Nat):Value:=.agg #[i x.1,i x.2.1,.slice A1 x.2.2.1.length c1,i x.2.2.2.1.1,i x.2.2.2.1.2.1,.string x.2.2.2.1.2.2,.string x.2.2.2.2.1,i x.2.2.2.2.2.1,i x.2.2.2.2.2.2]
abbrev ram(x:Int×Int×ByteArray):Value:=.agg #[i x.1,i x.2.1,.string x.2.2]
abbrev ran(x:Int×Int×ByteArray×Int):Value:=.agg #[i x.1,i x.2.1,.string x.2.2.1,i x.2.2.2]
abbrev raa(x:Int×Int):List Value:=[i x.1,i x.2]
abbrev rab(x:Int×Int×Int×Int×Int×Int×Int×Int):List Value:=[i x.1,i x.2.1,i x.2.2.1,i x.2.2.2.1,i x.2.2.2.2.1,i x.2.2.2.2.2.1,i x.2.2.2.2.2.2.1,i x.2.2.2.2.2.2.2]
abbrev rac(x:(Int×Int)×(Int×Int)×Int×Int×Int×Int×Int×Int×Int×Int):List Value:=[i x.1.1,i x.1.2,i x.2.1.1,i x.2.1.2,i x.2.2.1,i x.2.2.2.1,i x.2.2.2.2.1,i x.2.2.2.2.2.1,i x.2.2.2.2.2.2.1,i x.2.2.2.2.2.2.2.1,i x.2.2.2.2.2.2.2.2.1,i x.2.2.2.2.2.2.2.2.2]
abbrev rad(x:Int×Int):Value:=.agg #[i x.1,i x.2]
abbrev rae(x:Int×Int×Int×Int×Int×Int×Int×Int):Value:=.agg #[i x.1,i x.2.1,i x.2.2.1,i x.2.2.2.1,i x.2.2.2.2.1,i x.2.2.2.2.2.1,i x.2.2.2.2.2.2.1,i x.2.2.2.2.2.2.2]
abbrev raf(x:(Int×Int)×Int):Value:=.agg #[i x.1.1,i x.1.2,i x.2]
abbrev rag(x:(Int×Int)×(Int×Int)×Int×Int×Int×Int×Int×Int×Int×Int):Value:=.agg #[i x.1.1,i x.1.2,i x.2.1.1,i x.2.1.2,i x.2.2.1,i x.2.2.2.1,i x.2.2.2.2.1,i x.2.2.2.2.2.1,i x.2.2.2.2.2.2.1,i x.2.2.2.2.2.2.2.1,i x.2.2.2.2.2.2.2.2.1,i x.2.2.2.2.2.2.2.2.2]
end Go.A
end
def Jb:=@Go.A.AL.done
def Jc:=@Go.A.Ct.enter
def Jd:=@Go.A.mvd
def Je:=@Go.A.AL.alloc
def Jf:=@Go.Z.i64_has
def Jg:=@Go.A.AX.join
def Jh:=@Go.A.ck
def Ji:=@Go.A.pb
def Jj:=@Go.A.xl
def Jk:=@Go.Z.rv_t
def Jl:=@Go.A.z0
def Jm:=@Go.A.zc
def Jn:=@Go.A.AH.done
def Jo:=@Go.A.AH.one
def Jp:=@Go.A.si
def Jq:=@Go.A.q0
def Jr:=@Go.A.AL.box
def Js:=@Go.A.zb
def Jt:=@Go.A.AX.ret
def Ju:=@Go.A.zf
def Jv:=@Go.A.AH.nx
def Jw:=@Go.A.AL.bsl
def Jy:=@Go.A.j
def Jz:=@Go.A.dl
def J0:=@Go.A.hq
def J1:=@Go.A.AL.on
def J2:=@Go.A.AL.callp
def J3:=@Go.A.AL.store
def J4:=@Go.A.zk
def J5:=@Go.A.Hp.blk
def J6:=@Go.A.pq_kont
def J7:=@Go.A.zg
def J8:=@Go.A.AX.dr
def J9:=@Go.A.no0
def Va:=@Go.A.ze
def Vb:=@Go.A.AH.v
def Vc:=@Go.A.v
def Vd:=@Go.A.zj
def Ve:=@Go.A.lp_
def Vf:=@Go.A.sw
def Vg:=@Go.A.AL.app
def Vh:=@Go.A.n
def Vi:=@Go.A.g
def Vj:=@Go.A.AL.ixs
def Vk:=@Go.A.r_ixa
def Vl:=@Go.A.AL.cnd
def Vm:=@Go.A.b
def Vn:=@Go.A.xe
def Vo:=@Go.Z.resv3
def Vp:=@Go.A.Cp.enter
def Vq:=@Go.A.rt1
def Vr:=@Go.A.rt2
def Vs:=@Go.A.zh
def Vt:=@Go.Z.resv2
def Vu:=@Go.A.zi
def Vv:=@Go.A.AH.pks
def Vw:=@Go.A.zd
def Vx:=@Go.A.rowO
def Vy:=@Go.A.sm_l
def Vz:=@Go.A.sm_r
def V0:=@Go.A.lt_some
def V1:=@Go.Z.rv_n
def V2:=@Go.A.nil
def V3:=@Go.A.xx
def V4:=@Go.A.m
def V5:=@Go.A.dx
def V6:=@Go.A.wrap_has
def V7:=@Go.Z.res0
def V8:=@Go.A.AH.vg
def V9:=@Go.A.AL.ixl
def Ua:=@Go.A.AL.cnp
def Ub:=@Go.A.AH.cnp
def Uc:=@Go.A.d
def Ud:=@Go.Z.resv1
def Ue:=@Go.A.c
def Uf:=@Go.A.AL.val
def Ug:=@Go.A.AH.pkl
def Uh:=@Go.A.AX.cnt
def Ui:=@Go.A.AE.ret
def Uj:=@Go.Z.slice_n
def Uk:=@Go.A.AE.retp
def Ul:=@Go.A.de
def Um:=@Go.Z.k0
def Un:=@Go.A.AX.cnf
def Uo:=@Go.A.AH.nm
def Up:=@Go.A.snil
def Uq:=@Go.A.b8_wrap
def Ur:=@Go.A.AX.retp
def Us:=@Go.A.AL.ixt
def Ut:=@Go.Z.Pq.body
def Uu:=@Go.Z.r_indexAddrE
def Uv:=@Go.A.dup
def Uw:=@Go.A.AL.lku
def Ux:=@Go.Z.u64_in
def Uy:=@Go.Z.mget_ins
def Uz:=@Go.A.frz
def U0:=@Go.A.r_ixt
def U1:=@Go.A.AH.q
def U2:=@Go.A.has_len
def U3:=@Go.A.AL.ixo
def U4:=@Go.A.seen_bd
def U5:=@Go.A.AH.pko
def U6:=@Go.Z.qseq
def U7:=@Go.Z.rv_1
section
namespace Go.Proofs.YtpoabedecgeamaaGreatDoor
open Go.RowKit
variable(A0_ A1_ A2_ A3_ A4_ A5_ A6_ A7_ A10_ A12_ A13_:Option Addr)(g0_ b1_ c1_ g1_ c2_ g2_ c3_ b4_ c4_ b5_ c5_ g5_ b6_ c6_ c7_ c8_ g10_ c11_ c13_ c14_:Nat)
set_option maxHeartbeats 400000 in
set_option maxRecDepth 20000 in
def Join_spec (xss:List (List UInt8))(w:World)(pA0:Option Addr)(pc0:Nat)(ph0:(Z.Ty.slice (Z.Ty.slice Z.Ty.byte)).rep w (Z.nt []) [.slice pA0 xss.length pc0] xss)(hlen:xss.flatten.length<=70368744177664):
  Calls Tryz.prog 92 #[.slice pA0 xss.length pc0,.slice none 0 0] w λe w'=>∃(rA0:Option Addr) (rc0:Nat),e=.returned (.slice rA0 xss.flatten.length rc0)/\(Z.Ty.slice Z.Ty.byte).rep w' (Z.iv w.heap.size w'.heap.size) [.slice rA0 xss.flatten.length rc0] xss.flatten/\Z.Ch [] w w':=by
 refine Z.enter Tryz.func92 rfl Tryz.ntmps92 (Qq rfl) λa J=>?_;have hle_pA0:=Z.rep_le ph0;have ph0o:=Z.rep_ol ph0;refine U6 [.n] [] [] [] Um J ?_;clear J a;intro a J;refine Z.seq' (Ut _ _ _) λQ1 L N O=>?_;refine U6 [.n,.n,.n] [14] [] [(14,.bool (decide ((xss.length:Int)=0)))] Um J ?_;clear J a;intro a J;refine Z.condp J rfl ?_ ?_
 ·intro hp5
  refine Z.seq' L λQ6 hp7 V he9=>?_;refine Z.reg ?_;refine Z.st_bslice0 J rfl Tryz.underlying25 Tryz.sizeOf5 ?_;clear J a;intro g10 w11 a hg12 hz13 hb14 hc15 J;have ho16:Z.Own Z.Ty.byte 5 g10 w11 Z.no (some ⟨g10,0,none⟩) 0 ([]:List UInt8):=Z.Own.made (t:=Z.Ty.byte) (xs:=([]:List UInt8)) hb14 (Q4 _) rfl (by simp[maxLen]) (by simp[Value.oneCell']) (λi x W=>by match i,W with|(j+0),W=>simp at W);refine Z.qe [.n] [4] [] [(4,.slice (some ⟨g10,0,none⟩) 0 0)] Um J ?_;clear J a;intro a J;refine V _ _ ?_;refine Z.ret ?_;refine O _ _ _ (by simp) ?_;have hr17:=ho16.riv;have hr18:(Z.Ty.slice Z.Ty.byte).rep w11 (Z.iv w.heap.size w11.heap.size) [.slice (some ⟨g10,0,none⟩) 0 0] ([]:List UInt8):=Z.rep_as hr17 (by intro b h1 h2;(try simp only[Z.nt,Z.iv,Z.no,Z.ol]at h1);(try simp only[Z.iv]);omega);have hxs19:([]:List UInt8)=(xss.flatten:List UInt8):=by have:xss=[]:=Qz (by omega);rw[this];simp
  have hr20:=Z.rep_eq hr18 hxs19;replace J:=J.setv (d:=4) (y:=.slice (some ⟨g10,0,none⟩) xss.flatten.length 0) rfl (by rw[<-hxs19]<;>first|done|rfl);refine Z.ret1 J Tryz.results92 rfl ?_;exact⟨some ⟨g10,0,none⟩,0,rfl,hr20,hc15⟩
 ·intro hp21
  refine Z.skip ?_;refine N _ _ ?_;refine Z.seq' (Ut _ _ _) λQ22 hp23 hn24 he25=>?_;refine U6 [.n,.n,.n] [18] [] [(18,.bool (decide ((xss.length:Int)=1)))] Um J ?_;clear J a;intro a J;refine Z.condp J rfl ?_ ?_
  ·intro hp26
   refine Z.seq' hp23 λQ27 hp28 hn29 he30=>?_;refine Z.reg ?_;refine Z.qr [.n] [19] [] [(19,.slice pA0 xss.length pc0)] Um J ?_;clear J a;intro a J;have hkx33:0<(xss).length:=(by omega);obtain⟨ad31,es32,(x33:(List UInt8)),hA34,hF35,hl36,hx37,hc38,hr39⟩:=Z.rep_el ph0o hkx33;have hok40:=Z.rep_ok _ hr39;obtain⟨A41,c42,he43,hn44,hn45⟩:=Z.rep_slice hr39;rw[he43]at hr39;have hle_A41:=Z.rep_le hr39;have he46:es32=[.slice A41 x33.length c42]:=by simp only[he43,Wz,Q5]
   rw[he46]at hc38;have hfl47:=Codec.flat_take hx37;refine Z.val J rfl (Uu Tryz.underlying154 Tryz.sizeOf25 (J.eval rfl) hA34 (J.eval rfl) (k:=0) (by first|rfl|omega) (by omega)) ?_;clear J a;intro a J;refine Z.qr [.e 0 0] [21] [] [(21,.slice A41 x33.length c42)] (Z.ke hc38 Um) J ?_;clear J a;intro a J;refine Z.st_append_flat (t:=Z.Ty.byte) J rfl Tryz.underlying25 inf5.1 inf5.2.1 inf5.2.2.1 inf5.2.2.2.1 inf5.2.2.2.2 (by decide) (by decide) rfl rfl (by first|rfl|omega) (Z.Own.nil Z.Ty.byte 5 w.heap.size w Z.no) rfl hr39 (by first|omega|(simp only[Qi,Qm,Qe];omega)|(simp;done)) (by omega) ?_;clear J a;intro A48 c49 w50 a ho51 hc52 hcas53 J;replace hc52:Z.Ch [] w w50:=hc52;have hzhc52:=hc52.size;have hob54: ∀k,k∈Z.obl A48->k=w.heap.size:=λk hk=>by rcases hcas53 k hk with h|h;cases h;exact h
   refine Z.qe [.n] [4] [] [(4,.slice A48 ((([]:List UInt8)++x33).length) c49)] Um J ?_;clear J a;intro a J;refine hn29 _ _ ?_;refine Z.ret ?_;refine he25 _ _ _ (by simp) ?_;have hr56:=ho51.rep (F':=(Z.iv w.heap.size (w.heap.size+1))) (λ_ h=>h.elim) (λk hk=>by have hob:=hob54 k hk;exact⟨by omega,by omega⟩);have hr57:(Z.Ty.slice Z.Ty.byte).rep w50 (Z.iv w.heap.size w50.heap.size) [.slice A48 ((([]:List UInt8)++x33).length) c49] (([]:List UInt8)++x33):=Z.rep_as hr56 (by intro b h1 h2;(try simp only[Z.nt,Z.iv,Z.no,Z.ol]at h1);(try simp only[Z.iv]);omega);have hxs58:([]:List UInt8)++x33=(xss.flatten:List UInt8):=by rw[<-Codec.flat_all (xs:=xss) (k:=1) (by omega)];simp_all
   have hr59:=Z.rep_eq hr57 hxs58;replace J:=J.setv (d:=4) (y:=.slice A48 xss.flatten.length c49) rfl (by rw[<-hxs58]<;>first|done|rfl);refine Z.ret1 J Tryz.results92 rfl ?_;exact⟨A48,c49,rfl,hr59,hc52⟩
  ·intro hp60
   refine Z.skip ?_;refine hn24 _ _ ?_;refine U6 [.n] [5] [] [(5,A.i 0)] Um J ?_;clear J a;intro a J;refine Z.seq' (Ut _ _ _) λQ61 hp62 hn63 he64=>?_;refine U6 [.n,.n,.n] [25] [] [(25,.bool (decide (0<(0:Int))))] Um J ?_;clear J a;intro a J;refine Z.condp J rfl ?_ ?_
   ·intro hp65
    exfalso;first|omega|contradiction|simp_all
   ·intro hp66
    refine Z.skip ?_;refine hn63 _ _ ?_;refine Z.seq' (Ut _ _ _) λQ67 hp68 hn69 he70=>?_;refine U6 [.n,.n,.n] [42,43,44] [] [(42,.slice pA0 xss.length pc0),(43,A.i (xss.length:Int)),(44,A.i 0)] Um J ?_;clear J a;intro a J;refine Z.block' hp68 λQ71 hp72 hn73 hx74 he75=>?_;refine Z.loop' hp72 (λm a wl=>∃(k:Nat),m=xss.length-k/\Z.Ch [] w wl/\(k<=xss.length)/\((xss.take k).flatten.length<=xss.flatten.length)/\Z.Fr a 92 [] [(0,.slice pA0 xss.length pc0),(1,.slice none 0 0),(5,A.i ((xss.take k).flatten.length:Int)),(42,.slice pA0 xss.length pc0),(43,A.i (xss.length:Int)),(44,A.i (k:Int))]) (xss.length-0) ?_ ?_
    ·replace J:=J.setv (d:=5) (y:=A.i ((xss.take 0).flatten.length:Int)) rfl (Xb (Value.int .i64) (by first|rfl|omega|(simp only[Qe,Qm,X8,Xw]at*;omega)|(simp;done)|(simp;omega)))
     replace J:=J.setv (d:=44) (y:=A.i (0:Int)) rfl (Xb (Value.int .i64) (by first|rfl|omega|(simp only[Qe,Qm,X8,Xw]at*;omega)|(simp;done)|(simp;omega)));exact⟨0,rfl,(Z.Ch.refl w),(by omega),(by exact Codec.flat_le _ _),(J.keep [0,1,5,42,43,44])⟩
    ·rintro m86 a w76 ⟨k79,hm78,hc77,hk84,hle85,J⟩ Q80 hp81 hn82 he83
     have hzhc77:=hc77.size;refine U6 [.n] [45] [] [(45,.bool (decide ((k79:Int)<(xss.length:Int))))] Um J ?_;clear J a;intro a J;refine Z.seq' hp81 λQ87 hp88 hn89 he90=>?_;refine Z.condp J rfl ?_ ?_
     ·intro hp91
      refine Z.skip ?_;refine hn89 _ _ ?_;refine Z.seq' hp81 λQ92 hp93 hn94 he95=>?_;refine Z.block' hp93 λQ96 hp97 hn98 hx99 he100=>?_;refine Z.seq' hp97 λQ101 hp102 hn103 he104=>?_;refine Z.reg ?_;have hr105:=Z.rep_to (F':=(Z.ol [] w.heap.size)) ph0o hc77;have hkx108:k79<(xss).length:=(by omega);obtain⟨ad106,es107,(x108:(List UInt8)),hA109,hF110,hl111,hx112,hc113,hr114⟩:=Z.rep_el hr105 hkx108;have hok115:=Z.rep_ok _ hr114;obtain⟨A116,c117,he118,hn119,hn120⟩:=Z.rep_slice hr114;rw[he118]at hr114;have hle_A116:=Z.rep_le hr114;have he121:es107=[.slice A116 x108.length c117]:=by simp only[he118,Wz,Q5]
      rw[he121]at hc113;have hfl122:=Codec.flat_take hx112;refine Z.val J rfl (Uu Tryz.underlying154 Tryz.sizeOf25 (J.eval rfl) hA109 (J.eval rfl) (k:=k79) (by first|rfl|omega) (by omega)) ?_;clear J a;intro a J;refine Z.qe [.e 0 0,.n] [7] [] [(7,.slice A116 x108.length c117)] (Z.ke hc113 Um) J ?_;clear J a;intro a J;refine hn103 _ _ ?_;refine Z.seq' hp97 λQ123 hp124 hn125 he126=>?_;refine U6 [.n,.n,.n,.n,.n] [52] [Z.R64 (9223372036854775807-((xss.take k79).flatten.length:Int))] [(52,.bool (decide (9223372036854775807-((xss.take k79).flatten.length:Int)<(x108.length:Int))))] Um J ?_;clear J a;intro a J;refine Z.condp J rfl ?_ ?_;intro hp127;exfalso;omega
      ·intro hp128
       refine Z.skip ?_;refine hn125 _ _ ?_;refine Z.qreg [.n,.n,.n,.n,.n] [5] [Z.R64 (((xss.take k79).flatten.length:Int)+(x108.length:Int))] [(5,A.i (((xss.take k79).flatten.length:Int)+(x108.length:Int)))] Um J ?_;clear J a;intro a J;refine hn98 _ _ ?_;refine hn94 _ _ ?_;refine Z.qreg [.n,.n] [44] [Z.R64 ((k79:Int)+1)] [(44,A.i ((k79:Int)+1))] Um J ?_;clear J a;intro a J;refine hn82 (xss.length-(k79+1)) _ _ ?_ ?_;rotate_left;replace J:=J.setv (d:=5) (y:=A.i ((xss.take (k79+1:Nat)).flatten.length:Int)) rfl (Xb (Value.int .i64) (by first|rfl|omega|(simp only[Qe,Qm,X8,Xw]at*;omega)|(simp;done)|(simp;omega)));replace J:=J.setv (d:=44) (y:=A.i ((k79+1:Nat):Int)) rfl (Xb (Value.int .i64) (by first|rfl|omega|(simp only[Qe,Qm,X8,Xw]at*;omega)|(simp;done)|(simp;omega)));exact⟨k79+1,rfl,hc77,(by omega),(by exact Codec.flat_le _ _),(J.keep [0,1,5,42,43,44])⟩;rw[hm78];omega
     ·intro hp129
      refine Z.exit ?_;refine he90 _ _ _ (by simp) ?_;refine he83 _ _ _ (by simp) ?_;refine hx74 _ _ ?_;refine hn69 _ _ ?_;refine Z.seq' (Ut _ _ _) λQ130 hp131 hn132 he133=>?_;refine Z.reg ?_;refine Z.qr [.n] [59] [] [(59,A.i ((xss.take k79).flatten.length:Int))] Um J ?_;clear J a;intro a J;have htot:(xss.take k79).flatten.length=xss.flatten.length:=by rw[Codec.flat_all (by omega)]
      refine Z.st_nozero (u:=((xss.take k79).flatten.length)) nz125 J rfl Tryz.underlying25 rfl (by omega) (by omega) ?_;clear J a;intro g134 w135 a c136 hg137 hz138 hfb139 hc140 hle141 hle142 J;refine Z.qr [.n,.n] [61,62] [] [(61,A.i ((xss.take k79).flatten.length:Int)),(62,A.i ((xss.take k79).flatten.length:Int))] Um J ?_;clear J a;intro a J;refine Z.val J rfl (Z.r_slice_hm (v:=((xss.take k79).flatten.length)) (m:=((xss.take k79).flatten.length)) Tryz.underlying25 Tryz.sizeOf5 (J.eval rfl) (J.eval rfl) (J.eval rfl) (by omega) (by omega) (by omega) (by omega)) ?_;clear J a;intro a J;refine Z.qe [.n] [8] [] [(8,.slice (some ⟨g134,0,none⟩) ((xss.take k79).flatten.length) ((xss.take k79).flatten.length))] Um J ?_;clear J a;intro a J;refine hn132 _ _ ?_;refine Z.seq' (Ut _ _ _) λQ143 hp144 hn145 he146=>?_;refine Z.reg ?_;refine Z.qr [.n,.n] [64,65] [] [(64,.slice (some ⟨g134,0,none⟩) ((xss.take k79).flatten.length) ((xss.take k79).flatten.length)),(65,.slice pA0 xss.length pc0)] Um J ?_;clear J a;intro a J;have hq147:Z.Ch [] w w135:=hc77.then hc140;have hr148:=Z.rep_to (F':=(Z.ol [] w.heap.size)) ph0o hq147;have hkx151:0<(xss).length:=(by omega);obtain⟨ad149,es150,(x151:(List UInt8)),hA152,hF153,hl154,hx155,hc156,hr157⟩:=Z.rep_el hr148 hkx151;have hok158:=Z.rep_ok _ hr157;obtain⟨A159,c160,he161,hn162,hn163⟩:=Z.rep_slice hr157;rw[he161]at hr157;have hle_A159:=Z.rep_le hr157;have he164:es150=[.slice A159 x151.length c160]:=by simp only[he161,Wz,Q5]
      rw[he164]at hc156;have hfl165:=Codec.flat_take hx155;refine Z.val J rfl (Uu Tryz.underlying154 Tryz.sizeOf25 (J.eval rfl) hA152 (J.eval rfl) (k:=0) (by first|rfl|omega) (by omega)) ?_;clear J a;intro a J;refine Z.qr [.e 0 0] [67] [] [(67,.slice A159 x151.length c160)] (Z.ke hc156 Um) J ?_;clear J a;intro a J;refine Z.st_copy (g:=g134) (u:=((xss.take k79).flatten.length)) (done:=([]:List UInt8)) J rfl Tryz.underlying25 inf5.sz rfl (Or.inr rfl) rfl hr157 hfb139 (by first|omega|(simp only[Qm,Qe];omega)|simp) (by first|omega|(simp only[Qm,Qe];omega)|simp) ?_;clear J a;intro w166 a hfb167 hc168 hz169 J;refine Z.qe [.n] [9] [] [(9,A.i ((x151).length:Int))] Um J ?_;clear J a;intro a J;refine hn145 _ _ ?_;refine Z.seq' (Ut _ _ _) λQ170 hp171 hn172 he173=>?_;refine Z.seq' hp171 λQ174 hp175 hn176 he177=>?_;refine Z.reg ?_;refine Z.qr [.n] [69] [] [(69,.slice pA0 xss.length pc0)] Um J ?_;clear J a;intro a J;have hq178:Z.Ch [g134] w w166:=hq147.then hc168;have hr179:=Z.rep_to (F':=(Z.ol [] w.heap.size)) ph0o hq178;have hl180:=Z.rep_slice_len hr179;have hr181:=Z.rep_cut0 hr179 1 (by omega);have hn182:(xss.drop 1).length=(xss).length -1:=by first|rfl|omega|(simp only[Qo,Qu];done)|(simp only[Qo,Qu];omega)
      refine Z.val J rfl (Z.r_slice_l (u:=1) Tryz.underlying154 Tryz.sizeOf25 (J.eval rfl) (J.eval rfl) (by omega) (by omega)) ?_;clear J a;intro a J;replace J:=J.setv (d:=70) (y:=.slice (Z.cutA pA0 pc0 1 1) ((xss.drop 1).length) (pc0-1)) rfl (Uj (by first|rfl|omega|(simp only[Qo,Qu];done)|(simp only[Qo,Qu];omega)|(simp;omega)));refine Z.qe [.n,.n] [71,72] [] [(71,A.i ((xss.drop 1).length:Int)),(72,A.i 0)] Um J ?_;clear J a;intro a J;refine hn176 _ _ ?_;refine Z.block' hp171 λQ183 hp184 hn185 hx186 he187=>?_;refine Z.loop' hp184 (λm a wl=>∃(k:Nat),m=xss.length-k/\Z.Ch [g134] w166 wl/\Z.FB wl g134 5 ((xss.take k79).flatten.length) ((xss.take (k+1)).flatten)/\(k+1<=xss.length)/\((xss.take (k+1)).flatten.length<=xss.flatten.length)/\Z.Fr a 92 [] [(1,.slice none 0 0),(8,.slice (some ⟨g134,0,none⟩) ((xss.take k79).flatten.length) ((xss.take k79).flatten.length)),(9,A.i ((xss.take (k+1)).flatten.length:Int)),(70,.slice (Z.cutA pA0 pc0 1 1) ((xss.drop 1).length) (pc0-1)),(71,A.i ((xss.drop 1).length:Int)),(72,A.i (k:Int))]) (xss.length-0) ?_ ?_
      ·replace J:=J.setv (d:=9) (y:=A.i ((xss.take (0+1)).flatten.length:Int)) rfl (Xb (Value.int .i64) (by first|rfl|omega|(simp only[Qe,Qm,X8,Xw]at*;omega)|(simp;done)|(simp;omega)))
       replace J:=J.setv (d:=72) (y:=A.i (0:Int)) rfl (Xb (Value.int .i64) (by first|rfl|omega|(simp only[Qe,Qm,X8,Xw]at*;omega)|(simp;done)|(simp;omega)));exact⟨0,rfl,(Z.Ch.refl' _ _),((by rw[hfl165.1];simp:(([]:List UInt8)++x151)=(xss.take (0+1)).flatten)▸hfb167),(by omega),(by exact Codec.flat_le _ _),(J.keep [1,8,9,70,71,72])⟩
      ·rintro m199 a w188 ⟨k191,hm190,hc189,hfb196,hk197,hle198,J⟩ Q192 hp193 hn194 he195
       have hzhc189:=hc189.size;refine U6 [.n] [73] [] [(73,.bool (decide ((k191:Int)<((xss.drop 1).length:Int))))] Um J ?_;clear J a;intro a J;refine Z.seq' hp193 λQ200 hp201 hn202 he203=>?_;refine Z.condp J rfl ?_ ?_
       ·intro hp204
        refine Z.skip ?_;refine hn202 _ _ ?_;refine Z.seq' hp193 λQ205 hp206 hn207 he208=>?_;refine Z.block' hp206 λQ209 hp210 hn211 hx212 he213=>?_;refine Z.seq' hp210 λQ214 hp215 hn216 he217=>?_;refine Z.reg ?_;have hr218:=Z.rep_to (F':=(Z.ol [] w.heap.size)) hr181 hc189;have hkx221:k191<(xss.drop 1).length:=(by omega);obtain⟨ad219,es220,(x221:(List UInt8)),hA222,hF223,hl224,hx225,hc226,hr227⟩:=Z.rep_el hr218 hkx221;have hok228:=Z.rep_ok _ hr227;obtain⟨A229,c230,he231,hn232,hn233⟩:=Z.rep_slice hr227;rw[he231]at hr227;have hle_A229:=Z.rep_le hr227;have he234:es220=[.slice A229 x221.length c230]:=by simp only[he231,Wz,Q5]
        rw[he234]at hc226;have hfl235:=Codec.flat_take (xs:=xss) (k:=k191+1) (by have h:=hx225;rw[Wl,Yg]at h;exact h);refine Z.val J rfl (Uu Tryz.underlying154 Tryz.sizeOf25 (J.eval rfl) hA222 (J.eval rfl) (k:=k191) (by first|rfl|omega) (by omega)) ?_;clear J a;intro a J;refine Z.qe [.e 0 0,.n] [11] [] [(11,.slice A229 x221.length c230)] (Z.ke hc226 Um) J ?_;clear J a;intro a J;refine hn216 _ _ ?_;refine Z.seq' hp210 λQ236 hp237 hn238 he239=>?_;refine Z.reg ?_;refine Z.qr [.n,.n,.n] [76,77,78] [] [(76,A.i ((xss.take (k191+1)).flatten.length:Int)),(77,.slice (some ⟨g134,0,none⟩) ((xss.take k79).flatten.length) ((xss.take k79).flatten.length)),(78,A.i ((xss.take (k191+1)).flatten.length:Int))] Um J ?_;clear J a;intro a J;refine Z.val J rfl (Z.r_slice_l (u:=((xss.take (k191+1)).flatten.length)) Tryz.underlying25 Tryz.sizeOf5 (J.eval rfl) (J.eval rfl) (by omega) (by first|omega|(simp only[Qm,Qe];omega)|simp)) ?_;clear J a;intro a J;refine Z.qr [.n] [80] [] [(80,.slice none 0 0)] Um J ?_;clear J a;intro a J;have hr240:(Z.Ty.slice Z.Ty.byte).rep w188 (Z.nt []) [.slice none 0 0] []:=Z.rep_nil _;refine Z.st_copy (g:=g134) (u:=((xss.take k79).flatten.length)) (done:=(xss.take (k191+1)).flatten) J rfl Tryz.underlying25 inf5.sz rfl (by first|exact Or.inl rfl|(left;omega)|(simp only[Z.cutA,Wp,Go.Addr.add_lit];by_cases hz:((xss.take k79).flatten.length)=((xss.take (k191+1)).flatten.length);(left;(try simp only[Qe,Qm]at*);omega);(right;rw[Qb hz];congr 2;(try simp only[Qe,Qm]at*);omega))) rfl hr240 hfb196 (by first|omega|(simp only[Qm,Qe];omega)|simp) (by first|omega|(simp only[Qm,Qe];omega)|simp) ?_;clear J a;intro w241 a hfb242 hc243 hz244 J;replace J:=J.seti (d:=81) (y:=0) rfl rfl;refine Z.qe [.n,.n] [9] [Z.R64 (((xss.take (k191+1)).flatten.length:Int)+0)] [(9,A.i (((xss.take (k191+1)).flatten.length:Int)+0))] Um J ?_;clear J a;intro a J;refine hn238 _ _ ?_;refine Z.reg ?_;refine Z.qr [.n,.n,.n] [83,84,85] [] [(83,A.i (((xss.take (k191+1)).flatten.length:Int)+0)),(84,.slice (some ⟨g134,0,none⟩) ((xss.take k79).flatten.length) ((xss.take k79).flatten.length)),(85,A.i (((xss.take (k191+1)).flatten.length:Int)+0))] Um J ?_;clear J a;intro a J;refine Z.val J rfl (Z.r_slice_l (u:=(((xss.take (k191+1)).flatten.length)+0)) Tryz.underlying25 Tryz.sizeOf5 (J.eval rfl) (J.eval rfl) (by omega) (by first|omega|(simp only[Qm,Qe];omega)|simp)) ?_;clear J a;intro a J;refine Z.qr [.n] [87] [] [(87,.slice A229 x221.length c230)] Um J ?_;clear J a;intro a J;have hr245:=Z.rep_to (F':=(Z.ol [] w.heap.size)) hr227 hc243;refine Z.st_copy (g:=g134) (u:=((xss.take k79).flatten.length)) (done:=((xss.take (k191+1)).flatten++([]:List UInt8))) J rfl Tryz.underlying25 inf5.sz rfl (by first|exact Or.inl rfl|(left;omega)|(simp only[Z.cutA,Wp,Go.Addr.add_lit];by_cases hz:((xss.take k79).flatten.length)=(((xss.take (k191+1)).flatten.length)+0);(left;(try simp only[Qe,Qm]at*);omega);(right;rw[Qb hz];congr 2;(try simp only[Qe,Qm]at*);omega))) rfl hr245 hfb242 (by first|omega|(simp only[Qm,Qe];omega)|simp) (by first|omega|(simp only[Qm,Qe];omega)|simp) ?_;clear J a;intro w246 a hfb247 hc248 hz249 J;refine Z.qe [.n,.n] [9] [Z.R64 (((xss.take (k191+1)).flatten.length:Int)+0+((x221).length:Int))] [(9,A.i (((xss.take (k191+1)).flatten.length:Int)+0+((x221).length:Int)))] Um J ?_;clear J a;intro a J;refine hn211 _ _ ?_;refine hn207 _ _ ?_;refine Z.qreg [.n,.n] [72] [Z.R64 ((k191:Int)+1)] [(72,A.i ((k191:Int)+1))] Um J ?_;clear J a;intro a J;refine hn194 (xss.length-(k191+1)) _ _ ?_ ?_;rotate_left;replace J:=J.setv (d:=9) (y:=A.i ((xss.take ((k191+1:Nat)+1)).flatten.length:Int)) rfl (Xb (Value.int .i64) (by first|rfl|omega|(simp only[Qe,Qm,X8,Xw]at*;omega)|(simp;done)|(simp;omega)));replace J:=J.setv (d:=72) (y:=A.i ((k191+1:Nat):Int)) rfl (Xb (Value.int .i64) (by first|rfl|omega|(simp only[Qe,Qm,X8,Xw]at*;omega)|(simp;done)|(simp;omega)));have hq250:Z.Ch [g134] w166 w241:=hc189.then hc243;have hq251:Z.Ch [g134] w166 w246:=hq250.then hc248;exact⟨k191+1,rfl,hq251,((by rw[hfl235.1];simp:(((xss.take (k191+1)).flatten++([]:List UInt8))++x221)=(xss.take ((k191+1:Nat)+1)).flatten)▸hfb247),(by omega),(by exact Codec.flat_le _ _),(J.keep [1,8,9,70,71,72])⟩;rw[hm190];omega
       ·intro hp252
        refine Z.exit ?_;refine he203 _ _ _ (by simp) ?_;refine he195 _ _ _ (by simp) ?_;refine hx186 _ _ ?_;refine hn172 _ _ ?_;refine U6 [.n,.n] [4] [] [(4,.slice (some ⟨g134,0,none⟩) ((xss.take k79).flatten.length) ((xss.take k79).flatten.length))] Um J ?_;clear J a;intro a J;refine Z.ret ?_;have hr253:=Z.FB.rep (F:=(Z.iv w.heap.size w188.heap.size)) (c:=((xss.take k79).flatten.length)) hfb196 (by rw[Codec.flat_all (by omega)];omega) ⟨by omega,by omega⟩ (by omega) (by first|omega|(simp only[maxLen];omega));have hxs254:(xss.take (k191+1)).flatten=(xss.flatten:List UInt8):=by exact Codec.flat_all (by omega)
        have hr255:=Z.rep_eq hr253 hxs254;replace J:=J.setv (d:=4) (y:=.slice (some ⟨g134,0,none⟩) xss.flatten.length ((xss.take k79).flatten.length)) rfl (Uj (by first|rfl|omega));have hq256:Z.Ch [g134] w w188:=hq178.then hc189;refine Z.ret1 J Tryz.results92 rfl ?_;exact⟨some ⟨g134,0,none⟩,((xss.take k79).flatten.length),rfl,hr255,(Z.Ch.mono hq256 (by intro k hk;(try simp only[Qn,Qx,Y4,or_false,false_or]at hk ⊢)<;>omega))⟩
def F.es (o:List (List UInt8)):Option (List UInt8):=A.gd (o.flatten.length<=70368744177664) (some o.flatten)
theorem o_bq(o:List (List UInt8))(r:List UInt8)(s:F.es o=some r):
  A.Ct Tryz.prog 92 [.slice A0_ o.length c1_,.slice none 0 0] [(0,.sh (.slice (Z.Ty.slice Z.Ty.byte)) [.slice A0_ o.length c1_] o)] [] (λv H'=>∃(A0':Option Addr) (c1':Nat),v=.slice A0' r.length c1'/\H'=[(0,.sh (.slice Z.Ty.byte) [.slice A0' r.length c1'] r)]):=by
 have⟨h,s⟩:=Vi s;obtain rfl:=Jp s;exact A.Ct.join λw hr=>Join_spec o w A0_ c1_ hr h
end Go.Proofs.YtpoabedecgeamaaGreatDoor
end
section
namespace Go.Proofs.YtpoabedecgeamaaGreatDoor
open Go.RowKit
variable(A0_ A1_ A2_ A3_ A4_ A5_ A6_ A7_ A10_ A12_ A13_:Option Addr)(g0_ b1_ c1_ g1_ c2_ g2_ c3_ b4_ c4_ b5_ c5_ g5_ b6_ c6_ c7_ c8_ g10_ c11_ c13_ c14_:Nat)
def F.bY (o:(List UInt8))(s:(List UInt8)):Option Bool:=some (decide ((ByteArray.mk (o).toArray)=(ByteArray.mk (s).toArray)))
theorem o_x(o:(List UInt8))(s:(List UInt8))(r:Bool)(u:F.bY o s=some r):
    A.Ct Tryz.prog 11 [.slice A0_ o.length c1_,.slice A2_ s.length c3_] [(0,.ln Z.Ty.byte A0_ c1_ o),(1,.ln Z.Ty.byte A2_ c3_ s)] [] (λv H'=>v=.bool r/\H'=[]):=by
 refine Jc Tryz.func11 rfl Tryz.ntmps11 rfl λw0 z=>?_;rw[F.bY]at u;refine Jj 1 ?_;refine Jm 1 [] 2 ?_;refine Vh 1 [(5,.slice A0_ o.length c1_)] (A.okl 0 λhl1=>?_);refine A.AL.cvt (A.rowL (k:=0) rfl) rfl ?_;refine Vh 1 [(7,.slice A2_ s.length c3_)] (A.okl 1 λhl2=>?_);refine A.AL.cvt (A.rowL (k:=1) rfl) rfl ?_;refine Js 2 [(4,.bool (decide ((ByteArray.mk (o).toArray)=(ByteArray.mk (s).toArray))))] 1 ?_;exact A.ke u (Vd ⟨rfl,rfl⟩)
abbrev pv (e:Int):Value:=.iface 169 (.agg #[A.i e])
def Qfy (g0_:Nat)(a0:Int)(h1_:A.h6 a0):A.CtN Tryz.prog 48 [.pointer (some ⟨g0_,0,none⟩)] [(0,.blk g0_ 28 [A.i a0])] [g0_] (λv H'=>v=.tuple #[]/\H'=[(0,.blk g0_ 28 [A.i a0])]):=by
 refine A.CtN.enter Tryz.func48 rfl Tryz.ntmps48 rfl rfl λw0 F0=>?_;refine Jj 2 ?_;refine Uf rfl (λa w J L=>Z.r_eqif_nil Tryz.underlying20 (J.eval rfl)) ?_;refine V5 1 ?_;refine Uh rfl ?_;refine Jj 0 ?_;refine Jq [] [] [.n] [] ?_;refine Ul 1 ?_;exact Ui [(0,0)] (.tuple #[]) (λa w J L=>V7 rfl w) (⟨rfl,rfl⟩)
def caught_p (g0_:Nat)(a0 x:Int)(h1_:A.h6 a0):A.CtR Tryz.prog pv x 48 [.pointer (some ⟨g0_,0,none⟩)] [(0,.blk g0_ 28 [A.i a0])] [g0_] (λv H'=>v=.tuple #[]/\H'=[(0,.blk g0_ 28 [A.i x])]):=by
 refine A.CtR.enter Tryz.func48 rfl Tryz.ntmps48 rfl rfl λw0 F0=>?_;refine Jj 2 ?_;refine Uf rfl (λa w J L=>Z.r_eqif_some Tryz.underlying20 (J.eval rfl)) ?_;refine V5 1 ?_;refine Un rfl ?_;refine Jj 1 ?_;refine Uf rfl (λa w J L=>A.r_tas J Tryz.underlying169) ?_;refine Jq [] [] [.n,.n] [(9,.bool true),(10,.agg #[A.i x])] ?_;refine V5 1 ?_;refine Uh rfl ?_;refine Jj 1 ?_;refine Je 1 (cs:=[A.i 0]) Tryz.zeroValue169 λN=>?_;refine Vf 1 [] [A.i x] ?_;refine Jz 1 ?_;refine Jq [1] [] [.n,.n,.b 0 0,.n] [(13,A.i x),(14,.pointer (some ⟨g0_,0,none⟩))] ?_;refine Vf 0 [] [A.i x] ?_;refine Ul 1 ?_;exact Ui [(0,0)] (.tuple #[]) (λa w J L=>V7 rfl w) (⟨rfl,rfl⟩)
def F.w (o:Int):Option (Int ⊕ Unit):=if o≠0 then(some (.inl o))else(some (.inr ()))
theorem o_e (o:Int)(u:A.h6 o)(r:Int ⊕ Unit)(s:F.w o=some r):
    A.Cp Tryz.prog pv 49 [A.i o] [] [] (λv H'=>∃(x_:Unit),r=.inr x_/\v=.tuple #[]/\H'=[]) (A.EZ r):=by
 refine Vp Tryz.func49 rfl Tryz.ntmps49 rfl λw0 z=>?_;rw[F.w]at s;refine J7 1 2 [(3,.bool (decide (o≠0)))] 1 s ?_ ?_<;>intro B s;refine Va 0 2 [(5,.agg #[A.i o])] ?_;refine Uf rfl (λa w hf hh=>A.r_mki hf Tryz.underlying169) ?_;obtain rfl:=Jp s;exact A.AL.pan (E:=A.EZ _) J6 ⟨rfl,u⟩;refine Vn 1 ?_;obtain rfl:=Jp s;exact Uk [] (.tuple #[]) (λa w hf hh=>V7 rfl w) (⟨_,rfl,rfl,rfl⟩)
def F.cN (o:(List (List UInt8))):Option (List UInt8):=(F.es o).bind λs=>(some s)
theorem o_au(o:(List (List UInt8)))(r:(List UInt8))(u:F.cN o=some r):
    A.Ct Tryz.prog 45 [.slice A0_ o.length c1_] [(0,.sh (.slice (Z.Ty.slice Z.Ty.byte)) [.slice A0_ o.length c1_] o)] [] (λv H'=>∃(A0':Option Addr) (c1':Nat),v=.slice A0' r.length c1'/\H'=[(0,.sh (.slice Z.Ty.byte) [.slice A0' r.length c1'] r)]):=by
 refine Jc Tryz.func45 rfl Tryz.ntmps45 rfl λw0 L=>?_;rw[F.cN]at u;refine Jj 1 ?_;refine Jm 1 [] 2 ?_;refine Vh 1 [(3,.slice A0_ o.length c1_)] (Vc 1 [] u (o_bq A0_ c1_ o) (.s 0 .nil) ?_);rintro J - u _ _ ⟨z,B,rfl,rfl⟩;refine Jh (Js 1 [(2,.slice z J.length B)] 1 ?_);obtain rfl:=Jp u;exact Vq [(0,1)] ⟨z,B,rfl,rfl⟩
def F.bZ (u:UInt8):Nat->(List UInt8)->Int->Option (List UInt8)
 |0,_,_=>none
 |f+1,o,s=>if(0:Int)<s then(A.gd ((List.length (α:=UInt8) [A.b8 (s)]+List.length (α:=UInt8) o)*1<=140737488355328) (A.gd ((0<=(8:Int)/\(8:Int)<=64)) ((F.bZ u f) ([A.b8 (s)]++o) (s / 2^((8:Int)).toNat))))else(A.gd ((List.length (α:=UInt8) [A.b8 ((u.toNat:Int)+(IntKind.u8.wrap ((o.length:Int))))]+List.length (α:=UInt8) o)*1<=140737488355328) (some ([A.b8 ((u.toNat:Int)+(IntKind.u8.wrap ((o.length:Int))))]++o)))
def F.dp (o:UInt8)(s:Int):Option (List UInt8):=F.bZ o A.FU [] s
def F.c1 (o:Int):Option (List UInt8):=if(bif decide ((0:Int)<=o)then decide (o<100)else false)=true then(A.gd (Z.R64 (100+o)) (some [A.b8 (100+o)]))else(if(bif decide (o<0)then decide ((-50:Int)<=o)else false)=true then(A.gd (Z.R64 (50+o)) (some [A.b8 (50+o)]))else(if o<0 then(A.gd (Z.R64 ((-1)-o)) (F.dp (207:UInt8) (IntKind.u64.wrap ((-1)-o))))else(F.dp (199:UInt8) (IntKind.u64.wrap (o)))))
theorem o_al (s:Int)(ac:A.h6 s)(r:(List UInt8))(o:F.c1 s=some r):
    A.Ct Tryz.prog 46 [A.i s] [] [] (λv H'=>∃(A0':Option Addr) (c1':Nat),v=.slice A0' r.length c1'/\H'=[(0,.own Z.Ty.byte 5 A0' c1' r)]):=by
 refine Jc Tryz.func46 rfl Tryz.ntmps46 rfl λw0 F0=>?_;rw[F.c1]at o;refine Jj 1 ?_;refine Jm 1 [] 4 ?_;refine Vw [] [] [.n,.n,.n,.sy .n,.sy .n,.pk,.n] [(6,.bool (bif decide ((0:Int)<=s)then decide (s<100)else false))] 1 ?_;refine Uc o ?_ ?_<;>intro U o;refine Jj 1 ?_;have⟨a6,o⟩:=Vi o;refine V4 3 [Z.R64 (100+s)] [(15,.int .u8 (IntKind.u8.wrap (100+s)))] a6 ?_;refine Jw 0 (ty:=Z.Ty.byte) (cs:=[.int .u8 (IntKind.u8.wrap (100+s))]) [A.b8 (100+s)] ⟨(Xb (λz=>[Value.int .u8 z]) (Uq _)),rfl⟩ (λg2=>?_) Tryz.zeroValue5 Tryz.sizeOf5;refine Js 1 [(2,.slice (some ⟨g2,0,none⟩) 1 1)] 1 ?_;obtain rfl:=Jp o;exact Vq [(0,0)] ⟨(some ⟨g2,0,none⟩),1,rfl,rfl⟩;refine Vu 1 [] [] [.n,.n,.n,.sy .n,.sy .n,.pk,.n] [(17,.bool (bif decide (s<0)then decide ((-50:Int)<=s)else false))] 1 ?_;refine Uc o ?_ ?_<;>intro U o;refine Jj 1 ?_;have⟨a7,o⟩:=Vi o;refine V4 3 [Z.R64 (50+s)] [(26,.int .u8 (IntKind.u8.wrap (50+s)))] a7 ?_;refine Jw 1 (ty:=Z.Ty.byte) (cs:=[.int .u8 (IntKind.u8.wrap (50+s))]) [A.b8 (50+s)] ⟨(Xb (λz=>[Value.int .u8 z]) (Uq _)),rfl⟩ (λg4=>?_) Tryz.zeroValue5 Tryz.sizeOf5;refine Js 1 [(2,.slice (some ⟨g4,0,none⟩) 1 1)] 1 ?_;obtain rfl:=Jp o;exact Vq [(0,1)] ⟨(some ⟨g4,0,none⟩),1,rfl,rfl⟩;refine Ju 4 4 [(3,.int .u8 199),(4,.int .u64 (IntKind.u64.wrap (s)))] 1 ?_;refine Jg [] [] (λV W=>∃(J:UInt8)(L:Int),V=[(3,.int .u8 (J.toNat:Int)),(4,.int .u64 L)]/\W=[]/\IntKind.u64.has L/\F.dp J L=some r) ?_ ?_;refine J7 1 2 [(31,.bool (decide (s<0)))] 1 o ?_ ?_<;>intro U o;refine Jj 0 ?_;have⟨a8,o⟩:=Vi o;refine V4 5 [Z.R64 ((-1)-s)] [(3,.int .u8 207),(4,.int .u64 (IntKind.u64.wrap ((-1)-s)))] a8 (Jb ?_);exact Jy ⟨(207:UInt8),(IntKind.u64.wrap ((-1)-s)),rfl,rfl,(V6 _ _),o⟩;refine Vn 1 ?_;exact Jy ⟨(199:UInt8),(IntKind.u64.wrap (s)),rfl,rfl,(V6 _ _),o⟩;rintro _ _ ⟨J,L,rfl,rfl,a9,o⟩;rw[F.dp]at o;refine Ju 1 1 [(5,.slice none 0 0)] 3 ?_;refine V2 6 Z.Ty.byte 5 ?_;refine Ve [3] [] (λf V W=>∃(u:List UInt8)(B:Int)(N:Option Addr)(O:Nat),V=[(4,.int .u64 B),(5,.slice N u.length O)]/\W=[(6,.own Z.Ty.byte 5 N O u)]/\IntKind.u64.has B/\F.bZ J f u B=some r) ⟨[],L,none,0,rfl,rfl,a9,o⟩ ?_;rintro a1 _ _ ⟨u,B,N,O,rfl,rfl,aa,o⟩;rcases a1 with _|a1
 exact J9 o;rw[F.bZ]at o;refine J7 2 2 [(36,.bool (decide ((0:Int)<B)))] 1 o ?_ ?_<;>intro U o;refine Va 4 2 [(40,.int .u8 (IntKind.u8.wrap (B)))] ?_;refine Jw 13 (ty:=Z.Ty.byte) (cs:=[.int .u8 (IntKind.u8.wrap (B))]) [A.b8 (B)] ⟨(Xb (λz=>[Value.int .u8 z]) (Uq _)),rfl⟩ (λad=>?_) Tryz.zeroValue5 Tryz.sizeOf5;refine Vh 1 [(42,.slice N u.length O)] ?_;have⟨hl17,o⟩:=Vi o;refine Vg (k:=13) [] (Vx (k:=6) rfl) inf5 hl17 λa2 a3=>?_;refine Jm 1 [(5,.slice a2 (([A.b8 (B)]++u).length) a3)] 2 ?_;have⟨ab,o⟩:=Vi o;refine V4 3 [(0<=(8:Int)/\(8:Int)<=64)] [(4,.int .u64 (B / 2^((8:Int)).toNat))] ab (Jb ?_);refine A.mv 6 14 [] ?_;refine Jd 13 6 [] ?_;exact Jy ⟨_,Qj _,⟨([A.b8 (B)]++u),(B / 2^((8:Int)).toNat),a2,a3,rfl,rfl,(A.has_shr aa),o⟩⟩;refine Va 3 5 [(48,.int .u8 (IntKind.u8.wrap ((J.toNat:Int)+(IntKind.u8.wrap ((u.length:Int))))))] ?_;refine Jw 15 (ty:=Z.Ty.byte) (cs:=[.int .u8 (IntKind.u8.wrap ((J.toNat:Int)+(IntKind.u8.wrap ((u.length:Int)))))]) [A.b8 ((J.toNat:Int)+(IntKind.u8.wrap ((u.length:Int))))] ⟨(Xb (λz=>[Value.int .u8 z]) (Uq _)),rfl⟩ (λae=>?_) Tryz.zeroValue5 Tryz.sizeOf5;refine Vh 1 [(50,.slice N u.length O)] ?_;have⟨hl22,o⟩:=Vi o;refine Vg (k:=15) [] (Vx (k:=6) rfl) inf5 hl22 λa4 a5=>?_;refine Js 1 [(2,.slice a4 (([A.b8 ((J.toNat:Int)+(IntKind.u8.wrap ((u.length:Int))))]++u).length) a5)] 1 ?_;obtain rfl:=Jp o;exact Vq [(0,15)] ⟨a4,a5,rfl,rfl⟩
def F.b8 (s:(List Int)):Nat->(List UInt8)->Int->Option (List UInt8)
 |0,_,_=>none
 |f+1,u,o=>if o<(s.length:Int)then((A.ix s o).bind λB=>((F.c1 B).bind λz=>(A.gd ((List.length (α:=UInt8) u+List.length (α:=UInt8) z)*1<=140737488355328) (A.gd (Z.R64 (o+1)) ((F.b8 s f) (u++z) (o+1))))))else(some u)
def F.dX (o:(List Int)):Option (List UInt8):=F.b8 o A.FU [] 0
theorem o_bz(z:(List Int))(r:(List UInt8))(o:F.dX z=some r):
    A.Ct Tryz.prog 101 [.slice A0_ z.length c1_] [(0,.ln A.ti A0_ c1_ z)] [] (λv H'=>∃(A0':Option Addr) (c1':Nat),v=.slice A0' r.length c1'/\H'=[(0,.own Z.Ty.byte 5 A0' c1' r)]):=by
 refine Jc Tryz.func101 rfl Tryz.ntmps101 rfl λw0 F0=>?_;rw[F.dX]at o;refine Jj 1 ?_;refine Jm 1 [] 2 ?_;refine Jm 1 [(3,.slice none 0 0)] 3 ?_;refine Js 3 [(6,.slice A0_ z.length c1_),(7,A.i (z.length:Int)),(8,A.i 0)] 2 ?_;refine V2 44 Z.Ty.byte 5 ?_;refine Ve [6,7] [0] (λf nl nh=>∃(s:List UInt8)(u:Int)(B:Option Addr)(J:Nat),nl=[(3,.slice B s.length J),(8,A.i u)]/\nh=[(44,.own Z.Ty.byte 5 B J s)]/\A.h6 u/\F.b8 z f s u=some r) ⟨[],0,none,0,rfl,rfl,Jl,o⟩ ?_;rintro N _ _ ⟨s,u,B,J,rfl,rfl,a3,o⟩;rcases N with _|N
 exact J9 o;rw[F.b8]at o;refine J7 1 1 [(9,.bool (decide (u<(z.length:Int))))] 2 o ?_ ?_<;>intro hb o;refine Jj 5 ?_;have⟨L,a1,o⟩:=Vm o;refine V9 0 127 a1 λa2=>?_;intro a4 a5;refine Jq [] [127] [.e 0 0,.n] [(5,A.i L)] (Jz 1 ?_);refine Vh 2 [(12,.slice B s.length J),(13,A.i L)] (Vc 128 [] o (o_al L a2) .nil ?_);rintro O - o _ _ ⟨a6,a7,rfl,rfl⟩;refine Jh ?_;have⟨hl18,o⟩:=Vi o;refine Vg (k:=44) [] (Vx (k:=128) rfl) inf5 hl18 λU V=>?_;refine Jm 1 [(3,.slice U ((s++O).length) V)] 2 ?_;have⟨W,o⟩:=Vi o;refine V4 2 [Z.R64 (u+1)] [(8,A.i (u+1))] W (Jb ?_);exact Jy ⟨_,Qj _,⟨(s++O),(u+1),U,V,rfl,rfl,(Jf W),o⟩⟩;refine Ju 3 2 [(2,.slice B s.length J)] 1 ?_;obtain rfl:=Jp o;exact Vq [(0,44)] ⟨B,J,rfl,rfl⟩
def F.r (o:D114)(s:(List Int)):Option D114:=(F.dX s).bind λu=>((F.cN [o,u]).bind λz=>(some z))
theorem o_c(o:D114)(z:(List Int))(r:D114)(u:F.r o z=some r):
    A.Ct Tryz.prog 51 [.pointer (some ⟨g0_,0,none⟩),.slice A3_ z.length c4_] [(0,.blk g0_ 115 [.slice A1_ o.length c2_]),(1,.sh (.slice Z.Ty.byte) [.slice A1_ o.length c2_] o),(2,.ln A.ti A3_ c4_ z)] ([g0_]++[]) (λv H'=>∃(A0':Option Addr) (c1':Nat),v=.tuple #[]/\H'=[(0,.blk g0_ 115 [.slice A0' r.length c1']),(1,.sh (.slice Z.Ty.byte) [.slice A0' r.length c1'] r)]):=by
 refine Jc Tryz.func51 rfl Tryz.ntmps51 rfl λw0 W=>?_;rw[F.r]at u;refine J8 mixed 11 12 (A.mb 12 0) ?_;refine J0 Ji [] [0,1,2] [0] [] (A.mb 12 63) 6 [(0,.n),(1,.n),(5,.n),(2,.n),(3,.n),(4,.b 0 0)] [(4,.pointer (some ⟨g0_,0,none⟩)),(9,.slice A3_ z.length c4_),(8,.slice A1_ o.length c2_)] (Jo 6 ?_);refine Vc 3 [] u (o_bz A3_ c4_ z) (.s 2 .nil) ?_;rintro B - u _ _ ⟨N,O,rfl,rfl⟩;refine Jh (Jv (A.mb 12 127) [0,1,2] ?_);refine Jo 7 ?_;refine Uz 3 [] ?_;refine Jw 43 (ty:=(Z.Ty.slice Z.Ty.byte)) (cs:=[.slice A1_ o.length c2_,.slice N B.length O]) [o,B] ⟨.inl ⟨1,rfl⟩,⟨.inl ⟨3,rfl⟩,rfl⟩⟩ (λU=>?_) Tryz.zeroValue25 Tryz.sizeOf25;refine Jv (A.mb 12 255) [0,1,2] ?_;refine Jo 8 ?_;refine Uz 43 [] ?_;refine Vc 44 [] u (o_au (some ⟨U,0,none⟩) 2 [o,B]) (.s 43 .nil) ?_;rintro V - u _ _ ⟨J,L,rfl,rfl⟩;refine Jh (Jv (A.mb 12 511) [0,1,2] ?_);refine J0 Ji [0,1,2] [0,1,2,3,43,44] [] [] (A.mb 12 2047) 1 [(9,.n),(10,.n)] [(14,.pointer (some ⟨g0_,0,none⟩))] (Jo 11 ?_);refine Uv 44 84 ?_;refine Vf 0 [] [.slice J V.length L] ?_;refine Uo (A.mb 12 4095) ?_;refine Jn ?_;obtain rfl:=Jp u;exact Ui [(0,0),(1,84)] (.tuple #[]) (λa w hf hh=>V7 rfl w) (⟨J,L,rfl,rfl⟩)
def F.ar (o:D114)(s:Int):Option D114:=(F.r o [s]).bind λu=>(some u)
theorem o_k(u:D114)(s:Int)(B:A.h6 s)(r:D114)(z:F.ar u s=some r):
    A.Ct Tryz.prog 50 [.pointer (some ⟨g0_,0,none⟩),A.i s] [(0,.blk g0_ 115 [.slice A1_ u.length c2_]),(1,.sh (.slice Z.Ty.byte) [.slice A1_ u.length c2_] u)] ([g0_]++[]) (λv H'=>∃(A0':Option Addr) (c1':Nat),v=.tuple #[]/\H'=[(0,.blk g0_ 115 [.slice A0' r.length c1']),(1,.sh (.slice Z.Ty.byte) [.slice A0' r.length c1'] r)]):=by
 refine Jc Tryz.func50 rfl Tryz.ntmps50 rfl λw0 O=>?_;rw[F.ar]at z;refine Va 0 2 [(4,.pointer (some ⟨g0_,0,none⟩)),(5,A.i s)] ?_;refine Jw 2 (ty:=A.ti) (cs:=[A.i s]) [s] ⟨⟨rfl,B⟩,rfl⟩ (λJ=>?_) Tryz.zeroValue2 Tryz.sizeOf2;refine Vc 3 [] z (o_c A1_ (some ⟨J,0,none⟩) g0_ c2_ 1 u [s]) (.m 0 (.m 1 (.o 2 .nil))) ?_;rintro U - z _ _ ⟨L,N,rfl,rfl⟩;refine Jh (Jd 3 0 [] ?_);refine Jd 4 1 [] ?_;refine Jb ?_;obtain rfl:=Jp z;exact Ui [(0,0),(1,1)] (.tuple #[]) (λa w hf hh=>V7 rfl w) (⟨L,N,rfl,rfl⟩)
def F.dY (o:ByteArray):Option ((List UInt8)×Int):=if(65536:Int)<(o.size:Int)then(some ([],3))else((F.c1 (o.size:Int)).bind λs=>(A.gd (List.length (α:=UInt8) s+o.size<=140737488355328) (some (s++o.data.toList,0))))
theorem o_bA (s:ByteArray)(B:s.size<=maxLen)(r:(List UInt8)×Int)(o:F.dY s=some r):
    A.Ct Tryz.prog 102 [.string s] [] [] (λv H'=>∃(A0':Option Addr) (c1':Nat),v=.tuple #[.slice A0' r.1.length c1',A.i r.2]/\H'=[(0,.own Z.Ty.byte 5 A0' c1' r.1)]/\A.h6 r.2):=by
 refine Jc Tryz.func102 rfl Tryz.ntmps102 rfl λw0 L=>?_;rw[F.dY]at o;refine Jj 1 ?_;refine Jm 2 [] 3 ?_;refine Js 3 [(6,.bool (decide ((65536:Int)<(s.size:Int))))] 1 ?_;refine Ue o ?_ ?_<;>intro N o;refine Ju 1 2 [(2,.slice none 0 0),(3,A.i 3)] 1 ?_;obtain rfl:=Jp o;refine V2 0 Z.Ty.byte 5 ?_;exact Vr [(0,0)] ⟨none,0,rfl,rfl,(J4 3)⟩;refine Va 3 2 [(8,A.i (s.size:Int))] ?_;refine Vc 1 [] o (o_al (s.size:Int) (A.has_nat B)) .nil ?_;rintro J - o _ _ ⟨O,U,rfl,rfl⟩;refine Jh (Vh 1 [(10,.string s)] ?_);have⟨hl7,o⟩:=Vi o;refine A.AL.apt 1 [] hl7 ⟨inf5.1,inf5.2.1,inf5.2.2.1,inf5.2.2.2.1⟩ (λu z=>?_);refine Js 2 [(2,.slice u ((J++s.data.toList).length) z),(3,A.i 0)] 1 ?_;obtain rfl:=Jp o;exact Vr [(0,1)] ⟨u,z,rfl,rfl,Jl⟩
def F.aP (s:D114)(u:ByteArray):Option (Int ⊕ D114):=(F.dY u).bind λo=>((F.w o.2).bind λz=>A.sm z λJ=>((F.cN [s,o.1]).bind λB=>(some (.inr B))))
theorem o_q(u:D114)(B:ByteArray)(U:B.size<=maxLen)(r:Int ⊕ D114)(o:F.aP u B=some r):
    A.Cp Tryz.prog pv 54 [.pointer (some ⟨g0_,0,none⟩),.string B] [(0,.blk g0_ 115 [.slice A1_ u.length c2_]),(1,.sh (.slice Z.Ty.byte) [.slice A1_ u.length c2_] u)] ([g0_]++[]) (λv H'=>∃(x_:D114),r=.inr x_/\∃(A0':Option Addr) (c1':Nat),v=.tuple #[]/\H'=[(0,.blk g0_ 115 [.slice A0' x_.length c1']),(1,.sh (.slice Z.Ty.byte) [.slice A0' x_.length c1'] x_)]) (A.EZ r):=by
 refine Vp Tryz.func54 rfl Tryz.ntmps54 rfl λw0 F0=>?_;rw[F.aP]at o;refine Va 1 1 [(7,.string B)] ?_;refine Vc 2 [] o (o_bA B U) .nil ?_;rintro z - o _ _ ⟨J,L,rfl,rfl,hr5⟩;refine Jh (Jm 5 [(4,.slice J z.1.length L),(5,A.i z.2)] 2 ?_);refine Vh 1 [(11,A.i z.2)] ?_;have⟨V,W,o⟩:=Vm o;refine J2 42 [] (first:=[]) (cap:=[]) cf49 (o_e z.2 hr5 V W) .nil J6 (Vy o) ?_;rintro _ _ ⟨x8,rfl,rfl,rfl⟩;refine Jh ?_;replace o:=Vz o;refine Jz 1 ?_;refine Jq [0] [] [.n,.n,.n,.n,.b 0 0,.n] [(13,.pointer (some ⟨g0_,0,none⟩)),(17,.slice A1_ u.length c2_),(18,.slice J z.1.length L)] (Uz 2 [] ?_);refine Jw 82 (ty:=(Z.Ty.slice Z.Ty.byte)) (cs:=[.slice A1_ u.length c2_,.slice J z.1.length L]) [u,z.1] ⟨.inl ⟨1,rfl⟩,⟨.inl ⟨2,rfl⟩,rfl⟩⟩ (λg9=>?_) Tryz.zeroValue25 Tryz.sizeOf25;refine Uz 82 [] ?_;refine Vc 83 [] o (o_au (some ⟨g9,0,none⟩) 2 [u,z.1]) (.s 82 .nil) ?_;rintro a2 - o _ _ ⟨N,O,rfl,rfl⟩;refine Jh (Vh 2 [(22,.pointer (some ⟨g0_,0,none⟩))] (Uv 83 123 ?_));refine Vf 0 [] [.slice N a2.length O] ?_;refine Jb ?_;obtain rfl:=Jp o;exact Uk [(0,0),(1,123)] (.tuple #[]) (λa w hf hh=>V7 rfl w) (⟨_,rfl,N,O,rfl,rfl⟩)
def F.c2 (s:D114)(o:D59):Option (Int ⊕ D114):=(F.r s [o.1,o.2.1]).bind λu=>((F.aP u o.2.2.1).bind λz=>A.sm z λB=>((F.r B [o.2.2.2]).bind λJ=>(some (.inr J))))
theorem o_av(z:D114)(s:D59)(B:A.h6 s.1)(J:A.h6 s.2.1)(L:s.2.2.1.size<=maxLen)(N:A.h6 s.2.2.2)(r:Int ⊕ D114)(u:F.c2 z s=some r):
    A.Cp Tryz.prog pv 44 [.pointer (some ⟨g0_,0,none⟩),(A.ran s)] [(0,.blk g0_ 115 [.slice A1_ z.length c2_]),(1,.sh (.slice Z.Ty.byte) [.slice A1_ z.length c2_] z)] ([g0_]++[]) (λv H'=>∃(x_:D114),r=.inr x_/\∃(A0':Option Addr) (c1':Nat),v=.tuple #[]/\H'=[(0,.blk g0_ 115 [.slice A0' x_.length c1']),(1,.sh (.slice Z.Ty.byte) [.slice A0' x_.length c1'] x_)]) (A.EZ r):=by
 refine Vp Tryz.func44 rfl Tryz.ntmps44 rfl λw0 F0=>?_;rw[F.c2]at u;refine Jj 1 ?_;refine Jr 2 (cs:=[A.i s.1,A.i s.2.1,.string s.2.2.1,A.i s.2.2.2]) λg1=>?_;refine Jz 2 ?_;refine Jq [2] [] [.n,.n,.b 0 0,.n,.b 0 1] [(4,.pointer (some ⟨g0_,0,none⟩)),(6,A.i s.1),(8,A.i s.2.1)] (Jw 3 (ty:=A.ti) (cs:=[A.i s.1,A.i s.2.1]) [s.1,s.2.1] ⟨⟨rfl,B⟩,⟨⟨rfl,J⟩,rfl⟩⟩ (λO=>?_) Tryz.zeroValue2 Tryz.sizeOf2);refine Vc 4 [] u (o_c A1_ (some ⟨O,0,none⟩) g0_ c2_ 2 z [s.1,s.2.1]) (.m 0 (.m 1 (.o 3 .nil))) ?_;rintro U - u _ _ ⟨V,W,rfl,rfl⟩;refine Jh (Jd 4 0 [] ?_);refine Jd 5 1 [] ?_;refine Jz 2 ?_;refine Jq [2] [] [.n,.n,.b 0 2] [(11,.pointer (some ⟨g0_,0,none⟩)),(13,.string s.2.2.1)] ?_;have⟨r7,a2,u⟩:=Vm u;refine J2 44 [] (first:=[]) (cap:=[]) cf54 (o_q V g0_ W U s.2.2.1 L r7 a2) (.m 0 (.m 1 .nil)) J6 (Vy u) ?_;rintro _ _ ⟨x9,rfl,a3,a4,rfl,rfl⟩;refine Jh ?_;replace u:=Vz u;refine Jd 44 0 [] ?_;refine Jd 45 1 [] ?_;refine Jz 1 ?_;refine Jq [2] [] [.n,.n,.b 0 3] [(15,.pointer (some ⟨g0_,0,none⟩)),(17,A.i s.2.2.2)] (Jw 84 (ty:=A.ti) (cs:=[A.i s.2.2.2]) [s.2.2.2] ⟨⟨rfl,N⟩,rfl⟩ (λa5=>?_) Tryz.zeroValue2 Tryz.sizeOf2);refine Vc 85 [] u (o_c a3 (some ⟨a5,0,none⟩) g0_ a4 1 x9 [s.2.2.2]) (.m 0 (.m 1 (.o 84 .nil))) ?_;rintro a8 - u _ _ ⟨a6,a7,rfl,rfl⟩;refine Jh (Jd 85 0 [] ?_);refine Jd 86 1 [] ?_;refine Jb ?_;obtain rfl:=Jp u;exact Uk [(0,0),(1,1)] (.tuple #[]) (λa w hf hh=>V7 rfl w) (⟨_,rfl,a6,a7,rfl,rfl⟩)
def F.t (s:(List D59)):Nat->(List UInt8)->Int->Option (Int ⊕ D114)
 |0,_,_=>none
 |f+1,u,o=>if o<(s.length:Int)then((A.ix s o).bind λz=>((F.c2 u z).bind λB=>A.sm B λJ=>(A.gd (Z.R64 (o+1)) ((F.t s f) J (o+1)))))else(some (.inr u))
def F.u (s:D114)(o:(List D59)):Option (Int ⊕ D114):=(F.ar s (o.length:Int)).bind λz=>(F.t o A.FU z 0)
def F.ax (s:D114)(o:(List D59)):Option (Int ⊕ D114):=if(65536:Int)<(o.length:Int)then((F.w 3).bind λz=>A.sm z λB=>(F.u s o))else(F.u s o)
theorem o_l(J:D114)(s:(List D59))(r:Int ⊕ D114)(o:F.ax J s=some r):
    A.Cp Tryz.prog pv 43 [.pointer (some ⟨g0_,0,none⟩),.slice A3_ s.length c4_,.func (.func 44) #[.pointer (some ⟨g0_,0,none⟩)] #[]] [(0,.blk g0_ 115 [.slice A1_ J.length c2_]),(1,.sh (.slice Z.Ty.byte) [.slice A1_ J.length c2_] J),(2,.ln T59 A3_ c4_ s)] ([g0_]++[]) (λv H'=>∃(x_:D114),r=.inr x_/\∃(A0':Option Addr) (c1':Nat),v=.tuple #[]/\H'=[(0,.blk g0_ 115 [.slice A0' x_.length c1']),(1,.sh (.slice Z.Ty.byte) [.slice A0' x_.length c1'] x_)]) (A.EZ r):=by
 refine Vp Tryz.func43 rfl Tryz.ntmps43 rfl λw0 F0=>?_;rw[F.ax]at o;refine Jg [0,1,2] [0,1,2] (λV W=>V=[]/\W=[]/\F.u J s=some r) ?_ ?_;refine J7 1 3 [(10,.bool (decide ((65536:Int)<(s.length:Int))))] 1 o ?_ ?_<;>intro hb o;refine Jj 0 ?_;have⟨a4,a5,o⟩:=Vm o;refine J2 3 [] (first:=[]) (cap:=[]) cf49 (o_e 3 (J4 3) a4 a5) .nil J6 (Vy o) ?_;rintro _ _ ⟨ac,rfl,rfl,rfl⟩;refine Jh ?_;replace o:=Vz o;refine Jb ?_;exact Jy ⟨rfl,rfl,o⟩;refine Vn 1 ?_;exact Jy ⟨rfl,rfl,o⟩;rintro _ _ ⟨rfl,rfl,o⟩;rw[F.u]at o;refine Va 1 3 [(12,.pointer (some ⟨g0_,0,none⟩)),(14,A.i (s.length:Int))] ?_;refine A.okl 2 λhl1=>?_;refine Vc 43 [] o (o_k A1_ g0_ c2_ J (s.length:Int) (U2 hl1.1)) (.m 0 (.m 1 .nil)) ?_;rintro r2 - o _ _ ⟨A4,c5,rfl,rfl⟩;refine Jh (Jd 43 0 [] ?_);refine Jd 44 1 [] ?_;refine Jz 2 ?_;refine Js 3 [(16,.slice A3_ s.length c4_),(17,A.i (s.length:Int)),(18,A.i 0)] 2 ?_;refine Ve [2,16,17] [2] (λf V W=>∃(L:List UInt8)(z:Int)(N:Option Addr)(O:Nat),V=[(18,A.i z)]/\W=[(0,.blk g0_ 115 [.slice N L.length O]),(1,.sh (.slice Z.Ty.byte) [.slice N L.length O] L)]/\A.h6 z/\F.t s f L z=some r) ⟨r2,0,A4,c5,rfl,rfl,Jl,o⟩ ?_;rintro a2 _ _ ⟨L,z,N,O,rfl,rfl,ad,o⟩;rcases a2 with _|a2
 exact J9 o;rw[F.t]at o;refine J7 1 1 [(19,.bool (decide (z<(s.length:Int))))] 2 o ?_ ?_<;>intro hb o;refine Jj 5 ?_;have⟨B,a6,o⟩:=Vm o;refine V9 2 167 a6 λU=>?_;intro ae ag;refine Jq [] [167] [.e 0 0] [(21,(A.ran B))] (Je 168 (cs:=[A.i 0,A.i 0,.string (ByteArray.mk #[]),A.i 0]) Tryz.zeroValue60 λah=>?_);refine Vf 168 [] [A.i B.1,A.i B.2.1,.string B.2.2.1,A.i B.2.2.2] ?_;refine Jz 1 ?_;refine Jq [168] [] [.n,.b 0 0] [(22,.func (.func 44) #[.pointer (some ⟨g0_,0,none⟩)] #[]),(23,(A.ran B))] ?_;have⟨a7,a8,o⟩:=Vm o;refine J2 169 [] (first:=[.pointer (some ⟨g0_,0,none⟩)]) (cap:=[]) cf44 (o_av N g0_ O L B U.1 U.2.1 U.2.2.1 U.2.2.2 a7 a8) (.m 0 (.m 1 .nil)) J6 (Vy o) ?_;rintro _ _ ⟨a9,rfl,aa,ab,rfl,rfl⟩;refine Jh ?_;replace o:=Vz o;refine Jd 169 0 [] ?_;refine Jd 170 1 [] ?_;refine Jz 2 ?_;have⟨a3,o⟩:=Vi o;refine V4 2 [Z.R64 (z+1)] [(18,A.i (z+1))] a3 (Jb ?_);exact Jy ⟨_,Qj _,⟨a9,(z+1),aa,ab,rfl,rfl,(Jf a3),o⟩⟩;refine Vn 1 ?_;obtain rfl:=Jp o;exact Uk [(0,0),(1,1)] (.tuple #[]) (λa w hf hh=>V7 rfl w) (⟨_,rfl,N,O,rfl,rfl⟩)
def F.dI (o:D114)(s:(List D59)):Option (Int ⊕ D114):=(F.ax o s).bind λu=>A.sm u λz=>(some (.inr z))
theorem o_aN(u:D114)(z:(List D59))(r:Int ⊕ D114)(o:F.dI u z=some r):
    A.Cp Tryz.prog pv 42 [.pointer (some ⟨g0_,0,none⟩),.slice A3_ z.length c4_] [(0,.blk g0_ 115 [.slice A1_ u.length c2_]),(1,.sh (.slice Z.Ty.byte) [.slice A1_ u.length c2_] u),(2,.ln T59 A3_ c4_ z)] ([g0_]++[]) (λv H'=>∃(x_:D114),r=.inr x_/\∃(A0':Option Addr) (c1':Nat),v=.tuple #[]/\H'=[(0,.blk g0_ 115 [.slice A0' x_.length c1']),(1,.sh (.slice Z.Ty.byte) [.slice A0' x_.length c1'] x_)]) (A.EZ r):=by
 refine Vp Tryz.func42 rfl Tryz.ntmps42 rfl λw0 O=>?_;rw[F.dI]at o;refine Va 0 4 [(4,.pointer (some ⟨g0_,0,none⟩)),(5,.slice A3_ z.length c4_),(7,.func (.func 44) #[.pointer (some ⟨g0_,0,none⟩)] #[])] ?_;have⟨B,J,o⟩:=Vm o;refine J2 3 [] (first:=[]) (cap:=[]) cf43 (o_l A1_ A3_ g0_ c2_ c4_ u z B J) (.m 0 (.m 1 (.s 2 .nil))) J6 (Vy o) ?_;rintro _ _ ⟨U,rfl,L,N,rfl,rfl⟩;refine Jh ?_;replace o:=Vz o;refine Jd 3 0 [] ?_;refine Jd 4 1 [] ?_;refine Jb ?_;obtain rfl:=Jp o;exact Uk [(0,0),(1,1)] (.tuple #[]) (λa w hf hh=>V7 rfl w) (⟨_,rfl,L,N,rfl,rfl⟩)
def F.ay (o:(List D59)):Option ((List UInt8)×Int):=(F.dI [] o).bind λs=>A.se s (λu=>(some ([],u))) λz=>(some (z,0))
theorem o_m(u:(List D59))(r:(List UInt8)×Int)(o:F.ay u=some r):
    A.Ct Tryz.prog 41 [.func (.func 42) #[] #[],.slice A0_ u.length c1_] [(0,.ln T59 A0_ c1_ u)] [] (λv H'=>∃(A0':Option Addr) (c1':Nat),v=.tuple #[.slice A0' r.1.length c1',A.i r.2]/\H'=[(0,.sh (.slice Z.Ty.byte) [.slice A0' r.1.length c1'] r.1)]/\A.h6 r.2):=by
 refine A.Ct.enterD Tryz.func41 rfl Tryz.ntmps41 rfl λw0 W=>?_;rw[F.ay]at o;refine Va 1 1 [(4,.slice none 0 0)] ?_;refine Je 1 (cs:=[A.i 0]) Tryz.zeroValue28 λg1=>?_;refine Jz 2 ?_;refine A.AL.dfr ?_;refine Jz 2 ?_;refine Vh 1 [(7,.agg #[.slice none 0 0])] (Jr 2 (cs:=[.slice none 0 0]) λz=>?_);refine Jm 1 [(6,.pointer (some ⟨z,0,none⟩))] 2 ?_;refine Vh 3 [(9,.func (.func 42) #[] #[]),(10,.pointer (some ⟨z,0,none⟩)),(11,.slice A0_ u.length c1_)] (Up 3 Z.Ty.byte ?_);have⟨N,O,o⟩:=Vm o;refine A.AL.callP 4 [] (first:=[]) (cap:=[]) cf42 (o_aN none A0_ z 0 c1_ [] u N O) (.m 2 (.m 3 (.s 0 .nil))) (λU he9=>?_) ?_;obtain⟨rfl,hx10⟩:=he9;replace o:=A.se_l o;refine A.panL ?_;refine A.LV.n1 1 cf48 (λg V x h=>caught_p g V x h) Jl ?_;obtain rfl:=Jp o;refine Up 44 Z.Ty.byte ?_;exact A.LV.nil [(0,44)] (.tuple #[.slice none 0 0,A.i U]) (λa w hf hh=>Vt rfl (Jk hf rfl) (U7 hf rfl Tryz.isAgg28 (J5 hh 1))) (⟨none,0,rfl,rfl,hx10⟩);rintro _ _ ⟨L,rfl,B,J,rfl,rfl⟩;refine Jh ?_;replace o:=A.se_r o;refine Jd 4 2 [] ?_;refine Jd 5 3 [] ?_;refine Jz 2 ?_;refine Jq [2] [] [.n,.n,.n,.b 0 0,.n] [(4,.slice B L.length J)] (Vf 1 [] [A.i 0] ?_);refine V5 1 ?_;refine A.AX.retL ?_;refine A.LV.n0 1 cf48 Qfy Jl ?_;obtain rfl:=Jp o;exact A.LV.nil [(0,3)] (.tuple #[.slice B L.length J,A.i 0]) (λa w hf hh=>Vt rfl (Jk hf rfl) (U7 hf rfl Tryz.isAgg28 (J5 hh 1))) (⟨B,J,rfl,rfl,Jl⟩)
def F.ec (o:(List D59)):Option ((List UInt8)×Int):=(F.ay o).bind λs=>(some s)
theorem o_a7(o:(List D59))(r:(List UInt8)×Int)(u:F.ec o=some r):
    A.Ct Tryz.prog 18 [.slice A0_ o.length c1_] [(0,.ln T59 A0_ c1_ o)] [] (λv H'=>∃(A0':Option Addr) (c1':Nat),v=.tuple #[.slice A0' r.1.length c1',A.i r.2]/\H'=[(0,.sh (.slice Z.Ty.byte) [.slice A0' r.1.length c1'] r.1)]/\A.h6 r.2):=by
 refine Jc Tryz.func18 rfl Tryz.ntmps18 rfl λw0 L=>?_;rw[F.ec]at u;refine Jj 1 ?_;refine Jm 2 [] 2 ?_;refine Vh 1 [(4,.slice A0_ o.length c1_)] (Vc 1 [] u (o_m A0_ c1_ o) (.s 0 .nil) ?_);rintro z - u _ _ ⟨B,J,rfl,rfl,hr5⟩;refine Jh (Js 4 [(2,.slice B z.1.length J),(3,A.i z.2)] 1 ?_);obtain rfl:=Jp u;exact Vr [(0,1)] ⟨B,J,rfl,rfl,hr5⟩
def F.en (o:(List UInt8)):Option ((List UInt8)×Int):=if(65536:Int)<(o.length:Int)then(some ([],3))else((F.c1 (o.length:Int)).bind λs=>((F.cN [s,o]).bind λu=>(some (u,0))))
theorem o_bj(o:(List UInt8))(r:(List UInt8)×Int)(u:F.en o=some r):
    A.Ct Tryz.prog 19 [.slice A0_ o.length c1_] [(0,.sh (.slice Z.Ty.byte) [.slice A0_ o.length c1_] o)] [] (λv H'=>∃(A0':Option Addr) (c1':Nat),v=.tuple #[.slice A0' r.1.length c1',A.i r.2]/\H'=[(0,.sh (.slice Z.Ty.byte) [.slice A0' r.1.length c1'] r.1)]/\A.h6 r.2):=by
 refine Jc Tryz.func19 rfl Tryz.ntmps19 rfl λw0 V=>?_;rw[F.en]at u;refine Jj 1 ?_;refine Jm 2 [] 3 ?_;refine Js 3 [(6,.bool (decide ((65536:Int)<(o.length:Int))))] 1 ?_;refine Ue u ?_ ?_<;>intro W u;refine Ju 1 2 [(2,.slice none 0 0),(3,A.i 3)] 1 ?_;obtain rfl:=Jp u;refine Up 1 Z.Ty.byte ?_;exact Vr [(0,1)] ⟨none,0,rfl,rfl,(J4 3)⟩;refine Va 3 2 [(8,A.i (o.length:Int))] ?_;refine A.oks 0 λhl1=>?_;refine Vc 2 [] u (o_al (o.length:Int) (U2 hl1.1)) .nil ?_;rintro z - u _ _ ⟨L,N,rfl,rfl⟩;refine Jh (Vh 1 [(10,.slice A0_ o.length c1_)] (Uz 2 [] ?_));refine Jw 42 (ty:=(Z.Ty.slice Z.Ty.byte)) (cs:=[.slice L z.length N,.slice A0_ o.length c1_]) [z,o] ⟨.inl ⟨2,rfl⟩,⟨.inl ⟨0,rfl⟩,rfl⟩⟩ (λO=>?_) Tryz.zeroValue25 Tryz.sizeOf25;refine Uz 42 [] ?_;refine Vc 43 [] u (o_au (some ⟨O,0,none⟩) 2 [z,o]) (.s 42 .nil) ?_;rintro U - u _ _ ⟨B,J,rfl,rfl⟩;refine Jh (Js 2 [(2,.slice B U.length J),(3,A.i 0)] 1 ?_);obtain rfl:=Jp u;exact Vr [(0,43)] ⟨B,J,rfl,rfl,Jl⟩
def F.c3 (o:Bool):Option Bool:=some o
def F.dZ:Option Bool:=(F.ec [(3,-1,ByteArray.mk #[97],7)]).bind λo=>((F.en [(5:UInt8),(6:UInt8)]).bind λs=>(if o.2=0 then((F.bY o.1 [(101:UInt8),(103:UInt8),(49:UInt8),(101:UInt8),(97:UInt8),(107:UInt8)]).bind λu=>(if(bif u then decide (s.2=0)else false)=true then((F.bY s.1 [(102:UInt8),(5:UInt8),(6:UInt8)]).bind λz=>(F.c3 z))else(F.c3 false)))else(F.c3 false)))
theorem o_aO (r:Bool)(u:F.dZ=some r):
    A.Ct Tryz.prog 5 [] [] [] (λv H'=>v=.bool r/\H'=[]):=by
 refine Jc Tryz.func5 rfl Tryz.ntmps5 rfl λw0 F0=>?_;rw[F.dZ]at u;refine Jj 1 ?_;refine Jm 1 [] 2 ?_;refine Vh 1 [(6,.agg #[A.i 3,A.i (-1),.string (ByteArray.mk #[97]),A.i 7])] (Jw 0 (ty:=T59) (cs:=[A.i 3,A.i (-1),.string (ByteArray.mk #[97]),A.i 7]) [(3,-1,ByteArray.mk #[97],7)] ⟨⟨⟨rfl,(J4 3)⟩,⟨rfl,(J4 (-1))⟩,⟨rfl,(A.szl (ByteArray.mk #[97]) rfl)⟩,⟨rfl,(J4 7)⟩⟩,rfl⟩ (λW=>?_) Tryz.zeroValue60 Tryz.sizeOf60);refine Vc 1 [] u (o_a7 (some ⟨W,0,none⟩) 1 [(3,-1,ByteArray.mk #[97],7)]) (.o 0 .nil) ?_;rintro z - u _ _ ⟨J,L,rfl,rfl,hr6⟩;refine Jh (Jm 5 [(1,.slice J z.1.length L),(2,A.i z.2)] 2 ?_);refine Jw 41 (ty:=Z.Ty.byte) (cs:=[.int .u8 5,.int .u8 6]) [(5:UInt8),(6:UInt8)] ⟨rfl,⟨rfl,rfl⟩⟩ (λg7=>?_) Tryz.zeroValue5 Tryz.sizeOf5;refine Uz 41 [] ?_;refine Vc 42 [] u (o_bj (some ⟨g7,0,none⟩) 2 [(5:UInt8),(6:UInt8)]) (.s 41 .nil) ?_;rintro B - u _ _ ⟨N,O,rfl,rfl,hr12⟩;refine Jh (Js 5 [(3,.slice N B.1.length O),(4,A.i B.2)] 1 ?_);refine Jg [] [] (λnl nh=>∃(U:Bool),nl=[(0,.bool U)]/\nh=[]/\F.c3 U=some r) ?_ ?_;refine Va 0 3 [(18,.bool (decide (z.2=0)))] ?_;refine Ua (j:=18) rfl u ?_ ?_<;>intro hb u;refine Jq [] [] [.on .n] [(19,.slice J z.1.length L)] (J1 (dj:=18) rfl rfl ?_);refine Jw 82 (ty:=Z.Ty.byte) (cs:=[.int .u8 101,.int .u8 103,.int .u8 49,.int .u8 101,.int .u8 97,.int .u8 107]) [(101:UInt8),(103:UInt8),(49:UInt8),(101:UInt8),(97:UInt8),(107:UInt8)] ⟨rfl,⟨rfl,⟨rfl,⟨rfl,⟨rfl,⟨rfl,rfl⟩⟩⟩⟩⟩⟩ (λa0=>?_) Tryz.zeroValue5 Tryz.sizeOf5;refine J1 (dj:=18) rfl rfl ?_;refine Vc 83 [] u (o_x J (some ⟨a0,0,none⟩) L 6 z.1 [(101:UInt8),(103:UInt8),(49:UInt8),(101:UInt8),(97:UInt8),(107:UInt8)]) (.l 1 (.o 82 .nil)) ?_;rintro a1 - u _ _ ⟨rfl,rfl⟩;refine Jh (Jq [] [] [.n,.n,.sy .n,.sy .n,.pk,.n] [(27,.bool (bif a1 then decide (B.2=0)else false))] (Vl (j:=27) rfl u (λu=>?_) (λu=>?_)));refine Jq [] [] [.on .n] [(28,.slice N B.1.length O)] (J1 (dj:=27) rfl rfl ?_);refine Jw 123 (ty:=Z.Ty.byte) (cs:=[.int .u8 102,.int .u8 5,.int .u8 6]) [(102:UInt8),(5:UInt8),(6:UInt8)] ⟨rfl,⟨rfl,⟨rfl,rfl⟩⟩⟩ (λa2=>?_) Tryz.zeroValue5 Tryz.sizeOf5;refine J1 (dj:=27) rfl rfl ?_;refine Vc 124 [] u (o_x N (some ⟨a2,0,none⟩) O 3 B.1 [(102:UInt8),(5:UInt8),(6:UInt8)]) (.l 42 (.o 123 .nil)) ?_;rintro V - u _ _ ⟨rfl,rfl⟩;refine Jh (Vh 2 [(0,.bool V)] (Jb ?_));exact Jy ⟨V,rfl,rfl,u⟩;refine Jq [] [] [.off,.off,.off,.n,.n] [(0,.bool false)] (Jb ?_);exact Jy ⟨false,rfl,rfl,u⟩;refine Jq [] [] [.off,.off,.off,.n,.n,.off,.off,.n,.n,.off,.off,.off,.n,.n] [(0,.bool false)] (Jb ?_);exact Jy ⟨false,rfl,rfl,u⟩;rintro _ _ ⟨U,rfl,rfl,u⟩;rw[F.c3]at u;exact A.ke u (Vd ⟨rfl,rfl⟩)
def F.b9 (s:(List D64)):Nat->Int->Int->Option Bool
 |0,_,_=>none
 |f+1,u,z=>if z<((List.take ((min (s.length:Int) 99).toNat) s).length:Int)then((A.ix (List.take ((min (s.length:Int) 99).toNat) s) z).bind λo=>(A.gd (Z.R64 (u+(min (o.2.2.1.length:Int) 1048576))/\Z.R64 ((u+(min (o.2.2.1.length:Int) 1048576))+(min (o.2.2.2.2.1.size:Int) 1048576))/\Z.R64 (((u+(min (o.2.2.1.length:Int) 1048576))+(min (o.2.2.2.2.1.size:Int) 1048576))+(min (o.2.2.2.1.2.2.size:Int) 1048576))) (A.gd (Z.R64 (z+1)) ((F.b9 s f) (min (((u+(min (o.2.2.1.length:Int) 1048576))+(min (o.2.2.2.2.1.size:Int) 1048576))+(min (o.2.2.2.1.2.2.size:Int) 1048576)) 1048576) (z+1)))))else(some (bif decide ((s.length:Int)<=40)then decide (u<=5000)else false))
def F.d0 (o:(List D64)):Option Bool:=A.gd (0<=min (o.length:Int) 99/\(min (o.length:Int) 99).toNat<=o.length) (F.b9 o A.FU 0 0)
theorem o_bB(u:(List D64))(r:Bool)(o:F.d0 u=some r):
    A.Ct Tryz.prog 6 [.slice A0_ u.length c1_] [(0,.sh (.slice T64) [.slice A0_ u.length c1_] u)] [] (λv H'=>v=.bool r/\H'=[]):=by
 refine Jc Tryz.func6 rfl Tryz.ntmps6 rfl λw0 F0=>?_;rw[F.d0]at o;refine Jj 1 ?_;refine Jm 1 [] 2 ?_;refine Jm 1 [(3,A.i 0)] 3 ?_;refine Vh 4 [(6,.slice A0_ u.length c1_),(9,A.i (min (u.length:Int) 99))] ?_;have⟨J,o⟩:=Vi o;refine A.AL.cuth 0 1 (v:=(min (u.length:Int) 99).toNat) (Q8 J.1).symm J.2 λc3=>?_;refine Js 2 [(11,A.i ((List.take ((min (u.length:Int) 99).toNat) u).length:Int)),(12,A.i 0)] 2 ?_;refine Ve [0,10,11] l2a (λf W nh=>∃(z:Int)(B:Int),W=[(3,A.i z),(12,A.i B)]/\nh=[]/\A.h6 z/\A.h6 B/\F.b9 u f z B=some r) ⟨0,0,rfl,rfl,Jl,Jl,o⟩ ?_;rintro L _ _ ⟨z,B,rfl,rfl,a2,a3,o⟩;rcases L with _|L
 exact J9 o;rw[F.b9]at o;refine J7 1 1 [(13,.bool (decide (B<((List.take ((min (u.length:Int) 99).toNat) u).length:Int))))] 2 o ?_ ?_<;>intro hb o;refine Jj 5 ?_;have⟨s,a1,o⟩:=Vm o;refine Vj 1 8 a1 λa4=>?_;intro N O a5 a6;refine Jq [] [8] [.e 0 0] [(15,(A.ral s N O))] (Je 10 (cs:=[A.i 0,A.i 0,.slice none 0 0,A.i 0,A.i 0,.string (ByteArray.mk #[]),.string (ByteArray.mk #[]),A.i 0,A.i 0]) Tryz.zeroValue65 λa7=>?_);refine Vf 10 [] (A.rai s N O) ?_;refine Jz 1 ?_;have⟨U,o⟩:=Vi o;refine A.q [10] [] [.n,.n,.b 0 2,.n,.n,.n,.n,.b 0 6,.n,.n,.n,.n,.n,.b 0 5,.n,.n,.n,.n,.n] [Z.R64 (z+(min (s.2.2.1.length:Int) 1048576)),Z.R64 ((z+(min (s.2.2.1.length:Int) 1048576))+(min (s.2.2.2.2.1.size:Int) 1048576)),Z.R64 (((z+(min (s.2.2.1.length:Int) 1048576))+(min (s.2.2.2.2.1.size:Int) 1048576))+(min (s.2.2.2.1.2.2.size:Int) 1048576))] [(3,A.i (min (((z+(min (s.2.2.1.length:Int) 1048576))+(min (s.2.2.2.2.1.size:Int) 1048576))+(min (s.2.2.2.1.2.2.size:Int) 1048576)) 1048576))] U (Jz 2 ?_);have⟨V,o⟩:=Vi o;refine V4 2 [Z.R64 (B+1)] [(12,A.i (B+1))] V (Jb ?_);exact Jy ⟨_,Qj _,⟨(min (((z+(min (s.2.2.1.length:Int) 1048576))+(min (s.2.2.2.2.1.size:Int) 1048576))+(min (s.2.2.2.1.2.2.size:Int) 1048576)) 1048576),(B+1),rfl,rfl,(A.has_min (Jf U.2.2) (J4 1048576)),(Jf V),o⟩⟩;refine Vu 3 [] [] [.n,.n,.n,.n,.sy .n,.sy .n,.pk,.n] [(2,.bool (bif decide ((u.length:Int)<=40)then decide (z<=5000)else false))] 1 ?_;exact A.ke o (Vd ⟨rfl,rfl⟩)
def F.aC (o:ByteArray):Nat->Nat->Option Bool
 |0,_=>none
 |f+1,s=>if s<o.size then(if(bif decide ((97:Int)<=((Utf8.decode o s).1:Int))then decide (((Utf8.decode o s).1:Int)<=122)else false)=true then((F.aC o f) (s+(Utf8.decode o s).2))else(if(!(bif decide ((65:Int)<=((Utf8.decode o s).1:Int))then decide (((Utf8.decode o s).1:Int)<=90)else false))=true then(if(bif bif decide ((s:Int)=0)then true else decide (((Utf8.decode o s).1:Int)<48)then true else decide ((57:Int)<((Utf8.decode o s).1:Int)))=true then(some false)else((F.aC o f) (s+(Utf8.decode o s).2)))else((F.aC o f) (s+(Utf8.decode o s).2))))else(some (bif decide (o≠(ByteArray.mk #[]))then decide ((o.size:Int)<=16)else false))
def F.b0 (o:ByteArray):Option Bool:=F.aC o A.FU 0
theorem o_y (s:ByteArray)(O:s.size<=maxLen)(r:Bool)(o:F.b0 s=some r):
    A.Ct Tryz.prog 128 [.string s] [] [] (λv H'=>v=.bool r/\H'=[]):=by
 refine Jc Tryz.func128 rfl Tryz.ntmps128 rfl λw0 U=>?_;rw[F.b0]at o;refine Jj 1 ?_;refine Jm 1 [] 3 ?_;refine Vh 1 [(6,.string s)] (A.AL.rgs 0 λB=>?_);refine V5 2 ?_;refine Ve [0,7] [] (λf J L=>∃(u:Nat),J=[]/\L=[(0,.si B s u)]/\F.aC s f u=some r) ⟨0,rfl,rfl,o⟩ ?_;rintro z _ _ ⟨u,rfl,rfl,o⟩;rcases z with _|z
 exact J9 o;rw[F.aC]at o;refine Jj 1 ?_;refine A.AL.nxs 0 [] o (λhb4 o=>?_) (λN o=>?_);refine Js 1 [(9,.bool true)] 2 ?_;refine Uh rfl ?_;refine Jj 4 ?_;refine Jm 4 [(3,A.i (u:Int)),(4,.int .i32 ((Utf8.decode s u).1:Int))] 2 ?_;refine Jq [] [] [.n,.n,.n,.sy .n,.sy .n,.pk,.n] [(18,.bool (bif decide ((97:Int)<=((Utf8.decode s u).1:Int))then decide (((Utf8.decode s u).1:Int)<=122)else false))] (Vl (j:=18) rfl o (λo=>?_) (λo=>?_));refine Jq [] [] [.off,.off,.off,.off,.off,.off,.n,.n] [(5,.bool true)] (Jz 2 ?_);refine Vw [] [] [.n,.n,.n,.off,.off,.off,.off,.off,.off,.off,.off,.off,.off,.n] [(39,.bool false)] 1 ?_;refine Un rfl ?_;refine Vn 2 ?_;exact Jy ⟨_,Qj _,⟨(u+(Utf8.decode s u).2),rfl,rfl,o⟩⟩;refine Jq [] [] [.on .n,.on .n,.on .n,.sy .n,.sy .n,.on .pk,.n,.n] [(5,.bool (bif decide ((65:Int)<=((Utf8.decode s u).1:Int))then decide (((Utf8.decode s u).1:Int)<=90)else false))] (Jz 2 ?_);refine Vh 3 [(28,.bool (!(bif decide ((65:Int)<=((Utf8.decode s u).1:Int))then decide (((Utf8.decode s u).1:Int)<=90)else false)))] (Vl (j:=28) rfl o (λo=>?_) (λo=>?_));refine Vw [] [] [.on .n,.on .n,.on .n,.sy .n,.sy .n,.on .pk,.on .n,.sy .n,.sy .n,.on .pk,.n] [(39,.bool (bif bif decide ((u:Int)=0)then true else decide (((Utf8.decode s u).1:Int)<48)then true else decide ((57:Int)<((Utf8.decode s u).1:Int))))] 1 ?_;refine Uc o ?_ ?_<;>intro N o;refine Ju 1 1 [(2,.bool false)] 1 ?_;exact A.ke o (Vd ⟨rfl,rfl⟩);refine Vn 2 ?_;exact Jy ⟨_,Qj _,⟨(u+(Utf8.decode s u).2),rfl,rfl,o⟩⟩;refine Vw [] [] [.off,.off,.off,.off,.off,.off,.off,.off,.off,.off,.n] [(39,.bool false)] 1 ?_;refine Un rfl ?_;refine Vn 2 ?_;exact Jy ⟨_,Qj _,⟨(u+(Utf8.decode s u).2),rfl,rfl,o⟩⟩;refine Js 1 [(9,.bool false)] 2 ?_;refine Un rfl ?_;refine Vu 3 [] [] [.n,.n,.n,.sy .n,.sy .n,.sy .n,.pk,.n] [(2,.bool (bif decide (s≠(ByteArray.mk #[]))then decide ((s.size:Int)<=16)else false))] 1 ?_;exact A.ke o (Vd ⟨rfl,rfl⟩)
def F.a5 (o:Int):Option Bool:=some (bif decide (o=1)then true else decide (o=15))
theorem o_j (o:Int)(u:A.h6 o)(r:Bool)(s:F.a5 o=some r):
    A.Ct Tryz.prog 93 [A.i o] [] [] (λv H'=>v=.bool r/\H'=[]):=by
 refine Jc Tryz.func93 rfl Tryz.ntmps93 rfl λw0 z=>?_;rw[F.a5]at s;refine Jj 1 ?_;refine Jm 1 [] 2 ?_;refine Vw [] [] [.n,.n,.n,.sy .n,.sy .n,.pk,.n] [(2,.bool (bif decide (o=1)then true else decide (o=15)))] 1 ?_;exact A.ke s (Vd ⟨rfl,rfl⟩)
def F.dz (o:Int):Option Int:=if(bif decide (o<1)then true else decide ((16:Int)<o))=true then(some (-1))else(if o=1 then(some 0)else(if(bif decide (o=5)then true else decide (o=9))=true then(some 2)else(some 1)))
theorem o_aP (s:Int)(z:A.h6 s)(r:Int)(o:F.dz s=some r):
    A.Ct Tryz.prog 127 [A.i s] [] [] (λv H'=>v=A.i r/\H'=[]/\A.h6 r):=by
 refine Jc Tryz.func127 rfl Tryz.ntmps127 rfl λw0 B=>?_;rw[F.dz]at o;refine Jj 1 ?_;refine Jm 1 [] 4 ?_;refine Vw [] [] [.n,.n,.n,.sy .n,.sy .n,.pk,.n] [(3,.bool (bif decide (s<1)then true else decide ((16:Int)<s)))] 1 ?_;refine Uc o ?_ ?_<;>intro u o;refine Ju 1 1 [(2,A.i (-1))] 1 ?_;exact A.ke o (Vd ⟨rfl,rfl,(J4 (-1))⟩);refine J7 1 3 [(10,.bool (decide (s=1)))] 1 o ?_ ?_<;>intro u o;refine Ju 1 1 [(2,A.i 0)] 1 ?_;exact A.ke o (Vd ⟨rfl,rfl,Jl⟩);refine Vu 1 [] [] [.n,.n,.n,.sy .n,.sy .n,.pk,.n] [(13,.bool (bif decide (s=5)then true else decide (s=9)))] 1 ?_;refine Uc o ?_ ?_<;>intro u o;refine Ju 1 1 [(2,A.i 2)] 1 ?_;exact A.ke o (Vd ⟨rfl,rfl,(J4 2)⟩);refine Ju 4 1 [(2,A.i 1)] 1 ?_;exact A.ke o (Vd ⟨rfl,rfl,(J4 1)⟩)
def F.cv:Option Bool:=some false
def F.cw (o:D64)(s:Bool):Option Bool:=if s=true then(F.cv)else(if o.2.1=14 then(if(bif bif bif decide (o.2.2.2.2.2.1<1)then true else decide ((8:Int)<o.2.2.2.2.2.1)then true else decide (o.2.2.2.2.2.2<1)then true else decide ((4:Int)<o.2.2.2.2.2.2))=true then(some false)else(if(!(decide (o.2.1=14)))=true then(if(bif decide (o.2.2.2.2.2.1≠0)then true else decide (o.2.2.2.2.2.2≠0))=true then(some false)else((F.a5 o.2.1).bind λu=>(if u=true then((F.b0 o.2.2.2.2.1).bind λz=>(some z))else(some (decide (o.2.2.2.2.1=(ByteArray.mk #[])))))))else((F.a5 o.2.1).bind λB=>(if B=true then((F.b0 o.2.2.2.2.1).bind λJ=>(some J))else(some (decide (o.2.2.2.2.1=(ByteArray.mk #[]))))))))else(if(!(decide (o.2.1=14)))=true then(if(bif decide (o.2.2.2.2.2.1≠0)then true else decide (o.2.2.2.2.2.2≠0))=true then(some false)else((F.a5 o.2.1).bind λL=>(if L=true then((F.b0 o.2.2.2.2.1).bind λN=>(some N))else(some (decide (o.2.2.2.2.1=(ByteArray.mk #[])))))))else((F.a5 o.2.1).bind λO=>(if O=true then((F.b0 o.2.2.2.2.1).bind λU=>(some U))else(some (decide (o.2.2.2.2.1=(ByteArray.mk #[]))))))))
def F.dA (o:D64):Option Bool:=if(bif decide (o.1<1)then true else decide ((255:Int)<o.1))=true then(F.cv)else((F.dz o.2.1).bind λs=>(if s<0 then(F.cw o true)else((F.dz o.2.1).bind λu=>(F.cw o (decide ((o.2.2.1.length:Int)≠u))))))
theorem o_bC(s:D64)(a3:A.h6 s.1)(z:A.h6 s.2.1)(a4:A.h6 s.2.2.2.1.1)(a5:A.h6 s.2.2.2.1.2.1)(a6:s.2.2.2.1.2.2.size<=maxLen)(B:s.2.2.2.2.1.size<=maxLen)(a7:A.h6 s.2.2.2.2.2.1)(a8:A.h6 s.2.2.2.2.2.2)(r:Bool)(o:F.dA s=some r):
    A.Ct Tryz.prog 96 [(A.ral s A2_ c3_)] [(0,.sh A.TI [.slice A2_ s.2.2.1.length c3_] s.2.2.1)] [] (λv H'=>v=.bool r/\H'=[]):=by
 refine Jc Tryz.func96 rfl Tryz.ntmps96 rfl λw0 F0=>?_;rw[F.dA]at o;refine Jj 1 ?_;refine Jr 1 (cs:=(A.rai s A2_ c3_)) λg1=>?_;refine Js 1 [] 3 ?_;refine Jg [] [] (λJ L=>J=[]/\L=[]/\F.cv=some r) ?_ ?_;refine Vu 5 [1] [] [.n,.b 0 0,.n,.n,.sy .n,.sy (.b 0 0),.sy .n,.pk,.n] [(4,.bool (bif decide (s.1<1)then true else decide ((255:Int)<s.1)))] 1 ?_;refine Uc o ?_ ?_<;>intro u o;refine Vn 2 ?_;exact Jy ⟨rfl,rfl,o⟩;refine V3 2 ?_;refine Jg [1] l2a (λJ L=>∃(N:Bool),J=[(13,.bool N)]/\L=[]/\F.cw s N=some r) ?_ ?_;refine J8 mixed 14 14 (A.mb 14 0) ?_;refine J0 Ji [] l2a [1] [] (A.mb 14 3) 12 [(0,.n),(1,.b 0 1)] [(15,A.i s.2.1)] (Jo 2 ?_);refine Vc 2 [] o (o_aP s.2.1 z) .nil ?_;rintro U - o _ _ ⟨rfl,rfl,hr21⟩;refine Jh (Jv (A.mb 14 7) l2a ?_);refine J0 Ji l2a l2a [] [] (A.mb 14 31) 9 [(3,.n),(4,.n)] [(18,.bool (decide (U<0)))] (Ub (j:=18) rfl o ?_ ?_)<;>intro u o;refine J0 Ji l2a l2a [] [] (A.mb 14 16383) 0 [(5,.off),(8,.off),(6,.off),(9,.off),(7,.off),(10,.off),(11,.off),(12,.n),(13,.n)] [(13,.bool true)] (Jn ?_);exact Jy ⟨true,rfl,rfl,o⟩;refine J0 Ji l2a l2a [1] [] (A.mb 14 1023) 4 [(5,.on .n),(8,.on .n),(6,.on (.b 0 2)),(9,.on (.b 0 1)),(7,.on .n)] [(23,A.i s.2.1),(21,A.i (s.2.2.1.length:Int))] (Jo 10 ?_);refine J1 (dj:=18) rfl rfl ?_;refine Vc 42 [] o (o_aP s.2.1 z) .nil ?_;rintro O - o _ _ ⟨rfl,rfl,hr24⟩;refine Jh (Jv (A.mb 14 2047) l2a ?_);refine J0 Ji l2a l2a [] [] (A.mb 14 16383) 0 [(11,.on .n),(12,.n),(13,.n)] [(13,.bool (decide ((s.2.2.1.length:Int)≠O)))] (Jn ?_);exact Jy ⟨(decide ((s.2.2.1.length:Int)≠O)),rfl,rfl,o⟩;rintro _ _ ⟨N,rfl,rfl,o⟩;rw[F.cw]at o;refine Uc o ?_ ?_<;>intro u o;refine Vn 1 ?_;exact Jy ⟨rfl,rfl,o⟩;refine Vs 5 [1] [] [.n,.b 0 1,.n,.n] [(3,.bool (decide (s.2.1=14)))] ?_;refine Jz 3 ?_;refine Vh 2 [(31,.bool (decide (s.2.1=14)))] (Ua (j:=31) rfl o ?_ ?_)<;>intro u o;refine Jq [1] [] [.on .n,.on (.b 0 7),.on .n,.on .n,.sy .n,.sy (.b 0 7),.sy .n,.on .pk,.on .n,.sy .n,.sy (.b 0 8),.sy .n,.on .pk,.on .n,.sy .n,.sy (.b 0 8),.sy .n,.on .pk,.n,.n] [(51,.bool (bif bif bif decide (s.2.2.2.2.2.1<1)then true else decide ((8:Int)<s.2.2.2.2.2.1)then true else decide (s.2.2.2.2.2.2<1)then true else decide ((4:Int)<s.2.2.2.2.2.2)))] (Vl (j:=51) rfl o (λo=>?_) (λo=>?_));refine Vw [] [] [.off,.off,.off,.off,.off,.off,.off,.off,.off,.off,.off,.off,.n] [(64,.bool true)] 1 ?_;refine Uh rfl ?_;refine Ju 1 1 [(2,.bool false)] 1 ?_;exact A.ke o (Vd ⟨rfl,rfl⟩);refine Jq [] [] [.on .n,.on .n,.on .n] [(54,.bool (!(decide (s.2.1=14))))] (Vl (j:=54) rfl o (λo=>?_) (λo=>?_));refine Vw [1] [] [.on .n,.on (.b 0 7),.on .n,.on .n,.sy .n,.sy (.b 0 8),.sy .n,.on .pk,.on .n,.n] [(64,.bool (bif decide (s.2.2.2.2.2.1≠0)then true else decide (s.2.2.2.2.2.2≠0)))] 1 ?_;refine Uc o ?_ ?_<;>intro u o;refine Ju 1 1 [(2,.bool false)] 1 ?_;exact A.ke o (Vd ⟨rfl,rfl⟩);refine Vs 4 [1] [] [.n,.b 0 1] [(66,A.i s.2.1)] ?_;refine Vc 82 [] o (o_j s.2.1 z) .nil ?_;rintro r3 - o _ _ ⟨rfl,rfl⟩;refine Jh (V5 1 ?_);refine Uc o ?_ ?_<;>intro u o;refine Vs 1 [1] [] [.n,.b 0 6] [(69,.string s.2.2.2.2.1)] ?_;refine Vc 122 [] o (o_y s.2.2.2.2.1 B) .nil ?_;rintro V - o _ _ ⟨rfl,rfl⟩;refine Jh (Js 1 [(2,.bool V)] 1 ?_);exact A.ke o (Vd ⟨rfl,rfl⟩);refine Vu 3 [1] [] [.n,.b 0 6,.n,.n] [(2,.bool (decide (s.2.2.2.2.1=(ByteArray.mk #[]))))] 1 ?_;exact A.ke o (Vd ⟨rfl,rfl⟩);refine Vw [] [] [.off,.off,.off,.off,.off,.off,.off,.off,.on .n,.n] [(64,.bool false)] 1 ?_;refine Un rfl ?_;refine Vs 4 [1] [] [.n,.b 0 1] [(66,A.i s.2.1)] ?_;refine Vc 162 [] o (o_j s.2.1 z) .nil ?_;rintro r7 - o _ _ ⟨rfl,rfl⟩;refine Jh (V5 1 ?_);refine Uc o ?_ ?_<;>intro u o;refine Vs 1 [1] [] [.n,.b 0 6] [(69,.string s.2.2.2.2.1)] ?_;refine Vc 202 [] o (o_y s.2.2.2.2.1 B) .nil ?_;rintro W - o _ _ ⟨rfl,rfl⟩;refine Jh (Js 1 [(2,.bool W)] 1 ?_);exact A.ke o (Vd ⟨rfl,rfl⟩);refine Vu 3 [1] [] [.n,.b 0 6,.n,.n] [(2,.bool (decide (s.2.2.2.2.1=(ByteArray.mk #[]))))] 1 ?_;exact A.ke o (Vd ⟨rfl,rfl⟩);refine Jq [] [] [.off,.off,.off,.off,.off,.off,.off,.off,.off,.off,.off,.off,.off,.off,.off,.off,.off,.off,.n,.n,.on .n,.on .n,.on .n] [(51,.bool false),(54,.bool (!(decide (s.2.1=14))))] (Vl (j:=54) rfl o (λo=>?_) (λo=>?_));refine Vw [1] [] [.on .n,.on (.b 0 7),.on .n,.on .n,.sy .n,.sy (.b 0 8),.sy .n,.on .pk,.on .n,.n] [(64,.bool (bif decide (s.2.2.2.2.2.1≠0)then true else decide (s.2.2.2.2.2.2≠0)))] 1 ?_;refine Uc o ?_ ?_<;>intro u o;refine Ju 1 1 [(2,.bool false)] 1 ?_;exact A.ke o (Vd ⟨rfl,rfl⟩);refine Vs 4 [1] [] [.n,.b 0 1] [(66,A.i s.2.1)] ?_;refine Vc 242 [] o (o_j s.2.1 z) .nil ?_;rintro a9 - o _ _ ⟨rfl,rfl⟩;refine Jh (V5 1 ?_);refine Uc o ?_ ?_<;>intro u o;refine Vs 1 [1] [] [.n,.b 0 6] [(69,.string s.2.2.2.2.1)] ?_;refine Vc 282 [] o (o_y s.2.2.2.2.1 B) .nil ?_;rintro a1 - o _ _ ⟨rfl,rfl⟩;refine Jh (Js 1 [(2,.bool a1)] 1 ?_);exact A.ke o (Vd ⟨rfl,rfl⟩);refine Vu 3 [1] [] [.n,.b 0 6,.n,.n] [(2,.bool (decide (s.2.2.2.2.1=(ByteArray.mk #[]))))] 1 ?_;exact A.ke o (Vd ⟨rfl,rfl⟩);refine Vw [] [] [.off,.off,.off,.off,.off,.off,.off,.off,.on .n,.n] [(64,.bool false)] 1 ?_;refine Un rfl ?_;refine Vs 4 [1] [] [.n,.b 0 1] [(66,A.i s.2.1)] ?_;refine Vc 322 [] o (o_j s.2.1 z) .nil ?_;rintro aa - o _ _ ⟨rfl,rfl⟩;refine Jh (V5 1 ?_);refine Uc o ?_ ?_<;>intro u o;refine Vs 1 [1] [] [.n,.b 0 6] [(69,.string s.2.2.2.2.1)] ?_;refine Vc 362 [] o (o_y s.2.2.2.2.1 B) .nil ?_;rintro a2 - o _ _ ⟨rfl,rfl⟩;refine Jh (Js 1 [(2,.bool a2)] 1 ?_);exact A.ke o (Vd ⟨rfl,rfl⟩);refine Vu 3 [1] [] [.n,.b 0 6,.n,.n] [(2,.bool (decide (s.2.2.2.2.1=(ByteArray.mk #[]))))] 1 ?_;exact A.ke o (Vd ⟨rfl,rfl⟩);rintro _ _ ⟨rfl,rfl,o⟩;rw[F.cv]at o;refine Ju 2 1 [(2,.bool false)] 1 ?_;exact A.ke o (Vd ⟨rfl,rfl⟩)
def F.eo (o:Int):Option (Int×Int):=if o=2 then(some (1,8))else(if o=3 then(some (11,13))else(if o=4 then(some (21,22))else(if o=8 then(some (31,34))else(if o=11 then(some (41,42))else(some (0,-1))))))
theorem o_bf (s:Int)(z:A.h6 s)(r:Int×Int)(o:F.eo s=some r):
    A.Ct Tryz.prog 129 [A.i s] [] [] (λv H'=>v=.tuple #[A.i r.1,A.i r.2]/\H'=[]/\A.h6 r.1/\A.h6 r.2):=by
 refine Jc Tryz.func129 rfl Tryz.ntmps129 rfl λw0 B=>?_;rw[F.eo]at o;refine Jj 1 ?_;refine Jm 2 [] 3 ?_;refine Jm 1 [(4,A.i s)] 3 ?_;refine Js 2 [(5,.bool (decide (s=2)))] 1 ?_;refine Ue o ?_ ?_<;>intro u o;refine Ju 1 2 [(2,A.i 1),(3,A.i 8)] 1 ?_;obtain rfl:=Jp o;exact Vr [] ⟨rfl,rfl,(J4 1),(J4 8)⟩;refine J7 1 2 [(7,.bool (decide (s=3)))] 1 o ?_ ?_<;>intro u o;refine Ju 1 2 [(2,A.i 11),(3,A.i 13)] 1 ?_;obtain rfl:=Jp o;exact Vr [] ⟨rfl,rfl,(J4 11),(J4 13)⟩;refine J7 1 2 [(9,.bool (decide (s=4)))] 1 o ?_ ?_<;>intro u o;refine Ju 1 2 [(2,A.i 21),(3,A.i 22)] 1 ?_;obtain rfl:=Jp o;exact Vr [] ⟨rfl,rfl,(J4 21),(J4 22)⟩;refine J7 1 2 [(11,.bool (decide (s=8)))] 1 o ?_ ?_<;>intro u o;refine Ju 1 2 [(2,A.i 31),(3,A.i 34)] 1 ?_;obtain rfl:=Jp o;exact Vr [] ⟨rfl,rfl,(J4 31),(J4 34)⟩;refine J7 1 2 [(13,.bool (decide (s=11)))] 1 o ?_ ?_<;>intro u o;refine Ju 1 2 [(2,A.i 41),(3,A.i 42)] 1 ?_;obtain rfl:=Jp o;exact Vr [] ⟨rfl,rfl,(J4 41),(J4 42)⟩;refine Ju 4 2 [(2,A.i 0),(3,A.i (-1))] 1 ?_;obtain rfl:=Jp o;exact Vr [] ⟨rfl,rfl,Jl,(J4 (-1))⟩
def F.ev (o:Int):Option (Int×Int):=(F.eo o).bind λs=>(some s)
theorem o_b9 (o:Int)(J:A.h6 o)(r:(Int×Int))(s:F.ev o=some r):
    A.Ct Tryz.prog 130 [A.i o] [] [] (λv H'=>∃(g0':Nat) (g1':Nat),v=.func (.func 150) #[] #[.pointer (some ⟨g0',0,none⟩),.pointer (some ⟨g1',0,none⟩)]/\H'=[(0,.blk g0' 3 [A.i r.1]),(1,.blk g1' 3 [A.i r.2])]/\A.h6 r.1/\A.h6 r.2):=by
 refine Jc Tryz.func130 rfl Tryz.ntmps130 rfl λw0 L=>?_;rw[F.ev]at s;refine Jj 1 ?_;refine Jm 1 [] 2 ?_;refine Vh 1 [(6,A.i o)] (Vc 0 [] s (o_bf o J) .nil ?_);rintro u - s _ _ ⟨rfl,rfl,hr3,hr4⟩;refine Jh (Vh 3 [(8,A.i u.1),(9,A.i u.2)] (Je 40 (cs:=[A.i 0]) Tryz.zeroValue3 λz=>?_));refine Je 41 (cs:=[A.i 0]) Tryz.zeroValue3 λB=>?_;refine Vf 40 [] [A.i u.1] ?_;refine Vf 41 [] [A.i u.2] ?_;refine Jz 2 ?_;refine Js 2 [(2,.func (.func 150) #[] #[.pointer (some ⟨z,0,none⟩),.pointer (some ⟨B,0,none⟩)])] 1 ?_;obtain rfl:=Jp s;exact Vq [(0,40),(1,41)] ⟨z,B,rfl,rfl,hr3,hr4⟩
def F.c4 (o:D62)(s:Bool):Option Bool:=if s=true then(some (bif decide ((1:Int)<=o.2.1)then decide (o.2.1<=1048576)else false))else(some (decide (o.2.1=0)))
def F.c5 (o:D62)(s:Bool):Option Bool:=if s=true then(some (bif decide ((0:Int)<=o.2.1)then decide (o.2.1<=64)else false))else(if o.1=6 then(F.c4 o (decide (o.1=6)))else(F.c4 o (decide (o.1=11))))
def F.d1 (o:D62):Option Bool:=if o.1=3 then(F.c5 o (decide (o.1=3)))else(F.c5 o (decide (o.1=13)))
theorem o_bD (o:D62)(N:A.h6 o.1)(O:A.h6 o.2.1)(U:o.2.2.size<=maxLen)(r:Bool)(s:F.d1 o=some r):
    A.Ct Tryz.prog 131 [(A.ram o)] [] [] (λv H'=>v=.bool r/\H'=[]):=by
 refine Jc Tryz.func131 rfl Tryz.ntmps131 rfl λw0 V=>?_;rw[F.d1]at s;refine Jj 1 ?_;refine Jr 0 (cs:=(A.raj o)) λW=>?_;refine Jm 1 [] 3 ?_;refine Vw [0] [] [.n,.b 0 0] [(4,A.i o.1)] 2 ?_;refine Jg [1,4] [0] (λu z=>∃(B:Bool),u=[(5,.bool B)]/\z=[]/\F.c5 o B=some r) ?_ ?_;refine J7 1 2 [(5,.bool (decide (o.1=3)))] 1 s ?_ ?_<;>intro J s;refine Vn 1 ?_;exact Jy ⟨(decide (o.1=3)),rfl,rfl,s⟩;refine Va 0 2 [(5,.bool (decide (o.1=13)))] ?_;refine Jb ?_;exact Jy ⟨(decide (o.1=13)),rfl,rfl,s⟩;rintro _ _ ⟨B,rfl,rfl,s⟩;rw[F.c5]at s;refine Uc s ?_ ?_<;>intro J s;refine Vu 1 [0] [] [.n,.b 0 1,.n,.n,.sy .n,.sy (.b 0 1),.sy .n,.pk,.n] [(2,.bool (bif decide ((0:Int)<=o.2.1)then decide (o.2.1<=64)else false))] 1 ?_;exact A.ke s (Vd ⟨rfl,rfl⟩);refine Jg [1] [0] (λu z=>∃(L:Bool),u=[(16,.bool L)]/\z=[]/\F.c4 o L=some r) ?_ ?_;refine J7 1 2 [(16,.bool (decide (o.1=6)))] 1 s ?_ ?_<;>intro J s;refine Vn 1 ?_;exact Jy ⟨(decide (o.1=6)),rfl,rfl,s⟩;refine Va 0 2 [(16,.bool (decide (o.1=11)))] ?_;refine Jb ?_;exact Jy ⟨(decide (o.1=11)),rfl,rfl,s⟩;rintro _ _ ⟨L,rfl,rfl,s⟩;rw[F.c4]at s;refine Uc s ?_ ?_<;>intro J s;refine Vu 1 [0] [] [.n,.b 0 1,.n,.n,.sy .n,.sy (.b 0 1),.sy .n,.pk,.n] [(2,.bool (bif decide ((1:Int)<=o.2.1)then decide (o.2.1<=1048576)else false))] 1 ?_;exact A.ke s (Vd ⟨rfl,rfl⟩);refine Vu 4 [0] [] [.n,.b 0 1,.n,.n] [(2,.bool (decide (o.2.1=0)))] 1 ?_;exact A.ke s (Vd ⟨rfl,rfl⟩)
def F.cx (o:Bool):Option Bool:=some o
def F.ca (o:ByteArray):Nat->Nat->Int->Option Bool
 |0,_,_=>none
 |f+1,s,u=>if s<o.size then(A.gd (Z.R64 (u+1)) ((F.ca o f) (s+(Utf8.decode o s).2) (u+1)))else(if u=1 then((F.bB o).bind λz=>(F.cx z))else(F.cx false))
def F.d2 (o:ByteArray):Option Bool:=F.ca o A.FU 0 0
theorem o_bE (u:ByteArray)(W:u.size<=maxLen)(r:Bool)(o:F.d2 u=some r):
    A.Ct Tryz.prog 152 [.string u] [(0,.el none 1 0 A.tabF),(1,.el none 2 0 A.tabA)] [] (λv H'=>v=.bool r/\H'=[]):=by
 refine Jc Tryz.func152 rfl Tryz.ntmps152 rfl λw0 F0=>?_;rw[F.d2]at o;refine Jj 1 ?_;refine Jm 1 [] 2 ?_;refine Jm 1 [(3,A.i 0)] 3 ?_;refine Vh 1 [(4,.string u)] (A.AL.rgs 2 λg1=>?_);refine V5 2 ?_;refine Ve [0,5] l2a (λf J L=>∃(B:Nat)(z:Int),J=[(3,A.i z)]/\L=[(2,.si g1 u B)]/\A.h6 z/\F.ca u f B z=some r) ⟨0,0,rfl,rfl,Jl,o⟩ ?_;rintro O _ _ ⟨B,z,rfl,rfl,a1,o⟩;rcases O with _|O
 exact J9 o;rw[F.ca]at o;refine Jj 1 ?_;refine A.AL.nxs 2 [] o (λhb6 o=>?_) (λhb o=>?_);refine Js 1 [(7,.bool true)] 2 ?_;refine Uh rfl ?_;refine Jj 3 ?_;have⟨U,o⟩:=Vi o;refine V4 3 [Z.R64 (z+1)] [(3,A.i (z+1))] U (Ul 1 ?_);exact Jy ⟨_,Qj _,⟨(B+(Utf8.decode u B).2),(z+1),rfl,rfl,(Jf U),o⟩⟩;refine Js 1 [(7,.bool false)] 2 ?_;refine Un rfl ?_;refine V3 2 ?_;refine Jg [] l2a (λJ L=>∃(N:Bool),J=[(2,.bool N)]/\L=[]/\F.cx N=some r) ?_ ?_;refine Va 0 3 [(12,.bool (decide (z=1)))] ?_;refine Ua (j:=12) rfl o ?_ ?_<;>intro hb o;refine Jq [] [] [.on .n] [(13,.string u)] (J1 (dj:=12) rfl rfl ?_);refine Vc 83 [] o (o_ag u W) (.s 0 (.s 1 .nil)) ?_;rintro V - o _ _ ⟨rfl,rfl⟩;refine Jh (Vh 2 [(2,.bool V)] (Jb ?_));exact Jy ⟨V,rfl,rfl,o⟩;refine Jq [] [] [.off,.off,.n,.n] [(2,.bool false)] (Jb ?_);exact Jy ⟨false,rfl,rfl,o⟩;rintro _ _ ⟨N,rfl,rfl,o⟩;rw[F.cx]at o;exact A.ke o (Vd ⟨rfl,rfl⟩)
def F.dJ (o:Bool):Option Bool:=some o
def F.dK (o:D62)(s:Bool):Option Bool:=if s=true then((F.d2 o.2.2).bind λu=>(some u))else(some (decide (o.2.2=(ByteArray.mk #[]))))
def F.ep (o:D62):Option Bool:=if o.1=5 then(if(bif decide (o.2.2≠(ByteArray.mk #[]))then decide ((o.2.2.size:Int)<=16)else false)=true then((F.bB o.2.2).bind λs=>(F.dJ s))else(F.dJ false))else(if o.1=12 then(F.dK o (decide (o.1=12)))else(F.dK o (decide (o.1=22))))
theorem o_ca (u:D62)(W:A.h6 u.1)(a1:A.h6 u.2.1)(N:u.2.2.size<=maxLen)(r:Bool)(o:F.ep u=some r):
    A.Ct Tryz.prog 132 [(A.ram u)] [(0,.el none 1 0 A.tabF),(1,.el none 2 0 A.tabA)] [] (λv H'=>v=.bool r/\H'=[]):=by
 refine Jc Tryz.func132 rfl Tryz.ntmps132 rfl λw0 F0=>?_;rw[F.ep]at o;refine Jj 1 ?_;refine Jr 2 (cs:=(A.raj u)) λg1=>?_;refine Jm 1 [] 3 ?_;refine Jq [2] [] [.n,.b 0 0] [(4,A.i u.1)] (Jz 3 ?_);refine Js 2 [(5,.bool (decide (u.1=5)))] 1 ?_;refine Ue o ?_ ?_<;>intro O o;refine Jg [] l2a (λz B=>∃(J:Bool),z=[(2,.bool J)]/\B=[]/\F.dJ J=some r) ?_ ?_;refine Vs 0 [2] [] [.n,.b 0 2,.n,.n,.sy .n,.sy (.b 0 2),.sy .n,.sy .n,.pk,.n] [(16,.bool (bif decide (u.2.2≠(ByteArray.mk #[]))then decide ((u.2.2.size:Int)<=16)else false))] ?_;refine Vl (j:=16) rfl o (λo=>?_) (λo=>?_);refine Jq [2] [] [.on .n,.on (.b 0 2)] [(18,.string u.2.2)] (J1 (dj:=16) rfl rfl ?_);refine Vc 3 [] o (o_ag u.2.2 N) (.s 0 (.s 1 .nil)) ?_;rintro U - o _ _ ⟨rfl,rfl⟩;refine Jh (Vh 2 [(2,.bool U)] (Jb ?_));exact Jy ⟨U,rfl,rfl,o⟩;refine Jq [] [] [.off,.off,.off,.n,.n] [(2,.bool false)] (Jb ?_);exact Jy ⟨false,rfl,rfl,o⟩;rintro _ _ ⟨J,rfl,rfl,o⟩;rw[F.dJ]at o;exact A.ke o (Vd ⟨rfl,rfl⟩);refine Jg [1] [0,1,2] (λz B=>∃(L:Bool),z=[(21,.bool L)]/\B=[]/\F.dK u L=some r) ?_ ?_;refine J7 1 2 [(21,.bool (decide (u.1=12)))] 1 o ?_ ?_<;>intro O o;refine Vn 1 ?_;exact Jy ⟨(decide (u.1=12)),rfl,rfl,o⟩;refine Va 0 2 [(21,.bool (decide (u.1=22)))] ?_;refine Jb ?_;exact Jy ⟨(decide (u.1=22)),rfl,rfl,o⟩;rintro _ _ ⟨L,rfl,rfl,o⟩;rw[F.dK]at o;refine Uc o ?_ ?_<;>intro O o;refine Vs 1 [2] [] [.n,.b 0 2] [(25,.string u.2.2)] ?_;refine Vc 43 [] o (o_bE u.2.2 N) (.s 0 (.s 1 .nil)) ?_;rintro V - o _ _ ⟨rfl,rfl⟩;refine Jh (Js 1 [(2,.bool V)] 1 ?_);exact A.ke o (Vd ⟨rfl,rfl⟩);refine Vu 4 [2] [] [.n,.b 0 2,.n,.n] [(2,.bool (decide (u.2.2=(ByteArray.mk #[]))))] 1 ?_;exact A.ke o (Vd ⟨rfl,rfl⟩)
end Go.Proofs.YtpoabedecgeamaaGreatDoor
end
