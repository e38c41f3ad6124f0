import Derived.Test.YtligcbdjiolamaaGreatDoorW6
import Derived.OpenShut
import Derived.ShutString
import Derived.ChangeOld
import Derived.ChangeArms
import Derived.DataReads
import Derived.Test.YtligcbdjiolamaaGreatDoorRows
import Derived.Test.YtligcbdjiolamaaGreatDoorTie
import Derived.Test.YtligcbdjiolamaaGreatDoorCards
import Derived.WalkKit
import Derived.ProofKit
import Derived.LaidMore
import Derived.Stop.Joined
import Derived.SevenTiedAt
import Derived.Lib.LaidIn
import Derived.Lib.LaidU8T
import Derived.PinnedBridge
import Derived.SizedLaws
set_option maxRecDepth 20000
set_option linter.unusedVariables false
set_option linter.unusedSimpArgs false
set_option synthInstance.maxSize 1000000
set_option synthInstance.maxHeartbeats 400000
section
namespace Go.A
end Go.A
namespace Go.Proofs.YtligcbdjiolamaaGreatDoor
open Go.RowKit Go.Graph Go.Utf Go.Ent
def fewF (s:Int):List Nd->Int
 | []=>s
 |x::r=>fewF (min (s+min (x.2.2.1.length:Int) 1048576+min (x.2.2.2.2.1.size:Int) 1048576+min (x.2.2.2.1.2.2.size:Int) 1048576) 1048576) r
theorem Qkc: ∀(l:List Nd) (s:Int),0<=s->s<=1048576->s<=fewF s l
 | [],s,_,_=>Je s
 |x::r,s,h,h2=>by
  unfold fewF
  have:=Qkc r (min (s+min (x.2.2.1.length:Int) 1048576+min (x.2.2.2.2.1.size:Int) 1048576+min (x.2.2.2.1.2.2.size:Int) 1048576) 1048576) (by omega) (by omega)
  omega
theorem fewF_le: ∀(l:List Nd) (s:Int),0<=s->s<=1048576->fewF s l<=5000->∀x∈l,x.2.2.1.length<=5000/\x.2.2.2.2.1.size<=5000/\x.2.2.2.1.2.2.size<=5000
 | [],_,_,_,_,x,hx=>by cases hx
 |y::r,s,h,h2,h3,x,hx=>by
  unfold fewF at h3
  have h4:=Qkc r (min (s+min (y.2.2.1.length:Int) 1048576+min (y.2.2.2.2.1.size:Int) 1048576+min (y.2.2.2.1.2.2.size:Int) 1048576) 1048576) (by omega) (by omega)
  rcases Qj.1 hx with rfl|hx
  ·omega
  ·exact fewF_le r _ (by omega) (by omega) h3 x hx
theorem few25_eq (g:List Nd): ∃b,F.dw g=some b/\(b=true->Few g/\g.length<=18):=by
 unfold F.dw
 rw[A.gd1 (by omega)]
 have hlen:(List.take (min (g.length:Int) 99).toNat g).length<=99:=by rw[Q4];omega
 have:=A.lp (List.take (min (g.length:Int) 99).toNat g) (fun f s y=>F.b4 g f s y) (fun _ l s=>some (bif decide ((g.length:Int)<=18)then decide (fewF s l<=2000)else false)) (fun _ s=>0<=s/\s<=1048576)
  (fun f s _=>by rw[F.b4,Qb (by omega)];rfl)
  (fun f s k x hx hk hp ih=>by
   rw[F.b4,Qc (by omega),A.ixn hx,Qa,A.gd1 ⟨⟨by omega,by omega⟩,⟨by omega,by omega⟩,⟨by omega,by omega⟩⟩,A.gd1 (A.r64n (by omega)),ih _ (by omega)]
   rfl)
  (by have:=Qac;omega) 0 (by omega)
 rw[this]
 refine⟨_,rfl,fun hb=>?_⟩
 by_cases h1:(g.length:Int)<=18
 ·simp only[h1,decide_true,cond_true,Qw]at hb
  have e:List.take (min (g.length:Int) 99).toNat g=g:=Xl (by omega)
  rw[e]at hb
  exact⟨⟨by omega,fewF_le g 0 (by omega) (by omega) (by omega)⟩,by omega⟩
 ·simp[h1]at hb
def ofI (k ws:Int):Int:=Int.tmod (M.hashI k) ws
theorem ofI_b (k:Int){ws:Int}(h1:1<=ws)(h2:ws<=16):0<=ofI k ws/\ofI k ws<ws:=by
 have h:=(M.u64_b (M.hashI k)).1
 have h0:0<=M.hashI k:=by
  have:=M.hashI_has k
  have e1:IntKind.u64.min=0:=by decide
  have:=this.1
  omega
 exact⟨Int.tmod_nonneg _ h0,Int.tmod_lt_of_pos _ (by omega)⟩
theorem Of_P (k ws:Int)(h1:1<=ws)(h2:ws<=16):F.dx k ws=some (ofI k ws):=by
 have hb:=ofI_b k h1 h2
 have e:IntKind.u64.wrap ws=ws:=M.u64_id (by omega) (by omega)
 rw[F.dx,A.bo,Qb (by rw[Xf];omega),F.dE,Qa,e,A.gd1 (by omega)]
 show some (IntKind.i64.wrap (ofI k ws))=_
 rw[IntWalk.i64_in _ ⟨by omega,by omega⟩]
def ownL (w ws:Int)(l:List En):List En:=if 1<=ws/\ws<=16 then l.filter fun x=>decide (ofI x.2.1 ws=w)else []
theorem ownL_len (w ws:Int)(l:List En):(ownL w ws l).length<=l.length:=by
 unfold ownL
 split
 ·exact X6 ..
 ·simp
theorem Own_P (w ws:Int)(l:List En)(hl:l.length<=100):F.ac w ws l=some (ownL w ws l):=by
 unfold F.ac ownL
 rw[A.bo]
 by_cases hw:1<=ws/\ws<=16
 ·rw[Qb (by rw[Xf];omega),Qc hw]
  have it:=A.lp0 l (fun f y=>F.d l f y) (fun _ r=>some r) (fun f=>by rw[F.d,Qb (by omega)])
   (fun f k x hx hk ih=>by rw[F.d,Qc (by omega),A.ixn hx,Qa,A.gd1 (A.r64n (by omega)),ih];rfl) (by have:=Qac;omega)
  have go: ∀(r xs:List En),xs.length+r.length<=1000->F.a7 w ws r xs=some (xs++r.filter fun x=>decide (ofI x.2.1 ws=w)):=fun r=>by
   induction r with
   |nil=>intro xs _;rw[F.a7];simp
   |cons y r ih=>
    intro xs hx
    rw[Ql]at hx
    rw[F.a7,Of_P _ _ hw.1 hw.2,Qa,X2]
    by_cases h:ofI y.2.1 ws=w
    ·rw[Qc h,A.gd1 (by simp;omega),ih _ (by simp;omega),Qc (Qz h)];simp
    ·rw[Qb h,ih _ (by omega),Qb (by rw[Xf];exact h)]
  rw[F.af,Qa,F.u,show F.d l A.FU 0=some l from it,Qa,go l [] (by simp;omega)]
  simp
 ·rw[Qc (by rw[Xf];omega),Qb hw]
abbrev Prt:=Int×List En
def prtA (i:Int)(o:List En)(t:List Prt):List Prt:=if 0<o.length then(i,o)::t else t
def Qci (f:Int->List En):Int->Nat->List Prt
 |_,0=>[]
 |i,n+1=>prtA i (f i) (Qci f (i+1) n)
theorem it_step (i:Int)(o:List En)(ho:o.length<=1000)(X:Option (List Prt)):(if(0:Int)<((o).length:Int)then((F.a o).bind fun r=>(A.cns (i,r) X))else X)=X.map (prtA i o):=by
 by_cases h:0<o.length
 ·rw[Qc (by omega),F.a,A.gd1 (by simp;omega),Qa,W7]
  unfold A.cns prtA
  simp only[Qc h]
 ·rw[Qb (by omega)]
  have:prtA i o=fun t=>t:=by funext t;unfold prtA;rw[Qb h]
  rw[this];cases X<;>rfl
theorem Parts_P (ws:Int)(l:List En)(hl:l.length<=100):F.b5 ws l=some (ownL 0 ws l,ownL 1 ws l,ownL 2 ws l,ownL 3 ws l,ownL 4 ws l,ownL 5 ws l,ownL 6 ws l,ownL 7 ws l,ownL 8 ws l,ownL 9 ws l,ownL 10 ws l,ownL 11 ws l,ownL 12 ws l,ownL 13 ws l,ownL 14 ws l,ownL 15 ws l):=by
 rw[F.b5]
 simp only[Own_P _ _ _ hl,Qa]
 rfl
theorem Parts_it (ws:Int)(l:List En)(hl:l.length<=100):F.bq (ownL 0 ws l,ownL 1 ws l,ownL 2 ws l,ownL 3 ws l,ownL 4 ws l,ownL 5 ws l,ownL 6 ws l,ownL 7 ws l,ownL 8 ws l,ownL 9 ws l,ownL 10 ws l,ownL 11 ws l,ownL 12 ws l,ownL 13 ws l,ownL 14 ws l,ownL 15 ws l)=some (Qci (fun i=>ownL i ws l) 0 16):=by
 have ho: ∀i:Int,(ownL i ws l).length<=1000:=fun i=>by have:=ownL_len i ws l;omega
 simp only[F.bq,F.bg,F.bh,F.bi,F.bj,F.bk,F.bl,F.bm,F.bn,F.bo,F.aW,F.aX,F.aY,F.aZ,F.a0,F.a1,F.a2]
 simp only[it_step _ _ (ho _)]
 rfl
theorem Qdj (f:Int->List En): ∀(n:Nat) (i:Int),(Qci f i n).length<=n
 |0,_=>Qp _
 |n+1,i=>by
  have:=Qdj f n (i+1)
  unfold Qci prtA
  split
  ·simp only[Ql];omega
  ·omega
theorem told_P (ws:Int)(l:List En)(m:Int)(hl:l.length<=100)(hm:0<=m):((F.b5 ws l).bind fun r=>F.an r m)=some ((Qci (fun i=>ownL i ws l) 0 16).take m.toNat):=by
 rw[Parts_P ws l hl,Qa,F.an]
 rw[show F.bq _=_ from Parts_it ws l hl,Qa]
 have hlen:=Qdj (fun i=>ownL i ws l) 16 0
 have go: ∀(r xs:List Prt),xs.length+r.length<=100->F.p m r xs=some (xs++r.take (m.toNat-xs.length)):=fun r=>by
  induction r with
  |nil=>intro xs _;rw[F.p];simp
  |cons y r ih=>
   intro xs hx
   rw[Ql]at hx
   rw[F.p]
   by_cases h:m<=(xs.length:Int)
   ·rw[Qc h,show m.toNat-xs.length=0 by omega];simp
   ·rw[Qb h,A.gd1 (by simp;omega),ih _ (by simp;omega)]
    obtain⟨k,hk⟩: ∃k,m.toNat-xs.length=k+1:=⟨m.toNat-xs.length-1,by omega⟩
    rw[hk,List.take_succ_cons,show m.toNat-(xs++[y]).length=k by simp;omega]
    simp
 rw[go _ [] (by simp;omega)]
 simp
theorem partsP_mem (f:Int->List En): ∀(n:Nat) (i:Int) (p:Prt),p∈Qci f i n->∃k,p.2=f k
 |0,_,_,h=>by cases h
 |n+1,i,p,h=>by
  unfold Qci prtA at h
  split at h
  ·rcases Qj.1 h with rfl|h
   ·exact⟨i,rfl⟩
   ·exact partsP_mem f n (i+1) p h
  ·exact partsP_mem f n (i+1) p h
theorem small25 (l:List En): ∃b,F.c2 [] l=some b/\(b=true->l.length<=60):=by
 have hFU:=Qac
 obtain⟨n,hn1,hn2,hn3⟩: ∃n:Nat,n<=99/\min ((l.length:Int)) 99=n/\n<=l.length:=⟨min l.length 99,by omega,by omega,by omega⟩
 have main:=A.lp (l.take (min (l.length:Int) 99).toNat) (fun f (y:Int) i=>F.aL [] l f y i) (fun _ r y=>some (bif bif decide (((List.length (α:=Int×Int×Int×ByteArray) []):Int)<=24)then decide (((l).length:Int)<=60)else false then decide (r.foldl (fun y x=>min (y+min (x.2.2.1.size:Int) 1048576) 1048576) y<=4000)else false)) (fun _ y=>0<=y/\y<=1048576)
  (fun f y _=>by rw[F.aL,Qb (by omega)];rfl)
  (fun f y k x hx hk hp ih=>by
   rw[hn2,Q4,Wc]at hk
   rw[F.aL,Qc (by rw[hn2,Q4,Wc];omega),A.ixn hx,Qa,A.gd1 ⟨by omega,by omega⟩,A.gd1 (A.r64n (by omega)),ih _ (by omega)]
   rfl) (by rw[Q4,hn2];omega) 0 (by omega)
 obtain⟨f,hf⟩: ∃f,A.FU=f+1:=⟨A.FU-1,by omega⟩
 unfold F.c2
 rw[A.gd1 (by decide)]
 rw[show F.bN [] l A.FU 0 0=F.aL [] l A.FU 0 0 by
  conv=>lhs;rw[hf,F.bN]
  rw[Qb (by simp),A.gd1 (by omega)]]
 rw[show F.aL [] l A.FU 0 0=_ from main]
 refine⟨_,rfl,fun h=>?_⟩
 by_cases h1:(l.length:Int)<=60
 ·omega
 ·simp[h1]at h
theorem L25_bg:F.dp=some true:=rfl
theorem Qft (g:List Nd): ∀(l out:List En),(l.foldl (stL g) out).length<=out.length+l.length
 | [],out=>Qp _
 |x::l,out=>by
  have h1:=Qft g l (stL g out x)
  have h2:=stL_len g out x
  show(l.foldl (stL g) (stL g out x)).length<=_
  rw[Ql];omega
theorem hasK_l {l:List En}(h:(Z.Ty.slice (Z.Ty.pair A.ti (Z.Ty.pair A.ti (Z.Ty.pair Z.Ty.str A.ti)))).ok l): ∀x,x∈l->hasK (key x):=fun x hx=>by
 obtain⟨h1,h2,h3,_⟩:=h.2 x hx
 exact⟨h1,h2,h3⟩
end Go.Proofs.YtligcbdjiolamaaGreatDoor
end
section
namespace Go.Proofs.YtligcbdjiolamaaGreatDoor
open Go.RowKit Go.Graph Go.Utf Go.Ent
def catP (f:Int->List En):Int->Nat->List En
 |_,0=>[]
 |i,n+1=>f i++catP f (i+1) n
theorem Qkh (f:Int->List En): ∀(n:Nat) (i:Int),(Qci f i n).flatMap (·.2)=catP f i n
 |0,_=>rfl
 |n+1,i=>by
  unfold Qci prtA catP
  by_cases h:0<(f i).length
  ·rw[Qc h,List.flatMap_cons,Qkh f n (i+1)]
  ·rw[Qb h,Qkh f n (i+1),Wf (by omega:(f i).length=0),W7]
abbrev ofK (k:Ky) (l:List En):List En:=l.filter fun x=>decide (key x=k)
theorem own_key {ws:Int}(hw:1<=ws/\ws<=16)(l:List En)(k:Ky)(i:Int):ofK k (ownL i ws l)=if ofI k.2.1 ws=i then ofK k l else []:=by
 unfold ownL ofK
 rw[Qc hw,List.filter_filter]
 by_cases h:ofI k.2.1 ws=i
 ·rw[Qc h]
  refine List.filter_congr fun x _=>?_
  by_cases hk:key x=k
  ·rw[Qz hk,Xi,Qz]
   rw[<-h,<-hk]
  ·rw[We hk,Yv]
 ·rw[Qb h]
  refine Jh.2 fun x _=>?_
  rw[Qf,Xf,Xf]
  rintro⟨h1,h2⟩
  exact h (by rw[<-h2,<-h1])
theorem cat_key {ws:Int}(hw:1<=ws/\ws<=16)(l:List En)(k:Ky): ∀(n:Nat) (i:Int),ofK k (catP (fun i=>ownL i ws l) i n)=if i<=ofI k.2.1 ws/\ofI k.2.1 ws<i+n then ofK k l else []
 |0,i=>by rw[Qb (by omega)];rfl
 |n+1,i=>by
  unfold catP
  have e:ofK k (ownL i ws l++catP (fun i=>ownL i ws l) (i+1) n)=ofK k (ownL i ws l)++ofK k (catP (fun i=>ownL i ws l) (i+1) n):=Jb ..
  rw[e,own_key hw,cat_key hw l k n (i+1)]
  by_cases h:ofI k.2.1 ws=i
  ·rw[Qc h,Qb (by omega),Qc (by push_cast;omega),Wm]
  ·rw[Qb h,W7]
   by_cases h2:i+1<=ofI k.2.1 ws/\ofI k.2.1 ws<i+1+n
   ·rw[Qc h2,Qc (by push_cast;omega)]
   ·rw[Qb h2,Qb (by push_cast;omega)]
theorem all_key {ws:Int}(hw:1<=ws/\ws<=16)(l:List En)(k:Ky):ofK k (catP (fun i=>ownL i ws l) 0 16)=ofK k l:=by
 rw[cat_key hw,Qc]
 have:=ofI_b k.2.1 hw.1 hw.2
 push_cast;omega
theorem all_perm {a l:List En}(h: ∀k,ofK k a=ofK k l):a.Perm l:=by
 letI:BEq En:=instBEqOfDecidableEq
 refine List.perm_iff_count.2 fun x=>?_
 have e: ∀m:List En,m.count x=(ofK (key x) m).count x:=fun m=>(List.count_filter (p:=fun y=>decide (key y=key x)) (Qz rfl)).symm
 rw[e a,e l,h]
def fnV (g:List Nd)(x:En)(v:Int):Int:=match tk g x with
 |none=>v
 |some one=>if one=true then num x else min 1099511627776 (num x+v)
theorem Qlk (g:List Nd)(k:Ky): ∀(l:List En) (m:List (Ky×Int)),Z.mget 0 (l.foldl (stM g) m) k=(ofK k l).foldl (fun v x=>fnV g x v) (Z.mget 0 m k)
 | [],m=>rfl
 |x::l,m=>by
  show Z.mget 0 (l.foldl (stM g) (stM g m x)) k=_
  rw[Qlk g k l]
  have e:Z.mget 0 (stM g m x) k=if key x=k then fnV g x (Z.mget 0 m k)else Z.mget 0 m k:=by
   unfold stM fnV
   cases tk g x with
   |none=>simp
   |some one=>
    dsimp only
    rw[Ui]
    by_cases hk:key x=k
    ·rw[Qc hk,Qc hk.symm,hk]
    ·rw[Qb hk,Qb (fun h=>hk h.symm)]
  rw[e]
  by_cases hk:key x=k
  ·rw[Qc hk]
   have:ofK k (x::l)=x::ofK k l:=by unfold ofK;rw[X2,Qc (Qz hk)]
   rw[this];rfl
  ·rw[Qb hk]
   have:ofK k (x::l)=ofK k l:=by unfold ofK;rw[X2,Qb (by rw[Xf];exact hk)]
   rw[this]
theorem stL_same (g:List Nd){a l:List En}(h: ∀k,ofK k a=ofK k l):a.foldl (stL g) []=l.foldl (stL g) []:=by
 have t1:=TI.all (g:=g) a TI.nil
 have t2:=TI.all (g:=g) l TI.nil
 refine nf_ext t1.bd.nf t2.bd.nf fun k=>?_
 rw[t1.eq,t2.eq,Qlk,Qlk,h]
theorem foldWhole_plain {P1 P2:Prop}(g:List Nd)(workers:UInt8)(l:List En)(_:P1)(_:P2)(hok0:(Z.Ty.slice (Z.Ty.pair A.ti (Z.Ty.pair A.ti (Z.Ty.pair Z.Ty.str A.ti)))).ok l):F.b9 g workers l=some true:=by
 have hok:=hasK_l hok0
 have hFU:=Qac
 have hm:(workers.toNat:Int)<=255:=by have:=workers.toNat_lt;omega
 have yes:F.av g workers l true=some true:=by rw[F.av,Qc rfl,L25_bg];rfl
 rw[F.b9,L25_bg,Qa,Qb (by simp)]
 obtain⟨b,hb,hb2⟩:=few25_eq g
 rw[hb,Qa]
 cases b with
 |false=>rw[Qc (by simp),yes]
 |true=>
  obtain⟨hg,_⟩:=hb2 rfl
  rw[Qb (by simp)]
  obtain⟨c,hc,hc2⟩:=small25 l
  rw[hc,Qa]
  cases c with
  |false=>rw[X0,yes]
  |true=>
   have hl:=hc2 rfl
   have hl1:l.length<=100:=by omega
   obtain⟨ws,hws⟩: ∃ws,ws=1+(Int.tmod (workers.toNat:Int) 16):=⟨_,rfl⟩
   have h0:0<=Int.tmod (workers.toNat:Int) 16:=Int.tmod_nonneg _ (by omega)
   have h1:Int.tmod (workers.toNat:Int) 16<16:=Int.tmod_lt_of_pos _ (by omega)
   have hw:1<=ws/\ws<=16:=by omega
   obtain⟨pp,hpp⟩: ∃pp,pp=Qci (fun i=>ownL i ws l) 0 16:=⟨_,rfl⟩
   have hpl:pp.length<=16:=by rw[hpp];exact Qdj _ _ _
   have hpm: ∀p,p∈pp->p.2.length<=1000:=fun p hp=>by rw[hpp]at hp;obtain⟨k,e⟩:=partsP_mem _ _ _ _ hp;rw[e];have:=ownL_len k ws l;omega
   have told: ∀(m:Int) (K:List Prt->Option Bool),0<=m->((F.b5 ws l).bind fun r=>(F.an r m).bind K)=K (pp.take m.toNat):=fun m K h0=>by
    have:=told_P ws l m hl1 h0
    rw[Parts_P ws l hl1,Qa]at this ⊢
    rw[this,Qa,hpp]
   rw[Xm,F.av,Qb (by simp),<-hws,A.gd1 ⟨⟨by omega,by omega⟩,by decide,⟨by omega,by omega⟩⟩]
   refine(told 99 _ (by omega)).trans ?_
   rw[Xl (by show pp.length<=99;omega)]
   obtain⟨al,hal⟩: ∃al,al=pp.flatMap (·.2):=⟨_,rfl⟩
   have hkey: ∀k,ofK k al=ofK k l:=fun k=>by rw[hal,hpp,Qkh];exact all_key hw l k
   have hperm:=all_perm hkey
   have hlen:=hperm.length_eq
   obtain⟨e,he1,he2⟩:=check_same g hg
   have fin:(if((al).length:Int)=((l).length:Int)then((F.bu g al).bind fun r64=>((F.bu g l).bind fun r68=>((F.cD r64 r68).bind fun r72=>(F.ag r72))))else(F.ag false))=some true:=by
    rw[Qc (by rw[hlen]),Qds g al hg (by omega) (fun x hx=>hok x (hperm.mem_iff.1 hx)),he1,Qa,Qa,Qds g l hg hl1 hok,he1,Qa,Qa,stL_same g hkey]
    have hlen:(if e≠0 then []else l.foldl (stL g) []).length<=1000:=by
     split
     ·simp
     ·have:=Qft g l [];simp at this;omega
    rw[Same_eq _ _ (by omega),Qa,F.ag]
    simp
   have main:=A.lp pp (fun f (xs:List En) i=>F.au g l pp f xs i) (fun k r xs=>if((xs++r.flatMap (·.2)).length:Int)=((l).length:Int)then((F.bu g (xs++r.flatMap (·.2))).bind fun r64=>((F.bu g l).bind fun r68=>((F.cD r64 r68).bind fun r72=>(F.ag r72))))else(F.ag false)) (fun k xs=>xs.length<=k*1000)
    (fun f xs _=>by rw[F.au,Qb (by omega)];simp)
    (fun f xs k x hx hk hp ih=>by
     have hx2:=hpm x (Qm hx)
     rw[F.au,Qc (by omega),A.ixn hx,Qa,A.gd1 (by omega),A.gd1 (A.r64n (by omega)),ih _ (by rw[Qq];omega),List.flatMap_cons,Wq]) (by omega) [] (by simp)
   refine(show F.au g l pp A.FU [] 0=_ from main).trans ?_
   rw[W7,<-hal]
   exact fin
end Go.Proofs.YtligcbdjiolamaaGreatDoor
end
section
namespace Go.Z
open Go.RowKit
def OpenT (P:Program)(T:TypeId)(t:Ty):Prop:=
 P.cellsOf T=t.size/\∀(H:Type) (enc:TypeId×Value->H) (w:World) (base:Nat) (spare:Nat->Bool) (held:Bool) (fuel:Nat) (cs:List Value) (x:DataW H×List MemPlace),
  DataW.trod enc P w base spare held fuel T cs=some x->∃y:t.den,t.rep w (nt []) cs y
section
variable {P:Program}{T e:TypeId}
theorem ot_int {k:IntKind}(hc:P.cellsOf T=1)(ht:P.underlying T=some (.int k)):OpenT P T (.int k):=⟨hc,fun H enc w base spare held fuel cs x h=>by
 obtain⟨n,rfl,_,hw⟩:=DataW.trod_int ht h
 refine⟨n,rfl,?_⟩
 simp only[Lit.wf,Qf,Qw]at hw
 exact hw⟩
theorem ot_byte (hc:P.cellsOf T=1)(ht:P.underlying T=some (.int .u8)):OpenT P T .byte:=⟨hc,fun H enc w base spare held fuel cs x h=>by
 obtain⟨n,rfl,_,hw⟩:=DataW.trod_int ht h
 simp[Lit.wf,IntKind.min,IntKind.max,IntKind.signed,IntKind.bits]at hw
 exact⟨UInt8.ofNat n.toNat,Wt (fun z=>[Value.int .u8 z]) (u8_of (by omega))⟩⟩
theorem ot_str (hc:P.cellsOf T=1)(ht:P.underlying T=some .string):OpenT P T .str:=⟨hc,fun H enc w base spare held fuel cs x h=>by
 obtain⟨s,rfl,_,hs⟩:=DataW.trod_string ht h
 exact⟨s,rfl,hs⟩⟩
def OpenPs (P:Program):List (TypeId×Nat)->Nat->Ty->Prop
 | [],_,_=>False
 | [(T,o')],o,t=>o'=o/\OpenT P T t
 |(T,o')::p::ps,o,.pair a b=>o'=o/\OpenT P T a/\OpenPs P (p::ps) (o+a.size) b
 |_::_::_,_,_=>False
theorem open_ps {H:Type}{enc:TypeId×Value->H}{w:World}{base:Nat}{spare:Nat->Bool}{held:Bool}{fuel:Nat}{cs:List Value}:
  ∀(ps:List (TypeId×Nat)) (o:Nat) (t:Ty),OpenPs P ps o t->(∀p∈ps,∃x,DataW.trod enc P w base spare held fuel p.1 ((cs.drop p.2).take (P.cellsOf p.1))=some x)->∃y:t.den,t.rep w (nt []) ((cs.drop o).take t.size) y
 | [],_,_,h,_=>h.elim
 | [(T,o')],o,t,h,hx=>by
  obtain⟨rfl,⟨hc,ho⟩⟩:=h
  obtain⟨x,hx⟩:=hx (T,o') (Qo.2 rfl)
  rw[<-hc];exact ho _ _ _ _ _ _ _ _ _ hx
 |(T,o')::p::ps,o,.pair a b,h,hx=>by
  obtain⟨rfl,⟨hc,ho⟩,hr⟩:=h
  obtain⟨x,h1⟩:=hx (T,o') (Qg ..)
  obtain⟨ya,hya⟩:=ho _ _ _ _ _ _ _ _ _ h1
  obtain⟨yb,hyb⟩:=open_ps (p::ps) _ b hr fun q hq=>hx q (Qe _ hq)
  refine⟨(ya,yb),_,_,?_,hya,hyb⟩
  show(cs.drop o').take (a.size+b.size)=_
  rw[hc,List.take_add,Yr]
 |_::_::_,_,.int _,h,_=>h.elim
 |_::_::_,_,.byte,h,_=>h.elim
 |_::_::_,_,.bool,h,_=>h.elim
 |_::_::_,_,.str,h,_=>h.elim
 |_::_::_,_,.slice _,h,_=>h.elim
theorem ot_struct {fs:List Field}{t:Ty}(hc:P.cellsOf T=t.size)(ht:P.underlying T=some (.struct fs.toArray))(h:OpenPs P (fs.map fun f=>(f.type,f.offset)) 0 t):OpenT P T t:=⟨hc,fun H enc w base spare held fuel cs x hx=>by
 obtain⟨xs,n,_,_,hl,hs,hf⟩:=DataW.trod_struct ht hx
 have hcs:cs=(cs.drop 0).take t.size:=by rw[Xc,Xl (by omega)]
 rw[hcs]
 refine open_ps (fuel:=n) (enc:=enc) (base:=base) (spare:=spare) (held:=held) _ 0 t h fun p hp=>?_
 obtain⟨f,hf1,rfl⟩:=Wi.1 hp
 obtain⟨i,hi,he⟩:=Yg hf1
 have h1:=hf i f (by rw[Xg,Qi hi,he])
 rw[h1,Qi (by rw[hs];simpa using hi)]
 exact⟨_,rfl⟩⟩
theorem rows_of {t:Ty}{w:World}{g:Addr}: ∀(n:Nat),(∀i,i<n->∃(cs:List Value) (y:t.den),cs.length=t.size/\(∀j u,cs[j]?=some u->w.cell? (g.add (i*t.size+j))=some u)/\t.rep w (nt []) cs y)->
  ∃(cells:List Value) (ys:List t.den),ys.length=n/\cells.length=n*t.size/\(∀j u,cells[j]?=some u->w.cell? (g.add j)=some u)/\∀(i:Nat) (y:t.den),ys[i]?=some y->t.rep w (nt []) ((cells.drop (i*t.size)).take t.size) y
 |0,_=>⟨[],[],rfl,by simp,by simp,by simp⟩
 |n+1,h=>by
  obtain⟨cells,ys,h1,h2,h3,h4⟩:=rows_of n fun i hi=>h i (by omega)
  obtain⟨cs,y,c1,c2,c3⟩:=h n (by omega)
  refine⟨cells++cs,ys++[y],by simp[h1],by rw[Qq,h2,c1,Jt],fun j u hj=>?_,?_⟩
  ·by_cases hlt:j<cells.length
   ·rw[Wg hlt]at hj;exact h3 j u hj
   ·rw[Xb (by omega)]at hj
    have:=c2 _ u hj
    rwa[h2,show n*t.size+(j-n*t.size)=j by omega]at this
  ·refine Qgy (xs:=ys) (ys:=[y]) (by rw[h2,h1]) h4 fun i y' hi=>?_
   have:i=0:=by have:=(Qd.1 hi).1;simp at this;omega
   subst this
   simp at hi;subst hi
   rw[Y2,Xc,Xl (by omega)];exact c3
theorem ot_slice {t:Ty}(hc:P.cellsOf T=1)(ht:P.underlying T=some (.slice e))(h:OpenT P e t):OpenT P T (.slice t):=⟨hc,fun H enc w base spare held fuel cs x hx=>by
 rcases DataW.trod_slice ht hx with⟨rfl,_⟩|⟨ad,len,cap,elems,rest,n,_,rfl,_,hb,hl,hm,hlen,hel,_,_⟩
 ·exact⟨[],Qhy _⟩
 ·have each: ∀i,i<len->∃(cs:List Value) (y:t.den),cs.length=t.size/\(∀j u,cs[j]?=some u->w.cell? (ad.add (i*t.size+j))=some u)/\t.rep w (nt []) cs y:=fun i hi=>by
   have h1:=hel i hi
   rw[Qi (by omega),Jc]at h1
   obtain⟨cs',h2,h3⟩:=h1
   obtain⟨_,h4,h5⟩:=World.cells?_some h2
   obtain⟨y,hy⟩:=h.2 _ _ _ _ _ _ _ _ _ h3
   rw[h.1]at h4 h5
   refine⟨cs',y,h4,fun j u hj=>?_,hy⟩
   have hlt:=(Qd.1 hj).1
   have:=h5 j (by omega)
   rw[add_add]at this
   rw[this,hj]
  obtain⟨cells,ys,h1,h2,h3,h4⟩:=rows_of len each
  by_cases hz:len=0
  ·subst hz
   have:ys=[]:=Wf h1
   subst this
   exact⟨[],some ad,cap,[],rfl,by simp,hm,by simp,.inl rfl,by simp⟩
  ·have hp:=Qau t
   have hlt:0<cells.length:=by rw[h2];exact Nat.mul_pos (by omega) hp
   have h0:=h3 0 _ (Qi hlt)
   have hspot:=World.cell?_spot h0
   obtain⟨b,off,spot⟩:=ad
   simp only[Addr.add]at hspot
   subst hspot
   refine⟨ys,some ⟨b,off,none⟩,cap,cells,by rw[h1],by omega,hm,by rw[h1];exact h2,.inr ⟨b,off,rfl,by simp[nt],fun j u hj=>?_⟩,h4⟩
   have:=h3 j u hj
   rwa[Addr.add_lit]at this⟩
end
end Go.Z
end
section
namespace Go.Proofs.YtligcbdjiolamaaGreatDoor.foldWholeDone
open Go.ChangeShapes Go.WideShapes Go.ChangeAt Go.RowKit
theorem own:ownKnob Tryz.prog.godebug=none:=by kernel_rfl
theorem laidOut:laidOutB Tryz.prog=true:=by kernel_rfl
theorem ot3:Z.OpenT Tryz.prog 3 A.ti:=Z.ot_int (by kernel_rfl) Tryz.underlying3
theorem ot45:Z.OpenT Tryz.prog 45 A.TI:=Z.ot_slice (by kernel_rfl) Tryz.underlying45 ot3
theorem ot2:Z.OpenT Tryz.prog 2 A.ti:=Z.ot_int (by kernel_rfl) Tryz.underlying2
theorem ot9:Z.OpenT Tryz.prog 9 Z.Ty.str:=Z.ot_str (by kernel_rfl) Tryz.underlying9
theorem ot47:Z.OpenT Tryz.prog 47 T46:=Z.ot_struct (by kernel_rfl) Tryz.underlying47 ⟨rfl,ot3,rfl,ot2,rfl,ot9⟩
theorem ot49:Z.OpenT Tryz.prog 49 T48:=Z.ot_struct (by kernel_rfl) Tryz.underlying49 ⟨rfl,ot3,rfl,ot3,rfl,ot45,rfl,ot47,rfl,ot9,rfl,ot2,rfl,ot3⟩
theorem ot22:Z.OpenT Tryz.prog 22 (Z.Ty.slice T48):=Z.ot_slice (by kernel_rfl) Tryz.underlying22 ot49
theorem ot24:Z.OpenT Tryz.prog 24 T23:=Z.ot_struct (by kernel_rfl) Tryz.underlying24 ⟨rfl,ot22⟩
theorem ot5:Z.OpenT Tryz.prog 5 Z.Ty.byte:=Z.ot_byte (by kernel_rfl) Tryz.underlying5
theorem ot59:Z.OpenT Tryz.prog 59 T58:=Z.ot_struct (by kernel_rfl) Tryz.underlying59 ⟨rfl,ot3,rfl,ot2,rfl,ot9,rfl,ot2⟩
theorem ot25:Z.OpenT Tryz.prog 25 (Z.Ty.slice T58):=Z.ot_slice (by kernel_rfl) Tryz.underlying25 ot59
set_option maxRecDepth 100000 in
theorem laid_met (os:Os)(args:Array Value):laidMetH Tryz.prog Rows.foldWholeRow.laid (({World.holding Tryz.prog os ⟨#[],#[],[]⟩with heap:=((World.holding Tryz.prog os ⟨#[],#[],[]⟩).heap.modify 0 (A.putCells A.tabF)).modify 1 (A.putCells A.tabA)}:World).forCall (fun _ _=>0) ⟨#[],args,[]⟩).memory:=by
 rw[MakeChecks.laidMetH_plain _ _ _ (by kernel_rfl)]
 exact(LaidIn.of_run (l:=Rows.foldWholeRow.laid) [1,0] 8 (by kernel_rfl) (by kernel_rfl) (by kernel_rfl) (by kernel_rfl)).met
theorem of_laid {W:World}(h:laidMetH Tryz.prog Rows.foldWholeRow.laid W):Lib.Utf8Tabs 0 1 W:=by
 rw[MakeChecks.laidMetH_plain _ _ _ (by kernel_rfl)]at h
 have h1:=Lib.laidMet.reads h (.tail _ (.head _))
 rw[show Rows.laid_unicode_utf8_first=Lib.firstData from Pinned.utf8First_eq]at h1
 have h2:=Lib.laidMet.reads h (.head _)
 rw[show(Rows.laid_unicode_utf8_acceptRanges:DataW Unit)=Lib.acceptData by kernel_rfl]at h2
 exact utf8Tabs_of_readsT (U8Types.of196 Tryz.laysValid) ⟨by kernel_rfl,by kernel_rfl,by kernel_rfl,by kernel_rfl,by kernel_rfl,by kernel_rfl,by kernel_rfl⟩ h1 h2
set_option maxHeartbeats 1000000 in
set_option maxRecDepth 100000 in
theorem lifted (os:Os)(started:os.Started)(H:Type)(enc:TypeId×Value->H):
  ReturnsInHanded {} Tryz.checked os 4 .any (fun w args=>(Rows.foldWholeSpec.pre enc Tryz.prog Tryz.f4 [] false w args/\laidMetH Tryz.prog Rows.foldWholeRow.laid w)/\sizedMet enc Tryz.prog Tryz.f4 (OpenSpec.ofChange Rows.foldWholeSpec) false w args) (Rows.foldWholeSpec.post enc Tryz.prog Tryz.f4 false true false false):=by
 refine returnsInHanded_of_change_and (C:=Tryz.checked) (X:=fun w _=>laidMetH Tryz.prog Rows.foldWholeRow.laid w) (fun _ _ _ hh h=>h.of_heap hh) own started (by kernel_rfl) Tryz.func4
  (ChangeSpec.witness_shaped (enc:=enc) (C:=Tryz.checked) (os:=os) (X:=fun w _=>laidMetH Tryz.prog Rows.foldWholeRow.laid w) false ({World.holding Tryz.prog os ⟨#[],#[],[]⟩with heap:=((World.holding Tryz.prog os ⟨#[],#[],[]⟩).heap.modify 0 (A.putCells A.tabF)).modify 1 (A.putCells A.tabA)}) #[.agg #[.slice none 0 0],.int .u8 0,.slice none 0 0] 16 rfl (World.shaped_of_RefB (by kernel_rfl) (by kernel_rfl)) (by kernel_rfl) (by kernel_rfl) (by kernel_rfl) (laid_met os _)) ?_
 intro W base args ds gs before hval0 hW hcnd hsz0 hL _
 have hval: ∀(j:Nat) t v,Tryz.f4.params[j]?=some t->args[j]?=some v->Value.okWide Tryz.prog W .any base t v:=hval0
 have hW':=hW
 obtain⟨p,q,hA0,hV,rfl,hfz,hnd⟩:=hW
 have hA:DataW.TrodAll enc Tryz.prog W 0 (fun _=>true) true Tryz.f4.params.toList args.toList ds p:=hA0
 rw[Tryz.params4]at hA hval
 obtain⟨v0,vs0,d0,ds0,p0,q0,hargs,rfl,rfl,h0,r0⟩:=trodAll_cons hA
 obtain⟨v1,vs1,d1,ds1,p1,q1,rfl,rfl,rfl,h1,r1⟩:=trodAll_cons r0
 obtain⟨v2,vs2,d2,ds2,p2,q2,rfl,rfl,rfl,h2,r2⟩:=trodAll_cons r1
 obtain⟨rfl,rfl,rfl⟩:=trodAll_nil r2
 obtain rfl:args=#[v0,v1,v2]:=by cases args;simp_all
 obtain⟨rfl,rfl⟩:=trodVars_none hV
 have k0:=h0
 have lt0: ∀x∈p0,x.block<W.heap.size:=by obtain⟨m,hm⟩:=k0;exact DataW.trod_lt m _ _ _ hm
 obtain⟨fu0,hf0⟩:=h0
 obtain⟨x0,hx0⟩:=ot24.2 _ _ _ _ _ _ _ _ _ hf0
 obtain⟨cs0,rfl,_⟩:=okWide_struct Tryz.underlying24 (hval 0 24 v0 rfl rfl)
 replace hx0:T23.rep W (Z.nt []) cs0.toList x0:=hx0
 have hok0:=Z.rep_ok _ hx0
 obtain⟨a0,c0,hc0⟩: ∃a c,cs0.toList=[.slice a x0.length c]:=by obtain⟨a,c,_,h,_⟩:=hx0;exact⟨a,c,h⟩
 obtain rfl:cs0=#[.slice a0 x0.length c0]:=by rw[<-Q7 (xs:=cs0),hc0]
 have k1:=h1
 have lt1: ∀x∈p1,x.block<W.heap.size:=by obtain⟨m,hm⟩:=k1;exact DataW.trod_lt m _ _ _ hm
 obtain⟨fu1,hf1⟩:=h1
 obtain⟨x1,hx1⟩:=ot5.2 _ _ _ _ _ _ _ _ _ hf1
 obtain⟨u1,rfl⟩:=okWide_int Tryz.underlying5 (hval 1 5 v1 rfl rfl)
 have he1:=hx1
 replace he1:u1=(x1.toNat:Int):=by simpa[Value.cells,Z.Ty.rep] using he1
 subst he1
 have k2:=h2
 have lt2: ∀x∈p2,x.block<W.heap.size:=by obtain⟨m,hm⟩:=k2;exact DataW.trod_lt m _ _ _ hm
 obtain⟨fu2,hf2⟩:=h2
 obtain⟨x2,hx2⟩:=ot25.2 _ _ _ _ _ _ _ _ _ hf2
 obtain⟨a2,n2,c2,rfl⟩:=okWide_slice Tryz.underlying25 (hval 2 25 v2 rfl rfl)
 replace hx2:(Z.Ty.slice T58).rep W (Z.nt []) [.slice a2 n2 c2] x2:=hx2
 have hn2:=(Z.rep_slice_len hx2).1
 subst hn2
 clear hA0 hval0
 have htab:=of_laid hL
 have hF:F.b9 x0 x1 x2=some true:=foldWhole_plain x0 x1 x2 hok0 trivial (Z.rep_ok _ hx2)
 have hct:=o_aR a0 a2 c0 c2 x0 x1 x2 true hF
 refine(hct W (fun _=>True) (A.Hp.start ⟨A.Hall.sh hx0,A.Hall.sh hx2,A.Hall.tabs htab⟩)).mono ?_
 rintro e W' ⟨v,H',rfl,⟨rfl,rfl⟩,hh⟩
 have bel:=hh.ch.below
 exact⟨_,rfl,_,_,_,[],_,[],hW',trodAll_mk1 (shut_bool Tryz.underlying4 _),(trodAll_cons_mk (Below.trod laidOut (by kernel_rfl) (Wa (by kernel_rfl)) k0 bel lt0) (trodAll_cons_mk (Below.trod laidOut (by kernel_rfl) (Wa (by kernel_rfl)) k1 bel lt1) (trodAll_cons_mk (Below.trod laidOut (by kernel_rfl) (Wa (by kernel_rfl)) k2 bel lt2) trodAll_mk0))),rfl,bel.frame _,fun h=>by cases h⟩
theorem joinedF:joinedFacts Tryz.prog 4 Tryz.f4 Rows.foldWholeSpec Rows.foldWholeRow=true:=by kernel_rfl
theorem over:Rows.foldWholeRow.holds Tryz.pinned (OpenSpec.ofChange Rows.foldWholeSpec):=
 OpenClaim.holds_of_wide 4 Tryz.f4 rfl rfl rfl rfl rfl rfl rfl ⟨rfl,rfl,rfl,rfl,rfl⟩ rfl rfl rfl rfl rfl (by kernel_rfl) Tryz.func4 joinedF
  (Wa (by kernel_rfl)) (by unfold Func.isWrapper;first|(rw[Qc (by decide+kernel)];kernel_rfl)|(rw[Qb (by decide+kernel)];exact⟨rfl,rfl⟩))
  (fun os started H enc _=>lifted os started H enc)
theorem proved:Rows.FoldWholeCardSaid:=
 Claim7.holds_tied_plain_at .later [] [.data,.pinned] true (true,"cb5ed361193c288ed44bf3cdca77378c696ff3895992b008aebb085afb4dbe0f") true
  over (fun _ h=>by cases h) (by kernel_rfl) (fun _ h=>by cases h) foldWhole_row_tie rfl ⟨rfl,rfl⟩ (by kernel_rfl) rfl
  (fun f fn hf hfn=>by
   obtain rfl:f=4:=Xk ((show Tryz.prog.funcNamed Rows.foldWholeRow.func=some 4 by kernel_rfl).symm.trans hf) |>.symm
   obtain rfl:fn=Tryz.f4:=(Xk (Tryz.func4.symm.trans hfn)).symm
   exact⟨by kernel_rfl,fun j t ht=>by
    rw[Tryz.params4]at ht
    have hm:t∈[24,5,25]:=by simpa using Array.mem_of_getElem? ht
    have hall:([24,5,25].all fun u=> !Tryz.prog.wantsStandIn u)=true:=by kernel_rfl
    exact(show Tryz.prog.wantsStandIn t=false by simpa using Q2.1 hall t hm)⟩)
  (by kernel_rfl)
#print axioms proved
end Go.Proofs.YtligcbdjiolamaaGreatDoor.foldWholeDone
end
