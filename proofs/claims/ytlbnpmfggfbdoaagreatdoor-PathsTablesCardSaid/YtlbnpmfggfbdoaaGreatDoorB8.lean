/- The law 'PathsTables' as it is given: whatever the input, the call returns true, and each argument reads behind it as it read before. No condition but that utf8's two tables hold what the library's text lays, which the card ties. -/
import Derived.Test.YtlbnpmfggfbdoaaGreatDoorB7
import Derived.Test.YtlbnpmfggfbdoaaGreatDoorB0
import Derived.OpenShut
import Derived.ShutString
import Derived.ChangeOld
import Derived.ChangeArms
import Derived.DataReads
import Derived.Test.YtlbnpmfggfbdoaaGreatDoorRows
import Derived.Test.YtlbnpmfggfbdoaaGreatDoorTie
import Derived.Test.YtlbnpmfggfbdoaaGreatDoorCards
import Derived.Test.YtlbnpmfggfbdoaaGreatDoorB6
import Derived.WalkKit
import Derived.ProofKit
import Derived.Below
import Derived.LaidMore
import Derived.Stop.Joined
import Derived.SevenTiedAt
import Derived.Lib.LaidIn
import Derived.Lib.LaidU8T
import Derived.PinnedBridge
import Derived.SizedLaws
set_option linter.unusedVariables false
set_option linter.unusedSimpArgs false
set_option synthInstance.maxSize 1000000
set_option synthInstance.maxHeartbeats 400000
section
namespace Go.Proofs.YtlbnpmfggfbdoaaGreatDoor
open Go.RowKit Go.Graph
abbrev Kn:=List Pl×List (List Sm)
def zt (st:Kn)(p:Pl):Pl→Pl→List Sm:=fun p' q=>if p'=p then Z.mget [] (st.1.zip st.2) q else []
structure KI (g:List Nd) (d:List Int) (p:Pl) (st:Kn):Prop where
 inv:Pth.Inv (EN g d) (i0N g d) ctr ltS (GN g d) (zt st p)
 len:st.1.length=st.2.length
 nd:st.1.Nodup
 ne: ∀r∈st.2,r≠[]
 ks: ∀q∈st.1,∃b,(q,b)∈spots g d
theorem Qfc {st:Kn}(O:st.1.length=st.2.length)(H:st.1.Nodup){p q:Pl}{i:Nat}{r:List Sm}(I:st.1[i]?=some q)(J:st.2[i]?=some r):zt st p p q=r:=by
 have N:(st.1.zip st.2)[i]?=some (q,r):=List.getElem?_zip_eq_some.2 ⟨I,J⟩
 unfold zt
 rw[if_pos rfl]
 exact(Z.mget_get (z:=[]) (by rw[List.map_fst_zip (by omega)];exact H) N).1
theorem Qcj {st:Kn}(I:st.1.length=st.2.length){p p' q:Pl}(h:q∉st.1):zt st p p' q=[]:=by
 unfold zt
 split
 ·refine Z.mget_none ?_
  cases H:Z.mhas (st.1.zip st.2) q with
  |false=>rfl
  |true=>rw[Z.mhas_iff,List.map_fst_zip (by omega)]at H;exact absurd H h
 ·rfl
theorem zt_app {st:Kn}(I:st.1.length=st.2.length)(J:st.1.Nodup){p q:Pl}(h:q∉st.1)(r:List Sm):zt (st.1++[q],st.2++[r]) p=Pth.put (zt st p) p q r:=by
 have H:Z.mhas (st.1.zip st.2) q=false:=by
  cases H:Z.mhas (st.1.zip st.2) q with
  |false=>rfl
  |true=>rw[Z.mhas_iff,List.map_fst_zip (by omega)]at H;exact absurd H h
 funext p' q'
 have e1:zt (st.1++[q],st.2++[r]) p p' q'=if p'=p then Z.mget [] ((st.1++[q]).zip (st.2++[r])) q' else []:=rfl
 have e2:Pth.put (zt st p) p q r p' q'=if p'=p∧q'=q then r else zt st p p' q':=rfl
 have e3:zt st p p' q'=if p'=p then Z.mget [] (st.1.zip st.2) q' else []:=rfl
 rw[e1,e2,e3]
 by_cases hp:p'=p
 ·rw[if_pos hp,if_pos hp,show(st.1++[q]).zip (st.2++[r])=st.1.zip st.2++[(q,r)]from List.zip_append I,←Qdd H,Ux]
  by_cases hq:q'=q
  ·rw[if_pos hq,if_pos ⟨hp,hq⟩]
  ·rw[if_neg hq,if_neg (fun h=>hq h.2)]
 ·rw[if_neg hp,if_neg hp,if_neg (fun h=>hp h.1)]
theorem zt_set {st:Kn}(J:st.1.length=st.2.length)(N:st.1.Nodup){p q:Pl}{i:Nat}(h:st.1[i]?=some q)(r:List Sm):zt (st.1,st.2.set i r) p=Pth.put (zt st p) p q r:=by
 have hi:=(Qc.1 h).1
 have H:st.1.length=(st.2.set i r).length:=by rw[Wr];exact J
 funext p' q'
 unfold Pth.put
 by_cases hp:p'=p
 ·subst hp
  by_cases hq:q'=q
  ·rw[if_pos ⟨rfl,hq⟩,hq]
   exact Qfc (st:=(st.1,st.2.set i r)) H N h (by show(st.2.set i r)[i]?=some r;rw[Yf (by omega)])
  ·rw[if_neg (fun h=>hq h.2)]
   by_cases O:q'∈st.1
   ·obtain⟨j,I⟩:=Xe O
    have hjl:=(Qc.1 I).1
    have Y:i≠j:=fun e=>hq (by rw[e,I]at h;exact Qp h)
    have h2:st.2[j]?=some st.2[j]:=Qd (by omega)
    rw[Qfc J N I h2]
    exact Qfc (st:=(st.1,st.2.set i r)) H N I (by show(st.2.set i r)[j]?=_;rw[Jb Y];exact h2)
   ·rw[Qcj J O]
    exact Qcj (st:=(st.1,st.2.set i r)) H O
 ·rw[if_neg (fun h=>hp h.1)]
  unfold zt
  rw[if_neg hp,if_neg hp]
theorem at_eq (st:Kn)(q:Pl)(Y:st.1.length≤1000000):(F.aG st q=some (-1)∧q∉st.1)∨∃i:Nat,F.aG st q=some (i:Int)∧st.1[i]?=some q:=by
 have h:=A.fst st.1 (fun x=>decide (x=q)) (fun f z=>F.bm st q f z)
  (fun f=>by rw[F.bm,if_neg (by omega)])
  (fun f k x N hk=>by
   rw[F.bm,if_pos (by omega),A.ixn N,Qa,A.gd1 (A.r64n (by omega))]
   by_cases H:x=q
   ·rw[if_pos H,if_pos (decide_eq_true H)]
   ·rw[if_neg H,if_neg (by rw[decide_eq_true_iff];exact H)])
  (by have:=Qab;omega)
 rcases h with⟨I,J⟩|⟨k,x,I,J,O,_⟩
 ·exact .inl ⟨I,fun hq=>absurd (J q hq) (by simp)⟩
 ·exact .inr ⟨k,J,by rw[I,of_decide_eq_true O]⟩
section
variable {g:List Nd}{l d:List Int}{dm:List (Int×Int)}(W:Whole g l d dm)
include W
theorem KI.len96 {p:Pl}{st:Kn}(K:KI g d p st):st.1.length≤96:=by
 have H:=Pth.nodup_le K.nd (L:=(spots g d).map (·.1)) fun q hq=>by
  obtain⟨b,I⟩:=K.ks q hq
  exact Qt.2 ⟨_,I,rfl⟩
 rw[Qw]at H
 have:=Qcp W
 omega
theorem put_eq {p:Pl}{a:Int}(hp:(p,a)∈spots g d){st:Kn}(K:KI g d p st){e:Ed}(he:e∈edges g d){u v:Sm}(hu:Pth.Good (EN g d) (i0N g d) ctr (GN g d) (zt st p) p e.1 u)(hv:thnN g d (eNt e) u=some v):
  ∃b st',F.bg st e.2.1 v=some (b,st')∧((b=false∧st'=st∧∃w∈zt st p p e.2.1,Pth.le (ctr w) (ctr v))∨(b=true∧KI g d p st'∧Pth.Cv ctr (zt st p) (zt st' p)∧muN g d (prs g d) (zt st' p)<muN g d (prs g d) (zt st p))):=by
 have F':=Qak W he
 obtain⟨⟨x,hx⟩,⟨y,hy⟩⟩:=F'.ends
 have h96:=K.len96 W
 have hlen:=K.len
 have hE:eNt e∈EN g d:=Qt.2 ⟨e,he,rfl⟩
 have hG:=((syN W).some hE hu.1 hv).1
 have hm: ∀m∈[v],∃s,Pth.Good (EN g d) (i0N g d) ctr (GN g d) (zt st p) p (eNt e).src s∧thnN g d (eNt e) s=some m:=fun m h=>by
  rw[Qi]at h;subst h;exact⟨u,hu,hv⟩
 unfold F.bg
 rcases at_eq st e.2.1 (by omega)with⟨h1,O⟩|⟨i,h1,O⟩
 ·rw[show F.aG st e.2.1=_ from h1,Qa,if_pos (by decide),A.gd1 (by rw[Wd];omega),A.gd1 (by rw[Wd];omega)]
  have h0:zt st p p e.2.1=[]:=Qcj K.len O
  have H:Pth.IsLst ctr ltS (zt st p p (eNt e).tgt++[v]) [v]:=by rw[show zt st p p (eNt e).tgt=[]from h0];exact isLst1 v
  have A':=K.inv.add (netN W) (syN W) (p:=p) hE hm H
  have Y:=zt_app K.len K.nd (p:=p) O [v]
  refine⟨_,_,rfl,.inr ⟨rfl,⟨?_,?_,?_,?_,?_⟩,?_,?_⟩⟩
  ·show Pth.Inv _ _ _ _ _ (zt (st.1++[e.2.1],st.2++[[v]]) p)
   rw[Y];exact A'.1
  ·show(st.1++[e.2.1]).length=(st.2++[[v]]).length
   rw[Ql,Ql,hlen];rfl
  ·show(st.1++[e.2.1]).Nodup
   rw[Wv]
   exact⟨K.nd,by simp,fun a ha b hb=>by rw[Qi]at hb;rw[hb];exact fun e1=>O (by rw[←e1];exact ha)⟩
  ·intro r H
   rcases Qn.1 H with H|H
   ·exact K.ne r H
   ·rw[Qi]at H;rw[H];exact fun h=>by cases h
  ·intro q hq
   rcases Qn.1 hq with hq|hq
   ·exact K.ks q hq
   ·rw[Qi]at hq;rw[hq];exact⟨y,hy⟩
  ·show Pth.Cv ctr _ (zt (st.1++[e.2.1],st.2++[[v]]) p)
   rw[Y];exact A'.2.1
  ·show muN g d (prs g d) (zt (st.1++[e.2.1],st.2++[[v]]) p)<_
   rw[Y]
   exact K.inv.add_lt (netN W) (syN W) hE hm H (Qiy hp hy) (by rw[show zt st p p (eNt e).tgt=[]from h0];exact fun h=>by cases h)
 ·have hi:=(Qc.1 O).1
  obtain⟨I,hr0⟩: ∃I,st.2[i]?=some I:=⟨_,Qd (by omega)⟩
  have hrow:zt st p p e.2.1=I:=Qfc K.len K.nd O hr0
  have hl2:=row_len W K.inv (p:=p) hy
  rw[hrow]at hl2
  unfold Qhv at hl2
  obtain⟨r,h3,h4⟩:=Least_R (x:=dpN g d p) (y:=dpN g d e.2.1) (I++[v]) (by rw[Ql,Wd];omega) fun s J=>by
   rcases Qn.1 J with J|J
   ·rw[←hrow]at J;exact(K.inv.good p e.2.1 s J).1
   ·rw[Qi]at J;rw[J];exact hG
  have H:Pth.IsLst ctr ltS (zt st p p (eNt e).tgt++[v]) r:=by rw[show zt st p p (eNt e).tgt=I from hrow];exact h4
  have A':=K.inv.add (netN W) (syN W) (p:=p) hE hm H
  have hrl:r.length≤1000000000:=by
   have:=Pth.nodup_le (L:=I++[v]) (h4.1.imp (S:=fun a b=>a≠b) fun {a b} h e=>linS.irr b (by rw[e]at h;exact h)) fun s J=>((h4.2 s).1 J).1
   rw[Ql,Wd]at this;omega
  rw[show F.aG st e.2.1=_ from h1,Qa,if_neg (by omega),A.ixn hr0,Qa,A.gd1 (by rw[Qx];omega),A.gd1 (by rw[W6,Wd];omega)]
  unfold F.dp F.cG
  rw[W6,show F.eq (I++[v])=_ from h3,Qa,if_neg (fun h=>h rfl),A.ixn hr0,Qa,SameS _ _ hrl,Qa,Qa]
  by_cases N:r=I
  ·rw[if_pos (decide_eq_true N)]
   refine⟨_,_,rfl,.inl ⟨rfl,rfl,?_⟩⟩
   have:=A'.2.2.1 v (Xd _)
   rw[N,←hrow]at this;exact this
  ·rw[if_neg (by rw[decide_eq_true_iff];exact N),Qr]
   have Y:=zt_set K.len K.nd (p:=p) O r
   have hne:r≠zt st p p (eNt e).tgt:=by rw[show zt st p p (eNt e).tgt=I from hrow];exact N
   refine⟨_,_,rfl,.inr ⟨rfl,⟨?_,?_,K.nd,?_,K.ks⟩,?_,?_⟩⟩
   ·show Pth.Inv _ _ _ _ _ (zt (st.1,st.2.set i r) p)
    rw[Y];exact A'.1
   ·show st.1.length=(st.2.set i r).length
    rw[Wr];exact hlen
   ·intro z hz2
    rcases List.mem_or_eq_of_mem_set hz2 with h|h
    ·exact K.ne z h
    ·intro h5
     obtain⟨w,hw,_⟩:=A'.2.2.1 v (Xd _)
     have h:z=r:=h
     rw[←h,h5]at hw;cases hw
   ·show Pth.Cv ctr _ (zt (st.1,st.2.set i r) p)
    rw[Y];exact A'.2.1
   ·show muN g d (prs g d) (zt (st.1,st.2.set i r) p)<_
    rw[Y];exact K.inv.add_lt (netN W) (syN W) hE hm H (Qiy hp hy) hne
theorem along_l4 {p:Pl}{a:Int}(hp:(p,a)∈spots g d){e:Ed}(he:e∈edges g d){st0:Kn}(K0:KI g d p st0)(r:List Sm)(hr: ∀u∈r,u∈zt st0 p p e.1)(hrl:r.length≤1000000000):
  ∀(n k f:Nat) (st:Kn) (b:Bool),k+n=r.length→n<f→KI g d p st→Pth.Cv ctr (zt st0 p) (zt st p)→(b=true→muN g d (prs g d) (zt st p)<muN g d (prs g d) (zt st0 p))→(b=false→st=st0)→
  ∃b' st',F.ag e r f st.1 st.2 b (k:Int)=some (b',st')∧KI g d p st'∧Pth.Cv ctr (zt st0 p) (zt st' p)∧(b'=true→muN g d (prs g d) (zt st' p)<muN g d (prs g d) (zt st0 p))∧
   (b'=false→b=false∧st'=st0∧∀u∈r.drop k,∀v,thnN g d (eNt e) u=some v→∃w∈zt st0 p p e.2.1,Pth.le (ctr w) (ctr v)):=by
 have okz: ∀{st:Kn},KI g d p st→∀p' q,∀s∈zt st p p' q,Pth.ok (ctr s):=fun K p' q s hs=>(syN W).ok (K.inv.good p' q s hs).1
 intro n
 induction n with
 |zero=>
  intro k f st b hk hf K I h1 Y
  obtain⟨f,rfl⟩: ∃f',f=f'+1:=⟨f-1,by omega⟩
  refine⟨b,st,?_,K,I,h1,fun hb=>⟨hb,Y hb,fun u J=>?_⟩⟩
  ·rw[F.ag,W6,if_neg (by omega)]
  ·rw[Q0 (by omega)]at J;cases J
 |succ n ih=>
  intro k f st b hk hf K I h1 Y
  obtain⟨f,rfl⟩: ∃f',f=f'+1:=⟨f-1,by omega⟩
  obtain⟨u,J⟩: ∃u,r[k]?=some u:=⟨_,Qd (by omega)⟩
  have huz:=hr u (Qf J)
  have gu0:=K0.inv.good p e.1 u huz
  have gu:=gu0.cv (netN W) (syN W) (okz K) I
  have j1: ∀(st':Kn) (b2:Bool),F.bK (F.ag e r f) (k:Int) st'.1 st'.2 b2=F.ag e r f st'.1 st'.2 b2 ((k:Int)+1):=fun st' b2=>by
   unfold F.bK
   rw[A.gd1 (A.r64n (by omega))]
  have same:(∀v,thnN g d (eNt e) u=some v→b=false→∃w∈zt st0 p p e.2.1,Pth.le (ctr w) (ctr v))→∃b' st',F.ag e r f st.1 st.2 b ((k:Int)+1)=some (b',st')∧KI g d p st'∧Pth.Cv ctr (zt st0 p) (zt st' p)∧(b'=true→muN g d (prs g d) (zt st' p)<muN g d (prs g d) (zt st0 p))∧
    (b'=false→b=false∧st'=st0∧∀u∈r.drop k,∀v,thnN g d (eNt e) u=some v→∃w∈zt st0 p p e.2.1,Pth.le (ctr w) (ctr v)):=fun hcov=>by
   obtain⟨b',st',N,O,h5,h6,h7⟩:=ih (k+1) f st b (by omega) (by omega) K I h1 Y
   refine⟨b',st',N,O,h5,h6,fun hb'=>?_⟩
   obtain⟨h8,h9,H⟩:=h7 hb'
   refine⟨h8,h9,fun z hz v hv=>?_⟩
   rw[A.dropx J]at hz
   rcases Qk.1 hz with rfl|hz
   ·exact hcov v hv h8
   ·exact H z hz v hv
  rw[F.ag,W6,if_pos (by omega),A.ixn J,Qa]
  unfold F.cS F.ci
  rcases Qhr W he gu0.1 with⟨v,N,_,O⟩|⟨N,z,_,O⟩
  ·rw[show F.b9 (_,_,_,_,(_,_,_,_)) (_,_,_,_,(_,_,_,_))=_ from O,Qa,if_pos rfl]
   obtain⟨b2,st2,h5,h6⟩:=put_eq W hp K he gu N
   rw[show F.bg st e.2.1 (_,_,_,_,(_,_,_,_))=_ from h5,Qa]
   rcases h6 with⟨rfl,rfl,hcov⟩|⟨rfl,K2,hc2,hmu⟩
   ·rw[if_neg (show ¬(false:Bool)=true by decide),j1]
    exact same fun v' hv' hb=>by
     rw[N]at hv'
     obtain rfl:=Qp hv'
     rw[←Y hb];exact hcov
   ·rw[if_pos rfl,j1]
    have hle:=Pth.mu_le (netN W) (syN W) (dep:=dpN g d) K0.inv K.inv I (prs g d)
    obtain⟨b',st',h7,h8,h9,H,h11⟩:=ih (k+1) f st2 true (by omega) (by omega) K2 (I.trans (netN W) (syN W) (okz K0) (okz K2) hc2) (fun _=>Q3 hmu hle) (fun h=>(by cases h))
    exact⟨b',st',h7,h8,h9,H,fun hb'=>by have:=(h11 hb').1;cases this⟩
  ·rw[show F.b9 (_,_,_,_,(_,_,_,_)) (_,_,_,_,(_,_,_,_))=_ from O,Qa,if_neg (show ¬(12:Int)=0 by decide),if_neg (show ¬(false:Bool)=true by decide),j1]
   exact same fun v' hv'=>by rw[N]at hv';cases hv'
theorem along_eq {p:Pl}{a:Int}(hp:(p,a)∈spots g d){e:Ed}(O:e∈edges g d){st:Kn}(K:KI g d p st):
  ∃b st',F.cp st e=some (b,st')∧KI g d p st'∧Pth.Cv ctr (zt st p) (zt st' p)∧(b=true→muN g d (prs g d) (zt st' p)<muN g d (prs g d) (zt st p))∧(b=false→st'=st∧Cl g d (zt st p) p e):=by
 have h96:=K.len96 W
 have hlen:=K.len
 obtain⟨⟨x,hx⟩,_⟩:=(Qak W O).ends
 unfold F.cp
 rcases at_eq st e.1 (by omega)with⟨N,J⟩|⟨i,N,J⟩
 ·rw[show F.aG st e.1=_ from N,Qa,if_pos (by decide)]
  exact⟨_,_,rfl,K,Pth.Cv.refl _,fun h=>(by cases h),fun _=>⟨rfl,fun u H=>by rw[Qcj K.len J]at H;cases H⟩⟩
 ·have hi:=(Qc.1 J).1
  obtain⟨r,Y⟩: ∃r,st.2[i]?=some r:=⟨_,Qd (by omega)⟩
  have hrow:zt st p p e.1=r:=Qfc K.len K.nd J Y
  have I:=row_len W K.inv (p:=p) hx
  rw[hrow]at I
  unfold Qhv at I
  obtain⟨b',st',h3,h4,h5,h6,h7⟩:=along_l4 W hp O K r (fun u H=>by rw[hrow];exact H) (by omega) r.length 0 A.FU st false (by omega) (by have:=Qab;omega) K (Pth.Cv.refl _) (fun h=>(by cases h)) (fun _=>rfl)
  rw[show F.aG st e.1=_ from N,Qa,if_neg (by omega),A.ixn Y,Qa,A.gd1 (by rw[Qx];omega)]
  refine⟨b',st',h3,h4,h5,h6,fun hb=>?_⟩
  obtain⟨_,h8,h9⟩:=h7 hb
  exact⟨h8,fun u H v hv=>h9 u (by rw[Q7,←hrow];exact H) v hv⟩
theorem from_l2 (k3:List Pl→List (List Sm)→Bool→Option (Option Kn)){p:Pl}{a:Int}(hp:(p,a)∈spots g d)(hE:(edges g d).length≤1000000){st0:Kn}(K0:KI g d p st0):
  ∀(n k f:Nat) (st:Kn) (b:Bool),k+n=(edges g d).length→n<f→KI g d p st→Pth.Cv ctr (zt st0 p) (zt st p)→(b=true→muN g d (prs g d) (zt st p)<muN g d (prs g d) (zt st0 p))→(b=false→st=st0)→
  ∃b' st',F.br k3 (edges g d) f st.1 st.2 b (k:Int)=k3 st'.1 st'.2 b'∧KI g d p st'∧Pth.Cv ctr (zt st0 p) (zt st' p)∧(b'=true→muN g d (prs g d) (zt st' p)<muN g d (prs g d) (zt st0 p))∧
   (b'=false→b=false∧st'=st0∧∀e∈(edges g d).drop k,Cl g d (zt st0 p) p e):=by
 have okz: ∀{st:Kn},KI g d p st→∀p' q,∀s∈zt st p p' q,Pth.ok (ctr s):=fun K p' q s hs=>(syN W).ok (K.inv.good p' q s hs).1
 intro n
 induction n with
 |zero=>
  intro k f st b hk hf K Y h1 h2
  obtain⟨f,rfl⟩: ∃f',f=f'+1:=⟨f-1,by omega⟩
  refine⟨b,st,?_,K,Y,h1,fun hb=>⟨hb,h2 hb,fun u hu=>?_⟩⟩
  ·rw[F.br,if_neg (by omega)]
  ·rw[Q0 (by omega)]at hu;cases hu
 |succ n ih=>
  intro k f st b hk hf K Y h1 h2
  obtain⟨f,rfl⟩: ∃f',f=f'+1:=⟨f-1,by omega⟩
  obtain⟨e,he⟩: ∃e,(edges g d)[k]?=some e:=⟨_,Qd (by omega)⟩
  obtain⟨b2,st2,h3,K2,J,h4,h5⟩:=along_eq W hp (Qf he) K
  have N:=Y.trans (netN W) (syN W) (okz K0) (okz K2) J
  have hle:=Pth.mu_le (netN W) (syN W) (dep:=dpN g d) K0.inv K.inv Y (prs g d)
  have hle2:=Pth.mu_le (netN W) (syN W) (dep:=dpN g d) K.inv K2.inv J (prs g d)
  rw[F.br,if_pos (by omega),A.ixn he,Qa,show F.cp st (e.1,e.2.1,(_,_,_,_,(_,_,_,_)))=_ from h3,Qa]
  unfold F.ed
  rw[A.gd1 (A.r64n (by omega)),A.gd1 (A.r64n (by omega))]
  cases b2 with
  |true=>
   rw[if_pos rfl]
   obtain⟨b',st',h7,h8,h9,H,I⟩:=ih (k+1) f st2 true (by omega) (by omega) K2 N (fun _=>Q3 (h4 rfl) hle) (fun h=>(by cases h))
   exact⟨b',st',h7,h8,h9,H,fun hb'=>by have:=(I hb').1;cases this⟩
  |false=>
   obtain⟨rfl,hcl⟩:=h5 rfl
   rw[if_neg (show ¬(false:Bool)=true by decide)]
   obtain⟨b',st',h7,h8,h9,H,I⟩:=ih (k+1) f st2 b (by omega) (by omega) K2 N h1 h2
   refine⟨b',st',h7,h8,h9,H,fun hb'=>?_⟩
   obtain⟨O,h13,h14⟩:=I hb'
   refine⟨O,h13,fun z hz=>?_⟩
   rw[A.dropx he]at hz
   rcases Qk.1 hz with rfl|hz
   ·rw[←h2 O];exact hcl
   ·exact h14 z hz
theorem from_l3 {p:Pl}{a:Int}(hp:(p,a)∈spots g d)(hE:(edges g d).length≤1000000): ∀(n f:Nat) (st:Kn),KI g d p st→muN g d (prs g d) (zt st p)≤n→n+1<f→
  ∃st',F.aN (edges g d) f st.1 st.2 true=some (some st')∧KI g d p st'∧Pth.Cv ctr (zt st p) (zt st' p)∧∀e∈edges g d,Cl g d (zt st' p) p e:=by
 have okz: ∀{st:Kn},KI g d p st→∀p' q,∀s∈zt st p p' q,Pth.ok (ctr s):=fun K p' q s hs=>(syN W).ok (K.inv.good p' q s hs).1
 intro n
 induction n with
 |zero=>
  intro f st K J hf
  obtain⟨f,rfl⟩: ∃f',f=f'+2:=⟨f-2,by omega⟩
  obtain⟨b',st',N,K',I,O,Y⟩:=from_l2 W (F.aN (edges g d) (f+1)) hp hE K (edges g d).length 0 A.FU st false (by omega) (by have:=Qab;omega) K (Pth.Cv.refl _) (fun h=>(by cases h)) (fun _=>rfl)
  rw[F.aN,if_pos rfl,show F.br (F.aN (edges g d) (f+1)) (edges g d) A.FU st.1 st.2 false 0=_ from N]
  cases b' with
  |true=>have:=O rfl;omega
  |false=>
   obtain⟨_,rfl,H⟩:=Y rfl
   rw[Q7]at H
   exact⟨st',by rw[F.aN,if_neg (by decide)],K',I,H⟩
 |succ n ih=>
  intro f st K J hf
  obtain⟨f,rfl⟩: ∃f',f=f'+2:=⟨f-2,by omega⟩
  obtain⟨b',st',N,K',I,O,Y⟩:=from_l2 W (F.aN (edges g d) (f+1)) hp hE K (edges g d).length 0 A.FU st false (by omega) (by have:=Qab;omega) K (Pth.Cv.refl _) (fun h=>(by cases h)) (fun _=>rfl)
  rw[F.aN,if_pos rfl,show F.br (F.aN (edges g d) (f+1)) (edges g d) A.FU st.1 st.2 false 0=_ from N]
  cases b' with
  |true=>
   have:=O rfl
   obtain⟨st2,h5,K2,hc2,h6⟩:=ih (f+1) st' K' (by omega) (by omega)
   exact⟨st2,h5,K2,I.trans (netN W) (syN W) (okz K) (okz K2) hc2,h6⟩
  |false=>
   obtain⟨_,rfl,H⟩:=Y rfl
   rw[Q7]at H
   exact⟨st',by rw[F.aN,if_neg (by decide)],K',I,H⟩
theorem from_eq {T:Pl→Pl→List Sm}(J:TT g d T)(hE:(edges g d).length≤1000000){s:Sp}(H:s∈spots g d): ∃st,F.eJ s (edges g d)=some (some st)∧KI g d s.1 st∧∀q,zt st s.1 s.1 q=T s.1 q:=by
 obtain⟨_,i2,_,i4,i5⟩:=o_b9 W (p:=s.1) (x:=s.2) H
 have e0:F.bg ([],[]) s.1 (idP s.2).1=some (true,([s.1],[[(idP s.2).1]])):=by
  unfold F.bg
  rw[show F.aG ([],[]) s.1=some (-1)from by
   unfold F.aG
   obtain⟨n,N⟩: ∃n,A.FU=n+1:=⟨A.FU-1,by decide⟩
   rw[N,F.bm,if_neg (by decide)],Qa,if_pos (by decide),A.gd1 (by simp),A.gd1 (by simp)]
  rfl
 have z0:zt (([],[]):Kn) s.1=fun _ _=>[]:=by
  funext p q
  exact Qcj (st:=([],[])) rfl (by simp)
 have I0:Pth.Inv (EN g d) (i0N g d) ctr ltS (GN g d) (zt (([],[]):Kn) s.1):=by
  rw[z0]
  exact⟨fun p q s H=>(by cases H),fun p q=>List.Pairwise.nil,fun p q s H=>(by cases H)⟩
 have z1:zt (([s.1],[[(idP s.2).1]]):Kn) s.1=Pth.put (zt (([],[]):Kn) s.1) s.1 s.1 [(idP s.2).1]:=zt_app (st:=([],[])) rfl Xu (by simp) _
 have K1:KI g d s.1 ([s.1],[[(idP s.2).1]]):=by
  refine⟨?_,rfl,by simp,fun r hr=>?_,fun q hq=>?_⟩
  ·rw[z1];exact I0.first (netN W) (syN W) (fun q=>by rw[z0]) i4 i5
  ·rw[Qi]at hr;rw[hr];exact fun h=>by cases h
  ·rw[Qi]at hq;rw[hq];exact⟨s.2,H⟩
 obtain⟨st,h1,K,hc,O⟩:=from_l3 W (p:=s.1) (a:=s.2) H hE _ A.FU _ K1 (Q1 _) (Nat.lt_of_le_of_lt (Nat.succ_le_succ (mu_fu W _)) (by decide))
 have hini: ∃u∈zt st s.1 s.1 s.1,Pth.le (ctr u) (i0N g d s.1):=by
  obtain⟨u,I,h2⟩:=hc s.1 s.1 (idP s.2).1 (by rw[z1,Pth.put_self];exact Xd _)
  exact⟨u,I,by rw[←i5];exact h2⟩
 have only: ∀p q,zt st s.1 p q≠[]→p=s.1:=fun p q h=>Wc fun N=>h (by unfold zt;rw[if_neg N])
 have hTab:=K.inv.tab (netN W) (syN W) (fun p h=>by
   obtain⟨q,hq⟩:=h
   rw[only p q hq];exact hini) (fun p e he u I v hv=>by
   obtain⟨e,Y,rfl⟩:=Qt.1 he
   have hp:=only p _ (List.ne_nil_of_mem I)
   subst hp
   exact O e Y u I v hv)
 refine⟨st,?_,K,fun q=>?_⟩
 ·unfold F.eJ
  rw[i2,Qa,show F.bg ([],[]) s.1 (_,_,_,_,(_,_,_,_))=_ from e0,Qa]
  exact h1
 ·refine Pth.tab_uniq (netN W) (syN W) K.inv J.inv hTab J.tab ?_ (J.ini s H) q
  obtain⟨u,I,_⟩:=hini
  exact List.ne_nil_of_mem I
theorem table_R {T:Pl→Pl→List Sm}(hT:TT g d T)(hE:(edges g d).length≤1000000)(h1:F.cU g=some (spots g d,0))(h2:F.dk g=some (edges g d,0)):F.dl g=some (tabL g d T,0):=by
 have h96:=Qcp W
 have l3: ∀(K:List Pth→Int→Option (List Pth×Int)) (y:Nat) (s:Sp) (st:Kn) (xs:List Pth),(spots g d)[y]?=some s→y<(spots g d).length→KI g d s.1 st→(∀q,zt st s.1 s.1 q=T s.1 q)→xs.length≤1000000→
   F.aY K (spots g d,0) (y:Int) st A.FU xs 0=K (xs++(spots g d).filterMap fun t=>if T s.1 t.1=[]then none else some (s.1,t.1,T s.1 t.1)) ((y:Int)+1):=fun K y s st xs I hy Ks N H=>by
  have hk96:=Ks.len96 W
  have hlen:=Ks.len
  have:=A.lp (spots g d) (fun f (xs:List Pth) z=>F.aY K (spots g d,0) (y:Int) st f xs z) (fun k r xs=>K (xs++r.filterMap fun t=>if T s.1 t.1=[]then none else some (s.1,t.1,T s.1 t.1)) ((y:Int)+1)) (fun k xs=>xs.length≤1000000+k)
   (fun f xs H=>by rw[F.aY,if_neg (show ¬((spots g d).length:Int)<((spots g d).length:Int) by omega),A.gd1 (A.r64n (by omega)),List.filterMap_nil,Wg])
   (fun f xs k t ht hk H O=>by
    have e1:A.ix ((spots g d,0):List Sp×Int).1 (y:Int)=some s:=A.ixn I
    have e2:A.ix ((spots g d,0):List Sp×Int).1 (k:Int)=some t:=A.ixn ht
    have j2: ∀xs:List Pth,F.di (F.aY K (spots g d,0) (y:Int) st f) (k:Int) xs=F.aY K (spots g d,0) (y:Int) st f xs ((k:Int)+1):=fun xs=>by
     unfold F.di
     rw[A.gd1 (A.r64n (by omega))]
    rw[F.aY,if_pos (show(k:Int)<((spots g d).length:Int) by omega),e2,Qa,Jg]
    rcases at_eq st t.1 (by omega)with⟨J,Y⟩|⟨i,J,Y⟩
    ·have h0:T s.1 t.1=[]:=by rw[←N];exact Qcj Ks.len Y
     rw[show F.aG st t.1=_ from J,Qa,if_neg (by decide),j2,if_pos h0,O _ (by omega)]
    ·have hi:=(Qc.1 Y).1
     obtain⟨r,hr⟩: ∃r,st.2[i]?=some r:=⟨_,Qd (by omega)⟩
     have hrow:T s.1 t.1=r:=by rw[←N];exact Qfc Ks.len Ks.nd Y hr
     have hrne:=Ks.ne r (Qf hr)
     rw[show F.aG st t.1=_ from J,Qa,if_pos (by omega),e1,Qa,Qa,A.ixn hr,Qa,A.gd1 (by rw[Wd];omega),j2,hrow,if_neg hrne,O _ (by rw[Ql,Wd];omega),Wb]
     rfl)
   (by have:=Qab;omega) xs (by omega)
  exact this
 have l4:=A.lp (spots g d) (fun f (xs:List Pth) z=>F.a4 (spots g d,0) (edges g d,0) f xs z) (fun k r xs=>some (xs++r.flatMap fun s=>(spots g d).filterMap fun t=>if T s.1 t.1=[]then none else some (s.1,t.1,T s.1 t.1),(0:Int))) (fun k xs=>xs.length≤96*k)
  (fun f xs H=>by rw[F.a4,if_neg (show ¬((spots g d).length:Int)<((spots g d).length:Int) by omega),List.flatMap_nil,Wg])
  (fun f xs k s I hk H O=>by
   obtain⟨st,J,Ks,N⟩:=from_eq W hT hE (Qf I)
   have hfl:=Jj (fun t:Sp=>if T s.1 t.1=[]then none else some ((s.1,t.1,T s.1 t.1):Pth)) (spots g d)
   rw[F.a4,if_pos (show(k:Int)<((spots g d).length:Int) by omega),show A.ix ((spots g d,0):List Sp×Int).1 (k:Int)=some s from A.ixn I,Qa,show F.eJ s ((edges g d,0):List Ed×Int).1=_ from J,Qa]
   show F.aY (F.a4 (spots g d,0) (edges g d,0) f) (spots g d,0) (k:Int) st A.FU xs 0=_
   rw[l3 _ k s st xs I hk Ks N (by omega),O _ (by rw[Ql];omega),Jp,Wb])
  (by have:=Qab;omega) [] (by simp)
 unfold F.dl
 rw[h1,Qa,if_neg (fun h=>h rfl),h2,Qa,l4]
 rfl
end
def fewF (s:Int):List Nd→Int
 | []=>s
 |x::r=>fewF (min (s+min (x.2.2.1.length:Int) 1048576+min (x.2.2.2.2.1.size:Int) 1048576+min (x.2.2.2.1.2.2.size:Int) 1048576) 1048576) r
theorem Qhf: ∀(l:List Nd) (s:Int),0≤s→s≤1048576→s≤fewF s l
 | [],s,_,_=>Xl s
 |x::r,s,h,H=>by
  unfold fewF
  have:=Qhf r (min (s+min (x.2.2.1.length:Int) 1048576+min (x.2.2.2.2.1.size:Int) 1048576+min (x.2.2.2.1.2.2.size:Int) 1048576) 1048576) (by omega) (by omega)
  omega
theorem fewF_le: ∀(l:List Nd) (s:Int),0≤s→s≤1048576→fewF s l≤5000→∀x∈l,x.2.2.1.length≤5000∧x.2.2.2.2.1.size≤5000∧x.2.2.2.1.2.2.size≤5000
 | [],_,_,_,_,x,H=>by cases H
 |y::r,s,h,J,I,x,H=>by
  unfold fewF at I
  have N:=Qhf r (min (s+min (y.2.2.1.length:Int) 1048576+min (y.2.2.2.2.1.size:Int) 1048576+min (y.2.2.2.1.2.2.size:Int) 1048576) 1048576) (by omega) (by omega)
  rcases Qk.1 H with rfl|H
  ·omega
  ·exact fewF_le r _ (by omega) (by omega) I x H
theorem few10_eq (g:List Nd): ∃b,F.fb g=some b∧(b=true→Few g∧g.length≤18):=by
 unfold F.fb
 rw[A.gd1 (by omega)]
 have hlen:(List.take (min (g.length:Int) 99).toNat g).length≤99:=by rw[Qv];omega
 have:=A.lp (List.take (min (g.length:Int) 99).toNat g) (fun f s y=>F.dm g f s y) (fun _ l s=>some (bif decide ((g.length:Int)≤18)then decide (fewF s l≤2000)else false)) (fun _ s=>0≤s∧s≤1048576)
  (fun f s _=>by rw[F.dm,if_neg (by omega)];rfl)
  (fun f s k x J hk hp N=>by
   rw[F.dm,if_pos (by omega),A.ixn J,Qa,A.gd1 ⟨⟨by omega,by omega⟩,⟨by omega,by omega⟩,⟨by omega,by omega⟩⟩,A.gd1 (A.r64n (by omega)),N _ (by omega)]
   rfl)
  (by have:=Qab;omega) 0 (by omega)
 rw[this]
 refine⟨_,rfl,fun H=>?_⟩
 by_cases I:(g.length:Int)≤18
 ·simp only[I,decide_true,cond_true,decide_eq_true_eq]at H
  have e:List.take (min (g.length:Int) 99).toNat g=g:=W8 (by omega)
  rw[e]at H
  exact⟨⟨by omega,fewF_le g 0 (by omega) (by omega) (by omega)⟩,by omega⟩
 ·simp[I]at H
theorem graph_tell (g:List Nd)(H:Few g):(∃e,e≠0∧F.cv g=some ([],e)∧F.cU g=some ([],e)∧F.cw g=some ([],e)∧F.dk g=some ([],e))∨
  ∃l d dm,Whole g l d dm∧F.cv g=some (spots g d,0)∧F.cU g=some (spots g d,0)∧F.cw g=some (edges g d,0)∧F.dk g=some (edges g d,0)∧(edges g d).length≤1000000:=by
 have hlen:=H.1
 unfold F.dk F.cv F.cU F.cw
 rcases whole_same g H with⟨e,Y,I,J⟩|⟨l,d,dm,I,J,W⟩
 ·rw[I,J]
  simp only[Qa,A.om,if_pos Y]
  exact .inl ⟨e,Y,rfl,rfl,rfl,rfl⟩
 ·right
  have N: ∀n∈g,n.2.2.1.length≤2:=fun n hn=>in2 W.own hn
  have he:(edges g d).length≤1000000:=Wj (Qff g d 0 g (by omega) N N) (by omega)
  have O:Od (edges g d):=Qhk g d W.inc 0 g W.inc N
  rw[I,J]
  simp only[Qa,A.om,ne_eq,not_true_eq_false,if_false]
  rw[Qic g d H W.fed W.own W.dlen,Qgu g d _ H W.fed W.own W.rel,Qgq g d _ H W.fed W.own W.inb W.rel]
  simp only[Qa,ne_eq,not_true_eq_false,if_false]
  rw[Qgo g d H W.inc W.own W.inb,sorted_eq O he]
  exact⟨l,d,dm,W,rfl,rfl,rfl,rfl,he⟩
theorem table_tell (g:List Nd)(I: ∀n∈g,A.h6 n.1)(hb:Few g):(∃e,e≠0∧F.a9 g=some ([],e)∧F.dl g=some ([],e))∨
  ∃l d dm T,Whole g l d dm∧TT g d T∧F.cU g=some (spots g d,0)∧F.dk g=some (edges g d,0)∧(edges g d).length≤1000000∧F.a9 g=some (tabL g d T,0)∧F.dl g=some (tabL g d T,0):=by
 rcases graph_tell g hb with⟨e,J,N,H,_,_⟩|⟨l,d,dm,W,N,H,h3,Y,O⟩
 ·refine .inl ⟨e,J,?_,?_⟩
  ·unfold F.a9;rw[N,Qa,if_pos J]
  ·unfold F.dl;rw[H,Qa,if_pos J]
 ·obtain⟨T,hT,h5⟩:=table_P W I O N h3
  exact .inr ⟨l,d,dm,T,W,hT,H,Y,O,h5,table_R W hT O H Y⟩
theorem tabL_tbl {g:List Nd}{l d:List Int}{dm:List (Int×Int)}(W:Whole g l d dm){T:Pl→Pl→List Sm}(H:TT g d T):Tbl (tabL g d T):=by
 refine⟨Wj (tabL_len W) (by decide),fun x I=>?_⟩
 obtain⟨_,⟨b,J⟩,_,N⟩:=tabL_mem.1 I
 have:=row_len W H.inv (p:=x.1) J
 unfold Qhv at this
 rw[N];omega
theorem pathsTables_plain (g:List Nd)(N:(Z.Ty.slice T83).ok g):F.cV g=some true:=by
 have H: ∀n∈g,A.h6 n.1:=fun n O=>by
  obtain⟨h,_⟩:=N.2 n O
  exact h
 obtain⟨b,Y,hb⟩:=few10_eq g
 unfold F.cV
 rw[begunP,Qa,if_neg (by decide),Y,Qa]
 unfold F.cn
 cases b with
 |false=>rw[if_pos (show(!false)=true from rfl),begunP];rfl
 |true=>
  rw[if_neg (by decide)]
  rcases table_tell g H (hb rfl).1 with⟨e,h0,I,J⟩|⟨l,d,dm,T,W,hT,_,_,_,I,J⟩
  ·rw[I,Qa,J,Qa,Same_R [] [] ⟨by simp,fun x hx=>by cases hx⟩,Qa]
   simp
  ·rw[I,Qa,J,Qa,Same_R _ _ (tabL_tbl W hT),Qa]
   simp
end Go.Proofs.YtlbnpmfggfbdoaaGreatDoor
end
section
namespace Go.Z
open Go.RowKit
def OpenT (P:Program)(T:TypeId)(t:Ty):Prop:=
 P.cellsOf T=t.size∧∀(H:Type) (enc:TypeId×Value→H) (w:World) (base:Nat) (spare:Nat→Bool) (held:Bool) (fuel:Nat) (cs:List Value) (x:DataW H×List MemPlace),
  DataW.trod enc P w base spare held fuel T cs=some x→∃y:t.den,t.rep w (nt []) cs y
section
variable {P:Program}{T e:TypeId}
theorem ot_int {k:IntKind}(J:P.cellsOf T=1)(N:P.underlying T=some (.int k)):OpenT P T (.int k):=⟨J,fun H enc w base spare held fuel cs x h=>by
 obtain⟨n,rfl,_,I⟩:=DataW.trod_int N h
 refine⟨n,rfl,?_⟩
 simp only[Lit.wf,Qm,decide_eq_true_eq]at I
 exact I⟩
theorem ot_str (I:P.cellsOf T=1)(J:P.underlying T=some .string):OpenT P T .str:=⟨I,fun H enc w base spare held fuel cs x h=>by
 obtain⟨s,rfl,_,N⟩:=DataW.trod_string J h
 exact⟨s,rfl,N⟩⟩
def OpenPs (P:Program):List (TypeId×Nat)→Nat→Ty→Prop
 | [],_,_=>False
 | [(T,o')],o,t=>o'=o∧OpenT P T t
 |(T,o')::p::ps,o,.pair a b=>o'=o∧OpenT P T a∧OpenPs P (p::ps) (o+a.size) b
 |_::_::_,_,_=>False
theorem open_ps {H:Type}{enc:TypeId×Value→H}{w:World}{base:Nat}{spare:Nat→Bool}{held:Bool}{fuel:Nat}{cs:List Value}:
  ∀(ps:List (TypeId×Nat)) (o:Nat) (t:Ty),OpenPs P ps o t→(∀p∈ps,∃x,DataW.trod enc P w base spare held fuel p.1 ((cs.drop p.2).take (P.cellsOf p.1))=some x)→∃y:t.den,t.rep w (nt []) ((cs.drop o).take t.size) y
 | [],_,_,h,_=>h.elim
 | [(T,o')],o,t,h,I=>by
  obtain⟨rfl,⟨J,N⟩⟩:=h
  obtain⟨x,I⟩:=I (T,o') (Qi.2 rfl)
  rw[←J];exact N _ _ _ _ _ _ _ _ _ I
 |(T,o')::p::ps,o,.pair a b,h,I=>by
  obtain⟨rfl,⟨J,N⟩,hr⟩:=h
  obtain⟨x,h1⟩:=I (T,o') (Qg ..)
  obtain⟨ya,O⟩:=N _ _ _ _ _ _ _ _ _ h1
  obtain⟨yb,Y⟩:=open_ps (p::ps) _ b hr fun q hq=>I q (Qe _ hq)
  refine⟨(ya,yb),_,_,?_,O,Y⟩
  show(cs.drop o').take (a.size+b.size)=_
  rw[J,List.take_add,X7]
 |_::_::_,_,.int _,h,_=>h.elim
 |_::_::_,_,.byte,h,_=>h.elim
 |_::_::_,_,.bool,h,_=>h.elim
 |_::_::_,_,.str,h,_=>h.elim
 |_::_::_,_,.slice _,h,_=>h.elim
theorem ot_struct {fs:List Field}{t:Ty}(O:P.cellsOf T=t.size)(Y:P.underlying T=some (.struct fs.toArray))(h:OpenPs P (fs.map fun f=>(f.type,f.offset)) 0 t):OpenT P T t:=⟨O,fun H enc w base spare held fuel cs x hx=>by
 obtain⟨xs,n,_,_,hl,hs,hf⟩:=DataW.trod_struct Y hx
 have I:cs=(cs.drop 0).take t.size:=by rw[Q7,W8 (by omega)]
 rw[I]
 refine open_ps (fuel:=n) (enc:=enc) (base:=base) (spare:=spare) (held:=held) _ 0 t h fun p hp=>?_
 obtain⟨f,J,rfl⟩:=Qt.1 hp
 obtain⟨i,N,he⟩:=Xh J
 have h1:=hf i f (by rw[Wu,Qd N,he])
 rw[h1,Qd (by rw[hs];simpa using N)]
 exact⟨_,rfl⟩⟩
theorem rows_of {t:Ty}{w:World}{g:Addr}: ∀(n:Nat),(∀i,i<n→∃(cs:List Value) (y:t.den),cs.length=t.size∧(∀j u,cs[j]?=some u→w.cell? (g.add (i*t.size+j))=some u)∧t.rep w (nt []) cs y)→
  ∃(cells:List Value) (ys:List t.den),ys.length=n∧cells.length=n*t.size∧(∀j u,cells[j]?=some u→w.cell? (g.add j)=some u)∧∀(i:Nat) (y:t.den),ys[i]?=some y→t.rep w (nt []) ((cells.drop (i*t.size)).take t.size) y
 |0,_=>⟨[],[],rfl,by simp,by simp,by simp⟩
 |n+1,h=>by
  obtain⟨cells,ys,O,J,Y,h4⟩:=rows_of n fun i H=>h i (by omega)
  obtain⟨cs,y,c1,c2,c3⟩:=h n (by omega)
  refine⟨cells++cs,ys++[y],by simp[O],by rw[Ql,J,c1,Nat.succ_mul],fun j u I=>?_,?_⟩
  ·by_cases N:j<cells.length
   ·rw[Q8 N]at I;exact Y j u I
   ·rw[Wf (by omega)]at I
    have:=c2 _ u I
    rwa[J,show n*t.size+(j-n*t.size)=j by omega]at this
  ·refine Qen (xs:=ys) (ys:=[y]) (by rw[J,O]) h4 fun i y' H=>?_
   have:i=0:=by have:=(Qc.1 H).1;simp at this;omega
   subst this
   simp at H;subst H
   rw[Nat.zero_mul,Q7,W8 (by omega)];exact c3
theorem ot_slice {t:Ty}(hc:P.cellsOf T=1)(ht:P.underlying T=some (.slice e))(h:OpenT P e t):OpenT P T (.slice t):=⟨hc,fun H enc w base spare held fuel cs x hx=>by
 rcases DataW.trod_slice ht hx with⟨rfl,_⟩|⟨ad,len,cap,elems,rest,n,_,rfl,_,hb,hl,hm,hlen,hel,_,_⟩
 ·exact⟨[],Qeg _⟩
 ·have each: ∀i,i<len→∃(cs:List Value) (y:t.den),cs.length=t.size∧(∀j u,cs[j]?=some u→w.cell? (ad.add (i*t.size+j))=some u)∧t.rep w (nt []) cs y:=fun i hi=>by
   have I:=hel i hi
   rw[Qd (by omega),Jm]at I
   obtain⟨cs',N,O⟩:=I
   obtain⟨_,Y,h5⟩:=World.cells?_some N
   obtain⟨y,hy⟩:=h.2 _ _ _ _ _ _ _ _ _ O
   rw[h.1]at Y h5
   refine⟨cs',y,Y,fun j u hj=>?_,hy⟩
   have J:=(Qc.1 hj).1
   have:=h5 j (by omega)
   rw[add_add]at this
   rw[this,hj]
  obtain⟨cells,ys,I,N,O,Y⟩:=rows_of len each
  by_cases hz:len=0
  ·subst hz
   have:ys=[]:=Wp I
   subst this
   exact⟨[],some ad,cap,[],rfl,by simp,hm,by simp,.inl rfl,by simp⟩
  ·have hp:=Qam t
   have J:0<cells.length:=by rw[N];exact Nat.mul_pos (by omega) hp
   have h0:=O 0 _ (Qd J)
   have hspot:=World.cell?_spot h0
   obtain⟨b,off,spot⟩:=ad
   simp only[Addr.add]at hspot
   subst hspot
   refine⟨ys,some ⟨b,off,none⟩,cap,cells,by rw[I],by omega,hm,by rw[I];exact N,.inr ⟨b,off,rfl,by simp[nt],fun j u hj=>?_⟩,Y⟩
   have:=O j u hj
   rwa[Addr.add_lit]at this⟩
end
end Go.Z
end
section
namespace Go.Proofs.YtlbnpmfggfbdoaaGreatDoor.pathsTablesDone
open Go.ChangeShapes Go.WideShapes Go.ChangeAt Go.RowKit
theorem own:ownKnob Tryz.prog.godebug=none:=by kernel_rfl
theorem laidOut:laidOutB Tryz.prog=true:=by kernel_rfl
theorem ot3:Z.OpenT Tryz.prog 3 A.ti:=Z.ot_int (by kernel_rfl) Tryz.underlying3
theorem ot80:Z.OpenT Tryz.prog 80 A.TI:=Z.ot_slice (by kernel_rfl) Tryz.underlying80 ot3
theorem ot2:Z.OpenT Tryz.prog 2 A.ti:=Z.ot_int (by kernel_rfl) Tryz.underlying2
theorem ot9:Z.OpenT Tryz.prog 9 Z.Ty.str:=Z.ot_str (by kernel_rfl) Tryz.underlying9
theorem ot82:Z.OpenT Tryz.prog 82 T81:=Z.ot_struct (by kernel_rfl) Tryz.underlying82 ⟨rfl,ot3,rfl,ot2,rfl,ot9⟩
theorem ot84:Z.OpenT Tryz.prog 84 T83:=Z.ot_struct (by kernel_rfl) Tryz.underlying84 ⟨rfl,ot3,rfl,ot3,rfl,ot80,rfl,ot82,rfl,ot9,rfl,ot2,rfl,ot3⟩
theorem ot22:Z.OpenT Tryz.prog 22 (Z.Ty.slice T83):=Z.ot_slice (by kernel_rfl) Tryz.underlying22 ot84
theorem ot24:Z.OpenT Tryz.prog 24 T23:=Z.ot_struct (by kernel_rfl) Tryz.underlying24 ⟨rfl,ot22⟩
set_option maxRecDepth 100000 in
theorem laid_met (os:Os)(args:Array Value):laidMetH Tryz.prog Rows.pathsTablesRow.laid (({World.holding Tryz.prog os ⟨#[],#[],[]⟩with heap:=((World.holding Tryz.prog os ⟨#[],#[],[]⟩).heap.modify 0 (A.putCells A.tabF)).modify 1 (A.putCells A.tabA)}:World).forCall (fun _ _=>0) ⟨#[],args,[]⟩).memory:=by
 rw[MakeChecks.laidMetH_plain _ _ _ (by kernel_rfl)]
 exact(LaidIn.of_run (l:=Rows.pathsTablesRow.laid) [1,0] 8 (by kernel_rfl) (by kernel_rfl) (by kernel_rfl) (by kernel_rfl)).met
theorem of_laid {W:World}(h:laidMetH Tryz.prog Rows.pathsTablesRow.laid W):Lib.Utf8Tabs 0 1 W:=by
 rw[MakeChecks.laidMetH_plain _ _ _ (by kernel_rfl)]at h
 have H:=Lib.laidMet.reads h (.tail _ (.head _))
 rw[show Rows.laid_unicode_utf8_first=Lib.firstData from Pinned.utf8First_eq]at H
 have I:=Lib.laidMet.reads h (.head _)
 rw[show(Rows.laid_unicode_utf8_acceptRanges:DataW Unit)=Lib.acceptData by kernel_rfl]at I
 exact utf8Tabs_of_readsT (U8Types.of196 Tryz.laysValid) ⟨by kernel_rfl,by kernel_rfl,by kernel_rfl,by kernel_rfl,by kernel_rfl,by kernel_rfl,by kernel_rfl⟩ H I
set_option maxHeartbeats 1000000 in
set_option maxRecDepth 100000 in
theorem lifted (os:Os)(started:os.Started)(H:Type)(enc:TypeId×Value→H):
  ReturnsInHanded {} Tryz.checked os 3 .any (fun w args=>(Rows.pathsTablesSpec.pre enc Tryz.prog Tryz.f3 [] false w args∧laidMetH Tryz.prog Rows.pathsTablesRow.laid w)∧sizedMet enc Tryz.prog Tryz.f3 (OpenSpec.ofChange Rows.pathsTablesSpec) false w args) (Rows.pathsTablesSpec.post enc Tryz.prog Tryz.f3 false true false false):=by
 refine returnsInHanded_of_change_and (C:=Tryz.checked) (X:=fun w _=>laidMetH Tryz.prog Rows.pathsTablesRow.laid w) (fun _ _ _ O h=>h.of_heap O) own started (by kernel_rfl) Tryz.func3
  (ChangeSpec.witness_shaped (enc:=enc) (C:=Tryz.checked) (os:=os) (X:=fun w _=>laidMetH Tryz.prog Rows.pathsTablesRow.laid w) false ({World.holding Tryz.prog os ⟨#[],#[],[]⟩with heap:=((World.holding Tryz.prog os ⟨#[],#[],[]⟩).heap.modify 0 (A.putCells A.tabF)).modify 1 (A.putCells A.tabA)}) #[.agg #[.slice none 0 0]] 16 rfl (World.shaped_of_RefB (by kernel_rfl) (by kernel_rfl)) (by kernel_rfl) (by kernel_rfl) (by kernel_rfl) (laid_met os _)) ?_
 intro W base args ds gs before hval0 hW hcnd hsz0 hL _
 have hval: ∀(j:Nat) t v,Tryz.f3.params[j]?=some t→args[j]?=some v→Value.okWide Tryz.prog W .any base t v:=hval0
 have hW':=hW
 obtain⟨p,q,N,hV,rfl,hfz,hnd⟩:=hW
 have hA:DataW.TrodAll enc Tryz.prog W 0 (fun _=>true) true Tryz.f3.params.toList args.toList ds p:=N
 rw[Tryz.params3]at hA hval
 obtain⟨v0,vs0,d0,ds0,p0,q0,hargs,rfl,rfl,h0,r0⟩:=trodAll_cons hA
 obtain⟨rfl,rfl,rfl⟩:=trodAll_nil r0
 obtain rfl:args=#[v0]:=by cases args;simp_all
 obtain⟨rfl,rfl⟩:=trodVars_none hV
 have k0:=h0
 have lt0: ∀x∈p0,x.block<W.heap.size:=by obtain⟨m,hm⟩:=k0;exact DataW.trod_lt m _ _ _ hm
 obtain⟨fu0,Y⟩:=h0
 obtain⟨J,I⟩:=ot24.2 _ _ _ _ _ _ _ _ _ Y
 obtain⟨cs0,rfl,_⟩:=okWide_struct Tryz.underlying24 (hval 0 24 v0 rfl rfl)
 replace I:T23.rep W (Z.nt []) cs0.toList J:=I
 have hok0:=Z.rep_ok _ I
 obtain⟨a0,c0,hc0⟩: ∃a c,cs0.toList=[.slice a J.length c]:=by obtain⟨a,c,_,h,_⟩:=I;exact⟨a,c,h⟩
 obtain rfl:cs0=#[.slice a0 J.length c0]:=by rw[←W9 (xs:=cs0),hc0]
 clear N hval0
 have htab:=of_laid hL
 have hF:F.cV J=some true:=pathsTables_plain J hok0
 have hct:=o_aR a0 c0 J true hF
 refine(hct W (fun _=>True) (A.Hp.start ⟨A.Hall.sh I,A.Hall.tabs htab⟩)).mono ?_
 rintro e W' ⟨v,H',rfl,⟨rfl,rfl⟩,O⟩
 have bel:=O.ch.below
 exact⟨_,rfl,_,_,_,[],_,[],hW',trodAll_mk1 (shut_bool Tryz.underlying4 _),(trodAll_cons_mk (Below.trod laidOut (by kernel_rfl) (of_decide_eq_true (by kernel_rfl)) k0 bel lt0) trodAll_mk0),rfl,bel.frame _,fun h=>by cases h⟩
theorem over:Rows.pathsTablesRow.holds Tryz.pinned (OpenSpec.ofChange Rows.pathsTablesSpec):=
 OpenClaim.holds_of_wide 3 Tryz.f3 rfl rfl rfl rfl rfl rfl rfl ⟨rfl,rfl,rfl,rfl,rfl⟩ rfl rfl rfl rfl rfl (by kernel_rfl) Tryz.func3 (by kernel_rfl)
  (of_decide_eq_true (by kernel_rfl)) (by unfold Func.isWrapper;first|(rw[if_pos (by decide+kernel)];kernel_rfl)|(rw[if_neg (by decide+kernel)];exact⟨rfl,rfl⟩))
  (fun os started H enc _=>lifted os started H enc)
theorem proved:Rows.PathsTablesCardSaid:=
 Claim7.holds_tied_plain_at .later [] [.data,.pinned] true (true,"0af9d568bb84d7a8a7896f1e0d35c96323cc734ed9264ae90a39a3d574a26123") false
  over (fun _ h=>by cases h) (by kernel_rfl) (fun _ h=>by cases h) pathsTables_row_tie rfl ⟨rfl,rfl⟩ (by kernel_rfl) rfl
  (fun f fn J H=>by
   obtain rfl:f=3:=Qp ((show Tryz.prog.funcNamed Rows.pathsTablesRow.func=some 3 by kernel_rfl).symm.trans J) |>.symm
   obtain rfl:fn=Tryz.f3:=(Qp (Tryz.func3.symm.trans H)).symm
   exact⟨by kernel_rfl,fun j t I=>by
    rw[Tryz.params3]at I
    have N:t∈[24]:=by simpa using Array.mem_of_getElem? I
    have hall:([24].all fun u=> !Tryz.prog.wantsStandIn u)=true:=by kernel_rfl
    exact(show Tryz.prog.wantsStandIn t=false by simpa using Qz.1 hall t N)⟩)
  (by kernel_rfl)
#print axioms proved
end Go.Proofs.YtlbnpmfggfbdoaaGreatDoor.pathsTablesDone
end
