/- The law 'PathsWays' as it is given: whatever the input, the call returns true, and each argument reads behind it as it read before. No condition but that utf8's two tables hold what the library's text lays, which the card ties. -/
import Derived.Test.YtlbnpmfggfbdoaaGreatDoorD6
import Derived.Test.YtlbnpmfggfbdoaaGreatDoorD5
import Derived.Test.YtlbnpmfggfbdoaaGreatDoorD2
import Derived.Test.YtlbnpmfggfbdoaaGreatDoorD0
import Derived.OpenShut
import Derived.ShutString
import Derived.ChangeOld
import Derived.ChangeArms
import Derived.DataReads
import Derived.Test.YtlbnpmfggfbdoaaGreatDoorRows
import Derived.Test.YtlbnpmfggfbdoaaGreatDoorTie
import Derived.Test.YtlbnpmfggfbdoaaGreatDoorCards
import Derived.WalkKit
import Derived.ProofKit
import Derived.Below
import Derived.LaidMore
import Derived.Stop.Joined
import Derived.SevenTiedAt
import Derived.Lib.LaidIn
import Derived.Lib.LaidU8T
import Derived.PinnedBridge
import Derived.SizedLaws
set_option linter.unusedVariables false
set_option linter.unusedSimpArgs false
set_option linter.unusedSectionVars false
set_option synthInstance.maxSize 1000000
set_option synthInstance.maxHeartbeats 400000
section
namespace Go.Pth
theorem filter_le {α:Type}{P Q:α→Bool}: ∀{l:List α},(∀x∈l,P x=true→Q x=true)→(l.filter P).length≤(l.filter Q).length
 | [],_=>Q1 _
 |x::l,h=>by
  have H:=filter_le (l:=l) fun y I=>h y (Qe _ I)
  have J:=h x (Qf ..)
  rw[Xl,Xl]
  by_cases hp:P x=true
  ·rw[if_pos hp,if_pos (J hp),Qh,Qh];omega
  ·rw[if_neg hp];split
   ·rw[Qh];omega
   ·exact H
theorem filter_lt {α:Type}{P Q:α→Bool}: ∀{l:List α},(∀x∈l,P x=true→Q x=true)→(∃x∈l,Q x=true∧P x=false)→(l.filter P).length <(l.filter Q).length
 | [],_,h=>by obtain⟨x,I,_⟩:=h;cases I
 |x::l,h,he=>by
  have O:=fun y H=>h y (Qe x H)
  have ih:=filter_le O
  have I:=h x (Qf ..)
  obtain⟨y,H,h2,h3⟩:=he
  rw[Xl,Xl]
  rcases Qk.1 H with rfl|H
  ·rw[if_neg (by rw[h3];decide),if_pos h2,Qh];omega
  ·have J:=filter_lt O ⟨y,H,h2,h3⟩
   by_cases hp:P x=true
   ·rw[if_pos hp,if_pos (I hp),Qh,Qh];omega
   ·rw[if_neg hp];split
    ·rw[Qh];omega
    ·exact J
theorem nodup_le {α:Type}[DecidableEq α]: ∀{R L:List α},R.Nodup→(∀r∈R,r∈L)→R.length≤L.length
 | [],_,_,_=>Xn _
 |r::R,L,h,H=>by
  rw[Wk]at h
  have I:=H r (Qf ..)
  have:=nodup_le (L:=L.erase r) h.2 fun x J=>(List.mem_erase_of_ne (fun e=>h.1 (by rw[←e];exact J))).2 (H x (Qe _ J))
  rw[Y0 I]at this
  have O:0<L.length:=Y3 I
  rw[Qh];omega
section
variable {S:Type}[DecidableEq S]{ctr:S→D}{lt:S→S→Prop}
structure Lin (lt:S→S→Prop):Prop where
 irr: ∀a,¬lt a a
 tr: ∀a b c,lt a b→lt b c→lt a c
 tri: ∀a b,a≠b→lt a b∨lt b a
def less (ctr:S→D)(lt:S→S→Prop)(a b:S):Prop:=le (ctr a) (ctr b)∧(¬le (ctr b) (ctr a)∨lt a b)
def IsLst (ctr:S→D)(lt:S→S→Prop)(l r:List S):Prop:=r.Pairwise lt∧∀s,s∈r↔s∈l∧∀x∈l,¬less ctr lt x s
theorem pw_ext (L:Lin lt): ∀{a b:List S},a.Pairwise lt→b.Pairwise lt→(∀s,s∈a↔s∈b)→a=b
 | [],[],_,_,_=>rfl
 | [],y::b,_,_,h=>by have:=(h y).2 (Qf ..);cases this
 |x::a,[],_,_,h=>by have:=(h x).1 (Qf ..);cases this
 |x::a,y::b,J,O,h=>by
  rw[Wv]at J O
  have e:x=y:=by
   rcases Qk.1 ((h x).1 (Qf ..))with H|H
   ·exact H
   rcases Qk.1 ((h y).2 (Qf ..))with h2|h2
   ·exact h2.symm
   ·exact absurd (L.tr _ _ _ (O.1 x H) (J.1 y h2)) (L.irr _)
  subst e
  rw[pw_ext L J.2 O.2 fun s=>⟨fun I=>?_,fun I=>?_⟩]
  ·rcases Qk.1 ((h s).1 (Qe _ I))with rfl|H
   ·exact absurd (J.1 _ I) (L.irr _)
   ·exact H
  ·rcases Qk.1 ((h s).2 (Qe _ I))with rfl|H
   ·exact absurd (O.1 _ I) (L.irr _)
   ·exact H
theorem IsLst.uniq (L:Lin lt){l r r':List S}(h:IsLst ctr lt l r)(h':IsLst ctr lt l r'):r=r':=pw_ext L h.1 h'.1 fun s=>(h.2 s).trans (h'.2 s).symm
theorem less_irr (L:Lin lt)(a:S): ¬less ctr lt a a:=fun h=>h.2.elim (fun h=>h (le_refl _)) (L.irr a)
theorem less_tr (L:Lin lt){a b c:S}(O:ok (ctr a))(hb:ok (ctr b))(hc:ok (ctr c))(H:less ctr lt a b)(I:less ctr lt b c):less ctr lt a c:=by
 refine⟨le_trans O hc H.1 I.1,?_⟩
 by_cases h:le (ctr c) (ctr a)
 ·right
  have h3:lt b c:=I.2.resolve_left fun J=>J (le_trans hc hb h H.1)
  have h5:lt a b:=H.2.resolve_left fun J=>J (le_trans hb O I.1 h)
  exact L.tr _ _ _ h5 h3
 ·exact .inl h
open Classical in
theorem IsLst.cov (L:Lin lt){l r:List S}(h:IsLst ctr lt l r)(O: ∀s∈l,ok (ctr s)): ∀s∈l,∃u∈r,le (ctr u) (ctr s):=by
 have main: ∀n s,s∈l→(l.filter fun x=>decide (less ctr lt x s)).length≤n→∃u∈r,le (ctr u) (ctr s):=by
  intro n
  induction n with
  |zero=>
   intro s I hn
   refine⟨s,(h.2 s).2 ⟨I,fun x H J=>?_⟩,le_refl _⟩
   have:=Y3 ((Yn (p:=fun x=>decide (less ctr lt x s))).2 ⟨H,decide_eq_true J⟩)
   omega
  |succ n ih=>
   intro s I hn
   by_cases H: ∃x∈l,less ctr lt x s
   ·obtain⟨x,H,J⟩:=H
    have hlt:(l.filter fun y=>decide (less ctr lt y x)).length <(l.filter fun y=>decide (less ctr lt y s)).length:=
     filter_lt (fun y hy h1=>decide_eq_true (less_tr L (O y hy) (O x H) (O s I) (of_decide_eq_true h1) J)) ⟨x,H,decide_eq_true J,decide_eq_false (less_irr L x)⟩
    obtain⟨u,h1,h2⟩:=ih x H (by omega)
    exact⟨u,h1,le_trans (O u ((h.2 u).1 h1).1) (O s I) h2 J.1⟩
   ·exact⟨s,(h.2 s).2 ⟨I,fun x hx2 J=>H ⟨x,hx2,J⟩⟩,le_refl _⟩
 exact fun s I=>main _ s I (Q1 _)
end
def Uv (B:Nat):Nat→List D
 |0=>[[]]
 |n+1=>(List.range (B+1)).flatMap fun(c:Nat)=>(Uv B n).flatMap fun d=>[(true,(c:Int))::d,(false,(c:Int))::d]
theorem flat_len {α β:Type}{f:α→List β}{k:Nat}: ∀{l:List α},(∀x∈l,(f x).length=k)→(l.flatMap f).length=l.length*k
 | [],_=>by simp
 |x::l,h=>by
  rw[List.flatMap_cons,Qm,h x (Qf ..),flat_len fun y H=>h y (Qe _ H),Qh,Xt,X7,Yr]
theorem Uv_len (B:Nat): ∀n,(Uv B n).length=(2*(B+1))^n
 |0=>rfl
 |n+1=>by
  unfold Uv
  rw[flat_len (k:=(Uv B n).length*2) fun x _=>flat_len fun _ _=>rfl,Xz,Uv_len B n,Nat.pow_succ]
  ac_rfl
theorem Uv_mem {B:Nat}: ∀{d:D},ok d→(∀c∈d,c.2≤B)→d∈Uv B d.length
 | [],_,_=>Yc _
 |x::d,h,I=>by
  have J:=h x (Qf ..)
  have O:=I x (Qf ..)
  unfold okC at J
  rw[Qh,Uv,Xf]
  refine⟨x.2.toNat,Xg.2 (by omega),Xf.2 ⟨d,Uv_mem (fun y H=>h y (Qe _ H)) (fun y H=>I y (Qe _ H)),?_⟩⟩
  have e:((x.2.toNat:Nat):Int)=x.2:=by omega
  rw[e]
  obtain⟨b,n⟩:=x
  cases b
  ·exact Qe _ (Yc _)
  ·exact Qf ..
theorem o_b0 {B:Nat}(J:B≤1048576): ∀{n:Nat} {d:D},d∈Uv B n→ok d
 |0,d,h=>by rw[Uv,Qj]at h;subst h;intro x H;cases H
 |n+1,d,h=>by
  rw[Uv]at h
  obtain⟨c,I,h⟩:=Xf.1 h
  obtain⟨d',O,h⟩:=Xf.1 h
  have I:=Xg.1 I
  have key: ∀b:Bool,ok ((b,(c:Int))::d'):=fun b x H=>by
   rcases Qk.1 H with rfl|H
   ·unfold okC;exact⟨by show(0:Int)≤c;omega,by show(c:Int)≤1048576;omega⟩
   ·exact o_b0 J O x H
  rcases Qk.1 h with rfl|h
  ·exact key true
  ·rw[Qj]at h;subst h;exact key false
section
variable {V S:Type}[DecidableEq V][DecidableEq S]
structure Sy (E:List (Ed (V:=V))) (ctr:S→D) (lt:S→S→Prop) (G:V→V→S→Prop) (thn:Ed (V:=V)→S→Option S):Prop where
 lin:Lin lt
 inj: ∀{p q a b},G p q a→G p q b→ctr a=ctr b→a=b
 ok: ∀{p q a},G p q a→ok (ctr a)
 some: ∀{e p s s'},e∈E→G p e.src s→thn e s=some s'→G p e.tgt s'∧e.op.app (ctr s)=some (ctr s')
 none: ∀{e p s},e∈E→G p e.src s→thn e s=none→e.op.app (ctr s)=none
variable {E:List (Ed (V:=V))}{i0:V→D}{dep:V→Nat}{loops:List V}(N:Net E i0 dep loops)
variable {ctr:S→D}{lt:S→S→Prop}{G:V→V→S→Prop}{thn:Ed (V:=V)→S→Option S}(Y:Sy E ctr lt G thn)
def Good (E:List (Ed (V:=V)))(i0:V→D)(ctr:S→D)(G:V→V→S→Prop)(T:V→V→List S)(p q:V)(s:S):Prop:=
 G p q s∧∃vis,NW E i0 p q (ctr s) vis∧∀x∈vis,∃u∈T p x.1,le (ctr u) x.2
structure Inv (E:List (Ed (V:=V))) (i0:V→D) (ctr:S→D) (lt:S→S→Prop) (G:V→V→S→Prop) (T:V→V→List S):Prop where
 good: ∀p q,∀s∈T p q,Good E i0 ctr G T p q s
 sort: ∀p q,(T p q).Pairwise lt
 min: ∀p q,∀u∈T p q,∀s∈T p q,¬less ctr lt u s
def Cv (ctr:S→D)(T T':V→V→List S):Prop:=∀p q,∀s∈T p q,∃u∈T' p q,le (ctr u) (ctr s)
def put (T:V→V→List S)(p q:V)(r:List S):V→V→List S:=fun p' q'=>if p'=p∧q'=q then r else T p' q'
theorem put_self (T:V→V→List S)(p q:V)(r:List S):put T p q r p q=r:=if_pos ⟨rfl,rfl⟩
theorem Cv.refl (T:V→V→List S):Cv ctr T T:=fun p q s H=>⟨s,H,le_refl _⟩
include N Y
theorem Good.small {T:V→V→List S}{p q:V}{s:S}(h:Good E i0 ctr G T p q s):Pth.small (ctr s):=by
 obtain⟨_,vis,h,_⟩:=h;exact h.small N
theorem Cv.trans {T T' T'':V→V→List S}(J: ∀p q,∀s∈T p q,Pth.ok (ctr s))(hT'': ∀p q,∀s∈T'' p q,Pth.ok (ctr s))(O:Cv ctr T T')(h2:Cv ctr T' T''):Cv ctr T T'':=fun p q s H=>by
 obtain⟨u,hu,h3⟩:=O p q s H
 obtain⟨v,I,h4⟩:=h2 p q u hu
 exact⟨v,I,le_trans (hT'' p q v I) (J p q s H) h4 h3⟩
theorem Good.cv {T T':V→V→List S}(hT': ∀p q,∀s∈T' p q,Pth.ok (ctr s))(O:Cv ctr T T'){p q:V}{s:S}(h:Good E i0 ctr G T p q s):Good E i0 ctr G T' p q s:=by
 obtain⟨h1,vis,H,h3⟩:=h
 refine⟨h1,vis,H,fun x I=>?_⟩
 obtain⟨u,hu,h4⟩:=h3 x I
 obtain⟨v,J,h5⟩:=O p x.1 u hu
 obtain⟨vis',h6⟩:=H.pre x I
 exact⟨v,J,le_trans (hT' _ _ v J) (h6.way.ok N.add0 N.iok) h5 h4⟩
theorem Inv.anti {T:V→V→List S}(I:Inv E i0 ctr lt G T){p q:V}{u s:S}(O:u∈T p q)(hs:G p q s)(h1:le (ctr u) (ctr s))(J:le (ctr s) (ctr u)):u=s:=by
 have gu:=I.good p q u O
 have H:=gu.small N Y
 exact Y.inj gu.1 hs (le_anti H (small_le N H J) h1 J)
theorem Inv.leq {T:V→V→List S}(I:Inv E i0 ctr lt G T){p q:V}{u s:S}(H:u∈T p q)(J:s∈T p q)(O:le (ctr u) (ctr s)):u=s:=by
 have h2:=I.min p q u H s J
 have h3:le (ctr s) (ctr u):=Wb fun h=>h2 ⟨O,.inl h⟩
 exact I.anti N Y H (I.good p q s J).1 O h3
theorem Inv.add {T:V→V→List S}(I:Inv E i0 ctr lt G T){p:V}{e:Ed (V:=V)}(he:e∈E){more r:List S}(hm: ∀m∈more,∃s,Good E i0 ctr G T p e.src s∧thn e s=some m)(hr:IsLst ctr lt (T p e.tgt++more) r):
  Inv E i0 ctr lt G (put T p e.tgt r)∧Cv ctr T (put T p e.tgt r)∧(∀m∈more,∃u∈r,le (ctr u) (ctr m))∧
   (r≠T p e.tgt→∃m∈more,ctr m∈Uv loops.length (dep e.tgt)∧∀u∈T p e.tgt,¬le (ctr u) (ctr m)):=by
 have gm: ∀m∈more,G p e.tgt m:=fun m h=>by obtain⟨s,h1,h2⟩:=hm m h;exact(Y.some he h1.1 h2).1
 have gl: ∀m∈T p e.tgt++more,G p e.tgt m:=fun m h=>(Qn.1 h).elim (fun h=>(I.good _ _ m h).1) (gm m)
 have hcov:=hr.cov Y.lin fun s H=>Y.ok (gl s H)
 have hcv:Cv ctr T (put T p e.tgt r):=fun p' q' s H=>by
  unfold put
  split
  ·rename_i h;rw[h.1,h.2]at H;exact hcov s (Q6 _ H)
  ·exact⟨s,H,le_refl _⟩
 have gr: ∀s∈r,G p e.tgt s:=fun s H=>gl s ((hr.2 s).1 H).1
 have okT': ∀p' q',∀s∈put T p e.tgt r p' q',Pth.ok (ctr s):=fun p' q' s H=>by
  unfold put at H
  split at H
  ·exact Y.ok (gr s H)
  ·exact Y.ok (I.good _ _ s H).1
 have nwm: ∀m∈more,(∀u∈T p e.tgt,¬le (ctr u) (ctr m))→∃s vis,NW E i0 p e.src (ctr s) vis∧(∀x∈vis,∃u∈T p x.1,le (ctr u) x.2)∧NW E i0 p e.tgt (ctr m) ((e.tgt,ctr m)::vis):=fun m h O=>by
  obtain⟨s,⟨h1,vis,h2,h3⟩,h4⟩:=hm m h
  refine⟨s,vis,h2,h3,.step h2 he rfl (Y.some he h1 h4).2 fun x hx hxe hle=>?_⟩
  obtain⟨u,J,h5⟩:=h3 x hx
  rw[hxe]at J
  exact O u J (le_trans (Y.ok (I.good _ _ u J).1) (Y.ok (gm m h)) h5 hle)
 refine⟨⟨fun p' q' s H=>?_,fun p' q'=>?_,fun p' q' u J s H=>?_⟩,hcv,fun m h=>hcov m (Q8 _ h),fun hne=>?_⟩
 ·unfold put at H
  split at H
  ·rename_i hpq
   obtain⟨rfl,rfl⟩:=hpq
   obtain⟨h1,h2⟩:=(hr.2 s).1 H
   by_cases hin:s∈T p' e.tgt
   ·exact(I.good _ _ s hin).cv N Y okT' hcv
   have hmo:s∈more:=(Qn.1 h1).resolve_left hin
   obtain⟨s0,vis,h3,h4,h5⟩:=nwm s hmo fun u J hle=>by
    have h6:le (ctr s) (ctr u):=Wb fun h=>h2 u (Q6 _ J) ⟨hle,.inl h⟩
    have:=I.anti N Y J (gm s hmo) hle h6
    rw[this]at J;exact hin J
   refine⟨gm s hmo,_,h5,fun x hx=>?_⟩
   rcases Qk.1 hx with rfl|hx
   ·exact⟨s,by rw[put_self];exact H,le_refl _⟩
   ·obtain⟨u,J,h6⟩:=h4 x hx
    obtain⟨v,hv,h7⟩:=hcv p' x.1 u J
    obtain⟨vis',h8⟩:=h3.pre x hx
    exact⟨v,hv,le_trans (okT' _ _ v hv) (h8.way.ok N.add0 N.iok) h7 h6⟩
  ·exact(I.good _ _ s H).cv N Y okT' hcv
 ·unfold put
  split
  ·exact hr.1
  ·exact I.sort _ _
 ·unfold put at J H
  split at J
  ·rename_i h
   rw[if_pos h]at H
   exact((hr.2 s).1 H).2 u ((hr.2 u).1 J).1
  ·rename_i h
   rw[if_neg h]at H
   exact I.min _ _ u J s H
 ·refine Wb fun hall=>hne (hr.uniq Y.lin ⟨I.sort _ _,fun s=>⟨fun H=>⟨Q6 _ H,fun x hx hl=>?_⟩,fun⟨H,hmin⟩=>?_⟩⟩)
  all_goals
   have hall: ∀m∈more,∃u∈T p e.tgt,le (ctr u) (ctr m):=fun m h=>Wb fun O=>by
    have O: ∀u∈T p e.tgt,¬le (ctr u) (ctr m):=fun u J hle=>O ⟨u,J,hle⟩
    obtain⟨s0,vis,_,_,h5⟩:=nwm m h O
    have h6:=Uv_mem (Y.ok (gm m h)) (h5.le_loops N)
    rw[h5.way.len N]at h6
    exact hall ⟨m,h,h6,O⟩
  ·rcases Qn.1 hx with hx|hx
   ·exact I.min _ _ x hx s H hl
   ·obtain⟨u,J,h1⟩:=hall x hx
    have gu:=I.good _ _ u J
    have gs:=I.good _ _ s H
    obtain rfl:=I.leq N Y J H (le_trans (Y.ok gu.1) (Y.ok gs.1) h1 hl.1)
    obtain rfl:=I.anti N Y J (gm x hx) h1 hl.1
    exact less_irr Y.lin _ hl
  ·rcases Qn.1 H with H|H
   ·exact H
   ·obtain⟨u,J,h1⟩:=hall s H
    have h6:le (ctr s) (ctr u):=Wb fun h=>hmin u (Q6 _ J) ⟨h1,.inl h⟩
    rw[←I.anti N Y J (gm s H) h1 h6];exact J
theorem Inv.first {T:V→V→List S}(I:Inv E i0 ctr lt G T){p:V}{s:S}(hp: ∀q,T p q=[])(hs:G p p s)(hc:ctr s=i0 p):Inv E i0 ctr lt G (put T p p [s]):=by
 refine⟨fun p' q' x H=>?_,fun p' q'=>?_,fun p' q' u J x H=>?_⟩
 ·unfold put at H
  split at H
  ·rename_i h
   obtain⟨rfl,rfl⟩:=h
   rw[Qj]at H
   subst H
   refine⟨hs,_,by rw[hc];exact .nil,fun y O=>?_⟩
   rw[Qj]at O
   subst O
   exact⟨x,by rw[put_self];exact Yc _,by rw[hc];exact le_refl _⟩
  ·obtain⟨h1,vis,h2,h3⟩:=I.good _ _ x H
   refine⟨h1,vis,h2,fun y O=>?_⟩
   obtain⟨u,J,h4⟩:=h3 y O
   refine⟨u,?_,h4⟩
   unfold put
   rw[if_neg]
   ·exact J
   ·intro h
    rw[h.1,hp]at J;cases J
 ·unfold put
  split
  ·exact Yi _ _
  ·exact I.sort _ _
 ·unfold put at J H
  split at J
  ·rename_i h
   rw[if_pos h]at H
   rw[Qj]at J H
   rw[J,H];exact less_irr Y.lin _
  ·rename_i h
   rw[if_neg h]at H
   exact I.min _ _ u J x H
theorem Inv.len {T:V→V→List S}(I:Inv E i0 ctr lt G T)(p q:V):(T p q).length≤(2*(loops.length+1))^dep q:=by
 have O:((T p q).map ctr).Nodup:=by
  refine Ja.2 ((I.sort p q).imp_of_mem fun {a b} ha hb h e=>?_)
  obtain rfl:=Y.inj (I.good _ _ a ha).1 (I.good _ _ b hb).1 e
  exact Y.lin.irr _ h
 have H:=nodup_le O (L:=Uv loops.length (dep q)) fun d hd=>by
  obtain⟨s,hs,rfl⟩:=Qv.1 hd
  obtain⟨h3,vis,J,_⟩:=I.good _ _ s hs
  have h6:=Uv_mem (Y.ok h3) (J.le_loops N)
  rw[J.way.len N]at h6;exact h6
 rw[Qw,Uv_len]at H;exact H
def mu (dep:V→Nat)(ctr:S→D)(B:Nat)(P:List (V×V))(T:V→V→List S):Nat:=
 ((P.flatMap fun x=>(Uv B (dep x.2)).map fun d=>(x,d)).filter fun y=> !((T y.1.1 y.1.2).any fun u=>decide (le (ctr u) y.2))).length
theorem mu_imp {T T':V→V→List S}(I:Inv E i0 ctr lt G T)(I':Inv E i0 ctr lt G T')(O:Cv ctr T T')(P:List (V×V)): ∀y∈(P.flatMap fun x=>(Uv loops.length (dep x.2)).map fun d=>(x,d)),(!((T' y.1.1 y.1.2).any fun u=>decide (le (ctr u) y.2)))=true→(!((T y.1.1 y.1.2).any fun u=>decide (le (ctr u) y.2)))=true:=by
 intro y hy h
 rw[Xp,Xq]at h ⊢
 intro s hs H
 obtain⟨u,J,h1⟩:=O _ _ s hs
 refine h u J (decide_eq_true ?_)
 obtain⟨x,_,hx⟩:=Xf.1 hy
 obtain⟨d,hd,rfl⟩:=Qv.1 hx
 have hfew:=N.few
 exact le_trans (Y.ok (I'.good _ _ u J).1) (o_b0 (by omega) hd) h1 (of_decide_eq_true H)
theorem mu_lt {T T':V→V→List S}(I:Inv E i0 ctr lt G T)(I':Inv E i0 ctr lt G T')(J:Cv ctr T T'){P:List (V×V)}{p q:V}(hp:(p,q)∈P){d:D}(O:d∈Uv loops.length (dep q))(h0: ∀u∈T p q,¬le (ctr u) d)(h1: ∃u∈T' p q,le (ctr u) d):
  mu dep ctr loops.length P T'<mu dep ctr loops.length P T:=by
 refine filter_lt (mu_imp N Y I I' J P) ⟨((p,q),d),Xf.2 ⟨(p,q),hp,Qv.2 ⟨d,O,rfl⟩⟩,?_,?_⟩
 ·rw[Xp,Xq]
  exact fun u H h=>h0 u H (of_decide_eq_true h)
 ·obtain⟨u,H,h⟩:=h1
  rw[Bool.not_eq_false',X9]
  exact⟨u,H,decide_eq_true h⟩
theorem mu_max {T:V→V→List S}(P:List (V×V))(H: ∀x∈P,dep x.2≤4):mu dep ctr loops.length P T≤P.length*(2*(loops.length+1))^4:=by
 unfold mu
 refine Wh (X1 _ _) ?_
 clear N Y
 induction P with
 |nil=>simp
 |cons x P I=>
  rw[List.flatMap_cons,Qm,Qw,Uv_len,Qh,Xt,X7,Yr]
  exact Nat.add_le_add (I fun y J=>H y (Qe _ J)) (Nat.pow_le_pow_right (by omega) (H x (Qf ..)))
theorem Inv.add_lt {T:V→V→List S}(I:Inv E i0 ctr lt G T){p:V}{e:Ed (V:=V)}(J:e∈E){more r:List S}(O: ∀m∈more,∃s,Good E i0 ctr G T p e.src s∧thn e s=some m)(hr:IsLst ctr lt (T p e.tgt++more) r){P:List (V×V)}(hp:(p,e.tgt)∈P)(H:r≠T p e.tgt):
  mu dep ctr loops.length P (put T p e.tgt r)<mu dep ctr loops.length P T:=by
 obtain⟨h1,h2,h3,h4⟩:=I.add N Y J O hr
 obtain⟨m,h5,h6,h7⟩:=h4 H
 obtain⟨u,h8,h9⟩:=h3 m h5
 exact mu_lt N Y I h1 h2 hp h6 h7 ⟨u,by rw[put_self];exact h8,h9⟩
theorem Inv.tab {T:V→V→List S}(I:Inv E i0 ctr lt G T)(h0: ∀p,(∃q,T p q≠[])→∃u∈T p p,le (ctr u) (i0 p))(hf: ∀p,∀e∈E,∀s∈T p e.src,∀m,thn e s=some m→∃u∈T p e.tgt,le (ctr u) (ctr m)):
  Tab (E:=E) (i0:=i0) fun p q=>(T p q).map ctr where
 sound p q d hd:=by
  obtain⟨s,hs,rfl⟩:=Qv.1 hd
  obtain⟨_,vis,h,_⟩:=I.good _ _ s hs
  exact h.way
 start p h:=by
  obtain⟨q,hq⟩:=h
  obtain⟨u,hu,h1⟩:=h0 p ⟨q,fun e=>hq (by rw[e];rfl)⟩
  exact⟨_,Qv.2 ⟨u,hu,rfl⟩,h1⟩
 fix p e he d hd d' h:=by
  obtain⟨s,hs,rfl⟩:=Qv.1 hd
  have gs:=(I.good _ _ s hs).1
  cases hm:thn e s with
  |none=>rw[Y.none he gs hm]at h;cases h
  |some m=>
   rw[(Y.some he gs hm).2]at h
   obtain rfl:=Qq h
   obtain⟨u,hu,h1⟩:=hf p e he s hs m hm
   exact⟨_,Qv.2 ⟨u,hu,rfl⟩,h1⟩
 min p q d hd d' hd' h:=by
  obtain⟨u,hu,rfl⟩:=Qv.1 hd
  obtain⟨s,hs,rfl⟩:=Qv.1 hd'
  rw[I.leq N Y hu hs h];exact le_refl _
end
def ltL:List Int→List Int→Prop
 |x::a,y::b=>x<y∨(x=y∧ltL a b)
 |_,_=>False
instance decLtL: ∀a b:List Int,Decidable (ltL a b)
 | [],[]=>.isFalse fun h=>h
 | [],_::_=>.isFalse fun h=>h
 |_::_,[]=>.isFalse fun h=>h
 |x::a,y::b=>match(inferInstance:Decidable (x<y)),(inferInstance:Decidable (x=y)),decLtL a b with
  | .isTrue h,_,_=>.isTrue (.inl h)
  | .isFalse _,.isTrue h1,.isTrue h2=>.isTrue (.inr ⟨h1,h2⟩)
  | .isFalse h,.isFalse h1,_=>.isFalse fun h2=>h2.elim h fun h3=>h1 h3.1
  | .isFalse h,_,.isFalse h1=>.isFalse fun h2=>h2.elim h fun h3=>h1 h3.2
theorem ltL_irr: ∀a,¬ltL a a
 | [],h=>h
 |x::a,h=>h.elim (Int.lt_irrefl x) fun h=>ltL_irr a h.2
theorem ltL_tr: ∀{a b c},ltL a b→ltL b c→ltL a c
 |x::a,y::b,z::c,I,H=>by
  rcases I with I|⟨rfl,I⟩
  ·rcases H with H|⟨rfl,H⟩
   ·exact .inl (by omega)
   ·exact .inl I
  ·rcases H with H|⟨rfl,H⟩
   ·exact .inl H
   ·exact .inr ⟨rfl,ltL_tr I H⟩
 | [],_,_,h,_=>by cases ‹List Int› <;>exact h.elim
 |_::_,[],_,h,_=>h.elim
 |_::_,_::_,[],_,h=>h.elim
theorem ltL_tri: ∀{a b:List Int},a.length=b.length→a≠b→ltL a b∨ltL b a
 | [],[],_,h=>absurd rfl h
 |x::a,y::b,H,h=>by
  by_cases J:x<y
  ·exact .inl (.inl J)
  by_cases O:y<x
  ·exact .inr (.inl O)
  obtain rfl:x=y:=by omega
  rcases ltL_tri (a:=a) (b:=b) (by simpa using H) (fun e=>h (by rw[e]))with I|I
  ·exact .inl (.inr ⟨rfl,I⟩)
  ·exact .inr (.inr ⟨rfl,I⟩)
 | [],_::_,H,_=>by simp at H
 |_::_,[],H,_=>by simp at H
theorem le_map {α:Type}(f g:α→Ctr): ∀(l:List α),le (l.map f) (l.map g)↔∀i∈l,leC (f i) (g i)
 | []=>by simp[le]
 |x::l=>by
  rw[Q3,Q3,le,le_map f g l]
  constructor
  ·intro h i H
   rcases Qk.1 H with rfl|H
   ·exact h.1
   ·exact h.2 i H
  ·exact fun h=>⟨h x (Qf ..),fun i H=>h i (Qe _ H)⟩
end Go.Pth
namespace Go.Proofs.YtlbnpmfggfbdoaaGreatDoor
open Go.RowKit Go.Graph
def ints (s:Sm):List Int:=[s.1,s.2.1,s.2.2.1,s.2.2.2.1,s.2.2.2.2.1,s.2.2.2.2.2.1,s.2.2.2.2.2.2.1,s.2.2.2.2.2.2.2]
theorem ints_inj {a b:Sm}(h:ints a=ints b):a=b:=by
 obtain⟨a1,a2,a3,a4,a5,a6,a7,a8⟩:=a
 obtain⟨b1,b2,b3,b4,b5,b6,b7,b8⟩:=b
 unfold ints at h
 simp at h
 obtain⟨rfl,rfl,rfl,rfl,rfl,rfl,rfl,rfl⟩:=h
 rfl
def ltS (a b:Sm):Prop:=Pth.ltL (ints a) (ints b)
instance:DecidableRel ltS:=fun a b=>inferInstanceAs (Decidable (Pth.ltL (ints a) (ints b)))
theorem linS:Pth.Lin ltS:=⟨fun a=>Pth.ltL_irr _,fun a b c=>Pth.ltL_tr,fun a b h=>Pth.ltL_tri rfl fun e=>h (ints_inj e)⟩
def cg (s:Sm)(i:Nat):Pth.Ctr:=if(i:Int)<s.2.1 then(true,if(i:Int)+1=s.2.1 then s.2.2.1 else 0)else(false,(pus s).getD (i-s.2.1.toNat) 0)
def ctr (s:Sm):Pth.D:=(List.range (s.2.1+s.2.2.2.1).toNat).map (cg s)
def GS (x y:Int)(s:Sm):Prop:=OkS s∧s.1=x∧s.2.1+s.2.2.2.1=y
theorem o_b7 {s:Sm}(h:OkS s)(i:Nat):Pth.okC (cg s i):=by
 have I:=h.a
 unfold cg Pth.okC
 split
 ·simp only
  split<;>omega
 ·simp only
  rw[Jb]
  cases H:(pus s)[i-s.2.1.toNat]? with
  |none=>simp
  |some x=>
   have:=h.p _ _ H
   simp only[Jc]
   omega
theorem o_b5 {s:Sm}(h:OkS s):Pth.ok (ctr s):=fun c H=>by
 unfold ctr at H
 obtain⟨i,_,rfl⟩:=Qv.1 H
 exact o_b7 h i
theorem ctr_inj {x y:Int}{a b:Sm}(ha:GS x y a)(hb:GS x y b)(h:ctr a=ctr b):a=b:=by
 obtain⟨oa,fa,ea⟩:=ha
 obtain⟨ob,fb,eb⟩:=hb
 have I: ∀i:Nat,(i:Int)<y→cg a i=cg b i:=fun i hi=>by
  have J:=congrArg (fun l=>l[i]?) h
  unfold ctr at J
  simp only[Qu]at J
  rw[Yo (by omega),Yo (by omega)]at J
  exact Qq J
 have ak:=oa.k
 have bk:=ob.k
 have an:=oa.n
 have bn:=ob.n
 have akn:=oa.kn
 have nolt: ∀{a b:Sm},OkS a→OkS b→(∀i:Nat,(i:Int)<y→cg a i=cg b i)→b.2.1+b.2.2.2.1=y→¬a.2.1<b.2.1:=fun {a b} oa ob I eb hlt=>by
  have ak:=oa.k
  have bn:=ob.n
  have H:=I a.2.1.toNat (by omega)
  unfold cg at H
  rw[if_neg (by omega),if_pos (by omega)]at H
  exact absurd (show false=true from congrArg Prod.fst H) (by decide)
 have hk:a.2.1=b.2.1:=by
  have h1:=nolt oa ob I eb
  have J:=nolt ob oa (fun i hi=>(I i hi).symm) ea
  omega
 have hn:a.2.2.2.1=b.2.2.2.1:=by omega
 have hadd:a.2.2.1=b.2.2.1:=by
  by_cases h0:a.2.1=0
  ·rw[oa.k0 h0,ob.k0 (by omega)]
  ·have H:=I (a.2.1.toNat-1) (by omega)
   unfold cg at H
   rw[if_pos (by omega),if_pos (by omega),if_pos (by omega),if_pos (by omega)]at H
   exact congrArg Prod.snd H
 have hp: ∀j:Nat,j<4→(pus a).getD j 0=(pus b).getD j 0:=fun j hj=>by
  by_cases h4:(j:Int)<a.2.2.2.1
  ·have H:=I (a.2.1.toNat+j) (by omega)
   unfold cg at H
   rw[if_neg (by omega),if_neg (by omega)]at H
   have H:=congrArg Prod.snd H
   rw[show a.2.1.toNat+j-a.2.1.toNat=j by omega,show a.2.1.toNat+j-b.2.1.toNat=j by omega]at H
   exact H
  ·have z: ∀{s:Sm},OkS s→¬(j:Int)<s.2.2.2.1→(pus s).getD j 0=0:=fun {s} o h=>by
    rw[Jb]
    cases hx:(pus s)[j]? with
    |none=>rfl
    |some x=>exact(o.p _ _ hx).2.2 (by omega)
   rw[z oa h4,z ob (by omega)]
 obtain⟨a1,a2,a3,a4,a5,a6,a7,a8⟩:=a
 obtain⟨b1,b2,b3,b4,b5,b6,b7,b8⟩:=b
 have O:=hp 0 (by omega)
 have p1:=hp 1 (by omega)
 have p2:=hp 2 (by omega)
 have p3:=hp 3 (by omega)
 have O:a5=b5:=O
 have p1:a6=b6:=p1
 have p2:a7=b7:=p2
 have p3:a8=b8:=p3
 simp only at fa fb hk hn hadd
 rw[fa,fb,hk,hn,hadd,O,p1,p2,p3]
end Go.Proofs.YtlbnpmfggfbdoaaGreatDoor
end
section
namespace Go.Proofs.YtlbnpmfggfbdoaaGreatDoor
open Go.RowKit Go.Graph
theorem Qam {f K A N J O p2 p3:Int}:OkS (f,K,A,N,(J,O,p2,p3))↔(0≤f∧f≤4∧0≤N∧N≤4∧0≤K∧K≤f∧K+N≤4∧0≤A∧A≤1048576∧(K=0→A=0)∧(0≤J∧J≤1048576∧(N≤0→J=0))∧(0≤O∧O≤1048576∧(N≤1→O=0))∧(0≤p2∧p2≤1048576∧(N≤2→p2=0))∧(0≤p3∧p3≤1048576∧(N≤3→p3=0))):=by
 constructor
 ·intro h
  have h1:=h.f
  have h2:=h.n
  have h3:=h.k
  have h4:=h.kn
  have h5:=h.a
  have h6:=h.k0
  have h7:=h.p 0 J rfl
  have h8:=h.p 1 O rfl
  have h9:=h.p 2 p2 rfl
  have I:=h.p 3 p3 rfl
  simp only at h1 h2 h3 h4 h5 h6 h7 h8 h9 I
  exact⟨h1.1,h1.2,h2.1,h2.2,h3.1,h3.2,h4,h5.1,h5.2,h6,h7,h8,h9,I⟩
 ·intro ⟨h1,h2,h3,h4,h5,h6,h7,h8,h9,I,h11,h12,h13,h14⟩
  refine⟨⟨h1,h2⟩,⟨h3,h4⟩,⟨h5,h6⟩,h7,⟨h8,h9⟩,I,fun i x H=>?_⟩
  match i,H with
  |0,H=>obtain rfl:J=x:=Qq H;exact h11
  |1,H=>obtain rfl:O=x:=Qq H;exact h12
  |2,H=>obtain rfl:p2=x:=Qq H;exact h13
  |3,H=>obtain rfl:p3=x:=Qq H;exact h14
  |i+4,H=>cases H
def opS (s:Sm):Pth.Op:=⟨s.2.1.toNat,s.2.2.1,s.2.2.2.1.toNat⟩
def thW (a e:Sm):Sm:=
 if e.2.2.2.1=1 then(a.1,a.2.1,a.2.2.1,a.2.2.2.1+1,a.2.2.2.2)
 else if e.2.2.1=1 then(if a.2.2.2.1=0 then(a.1,a.2.1,a.2.2.1+1,0,(0,0,0,0))else(a.1,a.2.1,a.2.2.1,a.2.2.2.1,(if a.2.2.2.1=1 then a.2.2.2.2.1+1 else a.2.2.2.2.1,if a.2.2.2.1=2 then a.2.2.2.2.2.1+1 else a.2.2.2.2.2.1,if a.2.2.2.1=3 then a.2.2.2.2.2.2.1+1 else a.2.2.2.2.2.2.1,if a.2.2.2.1=4 then a.2.2.2.2.2.2.2+1 else a.2.2.2.2.2.2.2)))
 else if e.2.1<e.1 then(if a.2.2.2.1=0 then(a.1,a.2.1-1,0,0,(0,0,0,0))else(a.1,a.2.1,a.2.2.1,a.2.2.2.1-1,(if a.2.2.2.1=1 then 0 else a.2.2.2.2.1,if a.2.2.2.1=2 then 0 else a.2.2.2.2.2.1,if a.2.2.2.1=3 then 0 else a.2.2.2.2.2.2.1,if a.2.2.2.1=4 then 0 else a.2.2.2.2.2.2.2)))
 else a
def thV (a e:Sm):Int:=
 if e.2.2.1=1 then(if a.2.2.2.1=0 then a.2.2.1+1 else if a.2.2.2.1=1 then a.2.2.2.2.1+1 else if a.2.2.2.1=2 then a.2.2.2.2.2.1+1 else if a.2.2.2.1=3 then a.2.2.2.2.2.2.1+1 else a.2.2.2.2.2.2.2+1)else 0
theorem o_aB {x y:Int}{e:Sm}(J:Form x y e)(O:0≤x∧x≤4):OkS e:=by
 rcases J with⟨rfl,H⟩|⟨rfl,I,H⟩|⟨rfl,I,H⟩|⟨rfl,I,H⟩<;>exact Qam.2 (by omega)
structure ThOk (a e:Sm) (y:Int):Prop where
 prog:F.bC a e=if(1048576:Int)<thV a e then some ((0,0,0,0,(0,0,0,0)),12)else some (thW a e,0)
 ref:F.ci a e=(F.ac (thW a e)).bind fun r=>if r≠0 then some ((0,0,0,0,(0,0,0,0)),12)else some (thW a e,0)
 ok:OkS (thW a e)↔¬(1048576:Int)<thV a e
 from_:(thW a e).1=a.1
 ends:(thW a e).2.1+(thW a e).2.2.2.1=y
 app:(opS e).app (ctr a)=if thV a e≤1048576 then some (ctr (thW a e))else none
theorem c00 {f B H I J O:Int}:ctr (f,0,B,0,(H,I,J,O))=[]:=rfl
theorem c01 {f B H I J O:Int}:ctr (f,0,B,1,(H,I,J,O))=[(false,H)]:=rfl
theorem c02 {f B H I J O:Int}:ctr (f,0,B,2,(H,I,J,O))=[(false,H),(false,I)]:=rfl
theorem c03 {f B H I J O:Int}:ctr (f,0,B,3,(H,I,J,O))=[(false,H),(false,I),(false,J)]:=rfl
theorem c04 {f B H I J O:Int}:ctr (f,0,B,4,(H,I,J,O))=[(false,H),(false,I),(false,J),(false,O)]:=rfl
theorem c10 {f B H I J O:Int}:ctr (f,1,B,0,(H,I,J,O))=[(true,B)]:=rfl
theorem c11 {f B H I J O:Int}:ctr (f,1,B,1,(H,I,J,O))=[(true,B),(false,H)]:=rfl
theorem c12 {f B H I J O:Int}:ctr (f,1,B,2,(H,I,J,O))=[(true,B),(false,H),(false,I)]:=rfl
theorem c13 {f B H I J O:Int}:ctr (f,1,B,3,(H,I,J,O))=[(true,B),(false,H),(false,I),(false,J)]:=rfl
theorem c20 {f B H I J O:Int}:ctr (f,2,B,0,(H,I,J,O))=[(true,0),(true,B)]:=rfl
theorem c21 {f B H I J O:Int}:ctr (f,2,B,1,(H,I,J,O))=[(true,0),(true,B),(false,H)]:=rfl
theorem c22 {f B H I J O:Int}:ctr (f,2,B,2,(H,I,J,O))=[(true,0),(true,B),(false,H),(false,I)]:=rfl
theorem c30 {f B H I J O:Int}:ctr (f,3,B,0,(H,I,J,O))=[(true,0),(true,0),(true,B)]:=rfl
theorem c31 {f B H I J O:Int}:ctr (f,3,B,1,(H,I,J,O))=[(true,0),(true,0),(true,B),(false,H)]:=rfl
theorem c40 {f B H I J O:Int}:ctr (f,4,B,0,(H,I,J,O))=[(true,0),(true,0),(true,0),(true,B)]:=rfl
theorem thN0 {f K B x y:Int}{e:Sm}(H:OkS (f,K,B,0,(0,0,0,0)))(hx:K+0=x)(I:Form x y e):ThOk (f,K,B,0,(0,0,0,0)) e y:=by
 have hk:=Qam.1 H
 obtain⟨n,hn⟩: ∃n,A.FU=n+5:=⟨A.FU-5,by decide⟩
 have g00: -9223372036854775808≤B∧B≤9223372036854775807:=by omega
 have g01: -9223372036854775808≤B+1∧B+1≤9223372036854775807:=by omega
 have g02: -9223372036854775808≤1+B∧1+B≤9223372036854775807:=by omega
 have b0:B≤1048576:=by omega
 have cK:K=0∨K=1∨K=2∨K=3∨K=4:=by omega
 have J:=o_aB I (by omega)
 subst hx
 rcases cK with rfl|rfl|rfl|rfl|rfl<;>rcases I with⟨rfl,rfl⟩|⟨rfl,O,rfl⟩|⟨rfl,O,rfl⟩|⟨rfl,O,rfl⟩<;>first
  |(exfalso;omega)
  |exact⟨(by unfold F.bC;rw[show F.az (_,_,_,_,(_,_,_,_))=some true from o_s H,Qa,show F.az (_,_,_,_,(_,_,_,_))=some true from o_s J];simp[thW,thV,F.bK,F.bj,A.cp4,A.ix,A.gd,Z.R64,Jq 1 B,g00,g01,g02,b0,Ww.2 b0]),(by unfold F.ci;rw[show F.ac (_,_,_,_,(_,_,_,_))=some 0 from o_f H,Qa,show F.ac (_,_,_,_,(_,_,_,_))=some 0 from o_f J];simp[thW,F.b7,F.b6,F.b5,F.bk,F.b4,F.b3,A.ix,A.gd,Z.R64,Int.min_def,hn,g00,g01,g02]),(by simp[thW,thV];rw[Qam];omega),(by simp[thW]),(by simp[thW]),(by simp[thW,thV,opS,Pth.Op.app,Pth.bump,c00,c01,c02,c03,c04,c10,c11,c12,c13,c20,c21,c22,c30,c31,c40,b0,Ww.2 b0])⟩
theorem thN1 {f K B H x y:Int}{e:Sm}(I:OkS (f,K,B,1,(H,0,0,0)))(hx:K+1=x)(J:Form x y e):ThOk (f,K,B,1,(H,0,0,0)) e y:=by
 have hk:=Qam.1 I
 obtain⟨n,hn⟩: ∃n,A.FU=n+5:=⟨A.FU-5,by decide⟩
 have g00: -9223372036854775808≤B∧B≤9223372036854775807:=by omega
 have g01: -9223372036854775808≤B+1∧B+1≤9223372036854775807:=by omega
 have g02: -9223372036854775808≤1+B∧1+B≤9223372036854775807:=by omega
 have b0:B≤1048576:=by omega
 have g10: -9223372036854775808≤H∧H≤9223372036854775807:=by omega
 have g11: -9223372036854775808≤H+1∧H+1≤9223372036854775807:=by omega
 have g12: -9223372036854775808≤1+H∧1+H≤9223372036854775807:=by omega
 have b1:H≤1048576:=by omega
 have cK:K=0∨K=1∨K=2∨K=3:=by omega
 have O:=o_aB J (by omega)
 subst hx
 rcases cK with rfl|rfl|rfl|rfl<;>rcases J with⟨rfl,rfl⟩|⟨rfl,h1,rfl⟩|⟨rfl,h1,rfl⟩|⟨rfl,h1,rfl⟩<;>first
  |(exfalso;omega)
  |exact⟨(by unfold F.bC;rw[show F.az (_,_,_,_,(_,_,_,_))=some true from o_s I,Qa,show F.az (_,_,_,_,(_,_,_,_))=some true from o_s O];simp[thW,thV,F.bK,F.bj,A.cp4,A.ix,A.gd,Z.R64,Jq 1 B,g00,g01,g02,g10,g11,g12,b0,Ww.2 b0,b1,Ww.2 b1]),(by unfold F.ci;rw[show F.ac (_,_,_,_,(_,_,_,_))=some 0 from o_f I,Qa,show F.ac (_,_,_,_,(_,_,_,_))=some 0 from o_f O];simp[thW,F.b7,F.b6,F.b5,F.bk,F.b4,F.b3,A.ix,A.gd,Z.R64,Int.min_def,hn,g00,g01,g02,g10,g11,g12]),(by simp[thW,thV];rw[Qam];omega),(by simp[thW]),(by simp[thW]),(by simp[thW,thV,opS,Pth.Op.app,Pth.bump,c00,c01,c02,c03,c04,c10,c11,c12,c13,c20,c21,c22,c30,c31,c40,b0,Ww.2 b0,b1,Ww.2 b1])⟩
theorem thN2 {f K B H I x y:Int}{e:Sm}(J:OkS (f,K,B,2,(H,I,0,0)))(hx:K+2=x)(O:Form x y e):ThOk (f,K,B,2,(H,I,0,0)) e y:=by
 have hk:=Qam.1 J
 obtain⟨n,hn⟩: ∃n,A.FU=n+5:=⟨A.FU-5,by decide⟩
 have g00: -9223372036854775808≤B∧B≤9223372036854775807:=by omega
 have g01: -9223372036854775808≤B+1∧B+1≤9223372036854775807:=by omega
 have g02: -9223372036854775808≤1+B∧1+B≤9223372036854775807:=by omega
 have b0:B≤1048576:=by omega
 have g10: -9223372036854775808≤H∧H≤9223372036854775807:=by omega
 have g11: -9223372036854775808≤H+1∧H+1≤9223372036854775807:=by omega
 have g12: -9223372036854775808≤1+H∧1+H≤9223372036854775807:=by omega
 have b1:H≤1048576:=by omega
 have g20: -9223372036854775808≤I∧I≤9223372036854775807:=by omega
 have g21: -9223372036854775808≤I+1∧I+1≤9223372036854775807:=by omega
 have g22: -9223372036854775808≤1+I∧1+I≤9223372036854775807:=by omega
 have b2:I≤1048576:=by omega
 have cK:K=0∨K=1∨K=2:=by omega
 have he:=o_aB O (by omega)
 subst hx
 rcases cK with rfl|rfl|rfl<;>rcases O with⟨rfl,rfl⟩|⟨rfl,h1,rfl⟩|⟨rfl,h1,rfl⟩|⟨rfl,h1,rfl⟩<;>first
  |(exfalso;omega)
  |exact⟨(by unfold F.bC;rw[show F.az (_,_,_,_,(_,_,_,_))=some true from o_s J,Qa,show F.az (_,_,_,_,(_,_,_,_))=some true from o_s he];simp[thW,thV,F.bK,F.bj,A.cp4,A.ix,A.gd,Z.R64,Jq 1 B,g00,g01,g02,g10,g11,g12,g20,g21,g22,b0,Ww.2 b0,b1,Ww.2 b1,b2,Ww.2 b2]),(by unfold F.ci;rw[show F.ac (_,_,_,_,(_,_,_,_))=some 0 from o_f J,Qa,show F.ac (_,_,_,_,(_,_,_,_))=some 0 from o_f he];simp[thW,F.b7,F.b6,F.b5,F.bk,F.b4,F.b3,A.ix,A.gd,Z.R64,Int.min_def,hn,g00,g01,g02,g10,g11,g12,g20,g21,g22]),(by simp[thW,thV];rw[Qam];omega),(by simp[thW]),(by simp[thW]),(by simp[thW,thV,opS,Pth.Op.app,Pth.bump,c00,c01,c02,c03,c04,c10,c11,c12,c13,c20,c21,c22,c30,c31,c40,b0,Ww.2 b0,b1,Ww.2 b1,b2,Ww.2 b2])⟩
theorem thN3 {f K B H I J x y:Int}{e:Sm}(O:OkS (f,K,B,3,(H,I,J,0)))(hx:K+3=x)(hf:Form x y e):ThOk (f,K,B,3,(H,I,J,0)) e y:=by
 have hk:=Qam.1 O
 obtain⟨n,hn⟩: ∃n,A.FU=n+5:=⟨A.FU-5,by decide⟩
 have g00: -9223372036854775808≤B∧B≤9223372036854775807:=by omega
 have g01: -9223372036854775808≤B+1∧B+1≤9223372036854775807:=by omega
 have g02: -9223372036854775808≤1+B∧1+B≤9223372036854775807:=by omega
 have b0:B≤1048576:=by omega
 have g10: -9223372036854775808≤H∧H≤9223372036854775807:=by omega
 have g11: -9223372036854775808≤H+1∧H+1≤9223372036854775807:=by omega
 have g12: -9223372036854775808≤1+H∧1+H≤9223372036854775807:=by omega
 have b1:H≤1048576:=by omega
 have g20: -9223372036854775808≤I∧I≤9223372036854775807:=by omega
 have g21: -9223372036854775808≤I+1∧I+1≤9223372036854775807:=by omega
 have g22: -9223372036854775808≤1+I∧1+I≤9223372036854775807:=by omega
 have b2:I≤1048576:=by omega
 have g30: -9223372036854775808≤J∧J≤9223372036854775807:=by omega
 have g31: -9223372036854775808≤J+1∧J+1≤9223372036854775807:=by omega
 have g32: -9223372036854775808≤1+J∧1+J≤9223372036854775807:=by omega
 have b3:J≤1048576:=by omega
 have cK:K=0∨K=1:=by omega
 have he:=o_aB hf (by omega)
 subst hx
 rcases cK with rfl|rfl<;>rcases hf with⟨rfl,rfl⟩|⟨rfl,h1,rfl⟩|⟨rfl,h1,rfl⟩|⟨rfl,h1,rfl⟩<;>first
  |(exfalso;omega)
  |exact⟨(by unfold F.bC;rw[show F.az (_,_,_,_,(_,_,_,_))=some true from o_s O,Qa,show F.az (_,_,_,_,(_,_,_,_))=some true from o_s he];simp[thW,thV,F.bK,F.bj,A.cp4,A.ix,A.gd,Z.R64,Jq 1 B,g00,g01,g02,g10,g11,g12,g20,g21,g22,g30,g31,g32,b0,Ww.2 b0,b1,Ww.2 b1,b2,Ww.2 b2,b3,Ww.2 b3]),(by unfold F.ci;rw[show F.ac (_,_,_,_,(_,_,_,_))=some 0 from o_f O,Qa,show F.ac (_,_,_,_,(_,_,_,_))=some 0 from o_f he];simp[thW,F.b7,F.b6,F.b5,F.bk,F.b4,F.b3,A.ix,A.gd,Z.R64,Int.min_def,hn,g00,g01,g02,g10,g11,g12,g20,g21,g22,g30,g31,g32]),(by simp[thW,thV];rw[Qam];omega),(by simp[thW]),(by simp[thW]),(by simp[thW,thV,opS,Pth.Op.app,Pth.bump,c00,c01,c02,c03,c04,c10,c11,c12,c13,c20,c21,c22,c30,c31,c40,b0,Ww.2 b0,b1,Ww.2 b1,b2,Ww.2 b2,b3,Ww.2 b3])⟩
theorem thN4 {f K B H I J O x y:Int}{e:Sm}(hs:OkS (f,K,B,4,(H,I,J,O)))(hx:K+4=x)(hf:Form x y e):ThOk (f,K,B,4,(H,I,J,O)) e y:=by
 have hk:=Qam.1 hs
 obtain⟨n,hn⟩: ∃n,A.FU=n+5:=⟨A.FU-5,by decide⟩
 have g00: -9223372036854775808≤B∧B≤9223372036854775807:=by omega
 have g01: -9223372036854775808≤B+1∧B+1≤9223372036854775807:=by omega
 have g02: -9223372036854775808≤1+B∧1+B≤9223372036854775807:=by omega
 have b0:B≤1048576:=by omega
 have g10: -9223372036854775808≤H∧H≤9223372036854775807:=by omega
 have g11: -9223372036854775808≤H+1∧H+1≤9223372036854775807:=by omega
 have g12: -9223372036854775808≤1+H∧1+H≤9223372036854775807:=by omega
 have b1:H≤1048576:=by omega
 have g20: -9223372036854775808≤I∧I≤9223372036854775807:=by omega
 have g21: -9223372036854775808≤I+1∧I+1≤9223372036854775807:=by omega
 have g22: -9223372036854775808≤1+I∧1+I≤9223372036854775807:=by omega
 have b2:I≤1048576:=by omega
 have g30: -9223372036854775808≤J∧J≤9223372036854775807:=by omega
 have g31: -9223372036854775808≤J+1∧J+1≤9223372036854775807:=by omega
 have g32: -9223372036854775808≤1+J∧1+J≤9223372036854775807:=by omega
 have b3:J≤1048576:=by omega
 have g40: -9223372036854775808≤O∧O≤9223372036854775807:=by omega
 have g41: -9223372036854775808≤O+1∧O+1≤9223372036854775807:=by omega
 have g42: -9223372036854775808≤1+O∧1+O≤9223372036854775807:=by omega
 have b4:O≤1048576:=by omega
 have cK:K=0:=by omega
 have he:=o_aB hf (by omega)
 subst hx
 rcases cK with rfl<;>rcases hf with⟨rfl,rfl⟩|⟨rfl,h1,rfl⟩|⟨rfl,h1,rfl⟩|⟨rfl,h1,rfl⟩<;>first
  |(exfalso;omega)
  |exact⟨(by unfold F.bC;rw[show F.az (_,_,_,_,(_,_,_,_))=some true from o_s hs,Qa,show F.az (_,_,_,_,(_,_,_,_))=some true from o_s he];simp[thW,thV,F.bK,F.bj,A.cp4,A.ix,A.gd,Z.R64,Jq 1 B,g00,g01,g02,g10,g11,g12,g20,g21,g22,g30,g31,g32,g40,g41,g42,b0,Ww.2 b0,b1,Ww.2 b1,b2,Ww.2 b2,b3,Ww.2 b3,b4,Ww.2 b4]),(by unfold F.ci;rw[show F.ac (_,_,_,_,(_,_,_,_))=some 0 from o_f hs,Qa,show F.ac (_,_,_,_,(_,_,_,_))=some 0 from o_f he];simp[thW,F.b7,F.b6,F.b5,F.bk,F.b4,F.b3,A.ix,A.gd,Z.R64,Int.min_def,hn,g00,g01,g02,g10,g11,g12,g20,g21,g22,g30,g31,g32,g40,g41,g42]),(by simp[thW,thV];rw[Qam];omega),(by simp[thW]),(by simp[thW]),(by simp[thW,thV,opS,Pth.Op.app,Pth.bump,c00,c01,c02,c03,c04,c10,c11,c12,c13,c20,c21,c22,c30,c31,c40,b0,Ww.2 b0,b1,Ww.2 b1,b2,Ww.2 b2,b3,Ww.2 b3,b4,Ww.2 b4])⟩
theorem then_form {a e:Sm}{x y:Int}(I:OkS a)(H:a.2.1+a.2.2.2.1=x)(J:Form x y e):ThOk a e y:=by
 obtain⟨f,K,A,N,p0,p1,p2,O⟩:=a
 have hk:=Qam.1 I
 have H:K+N=x:=H
 have cN:N=0∨N=1∨N=2∨N=3∨N=4:=by omega
 rcases cN with rfl|rfl|rfl|rfl|rfl
 ·obtain rfl:p0=0:=(by omega);obtain rfl:p1=0:=(by omega);obtain rfl:p2=0:=(by omega);obtain rfl:O=0:=(by omega);exact thN0 I H J
 ·obtain rfl:p1=0:=(by omega);obtain rfl:p2=0:=(by omega);obtain rfl:O=0:=(by omega);exact thN1 I H J
 ·obtain rfl:p2=0:=(by omega);obtain rfl:O=0:=(by omega);exact thN2 I H J
 ·obtain rfl:O=0:=(by omega);exact thN3 I H J
 ·exact thN4 I H J
abbrev PE:=Pth.Ed (V:=Pl)
def eNt (e:Ed):PE:=⟨e.1,e.2.1,opS e.2.2⟩
def dpN (g:List Nd)(d:List Int)(p:Pl):Nat:=(Dp g d p).toNat
def i0N (g:List Nd)(d:List Int)(p:Pl):Pth.D:=List.replicate (dpN g d p) (true,0)
def lpsN (g:List Nd):List Pl:=(g.filter fun n=>decide (n.2.1=14)).map fun n=>(n.1,2)
def EN (g:List Nd)(d:List Int):List PE:=(edges g d).map eNt
theorem within_add {n:Nd}{x:Int}(h:n.2.1≠14):(Qaj n x).2.2.1=0:=by
 have st: ∀(lo H:Int) (t:Sm),t.2.2.1=0→(Qbl x lo H t).1.2.2.1=0:=fun lo H t h=>by
  unfold Qbl
  split
  ·rfl
  ·exact h
 unfold Qaj
 split
 ·exact st _ _ _ rfl
 ·(split)
  ·exact st _ _ _ rfl
  ·first|exact st _ _ _ rfl|(rw[if_neg h];exact st _ _ _ rfl)
theorem id_add {x:Int}:(idP x).1.2.2.1=0:=by
 unfold idP Qbl
 split<;>rfl
structure EF (g:List Nd) (d:List Int) (e:Ed):Prop where
 form:Form (Dp g d e.1) (Dp g d e.2.1) e.2.2
 src:0≤Dp g d e.1∧Dp g d e.1≤4
 tgt:0≤Dp g d e.2.1∧Dp g d e.2.1≤4
 lp:e.2.2.2.2.1≠0→e.2.1∈lpsN g
 ends:(∃a,(e.1,a)∈spots g d)∧∃b,(e.2.1,b)∈spots g d
theorem Qao {g:List Nd}{l d:List Int}{dm:List (Int×Int)}(W:Whole g l d dm){e:Ed}(he:e∈edges g d):EF g d e:=by
 obtain⟨a,b,ha,hb,K,_⟩:=edge_kd W he
 have O:=nodup_S (d:=d) W.inc W.own
 have ea:Dp g d e.1=a:=mget_mem O ha
 have eb:Dp g d e.2.1=b:=mget_mem O hb
 have fin: ∀(n:Nd) (x:Int),Form a b e.2.2→(0≤a∧a≤4)→(e.2.2.2.2.1≠0→e.2.1∈lpsN g)→EF g d e:=fun n x R I hl=>by
  refine⟨by rw[ea,eb];exact R,by rw[ea];exact I,?_,hl,⟨a,ha⟩,⟨b,hb⟩⟩
  rw[eb]
  rcases R with⟨_,h⟩|⟨_,h1,h⟩|⟨_,h1,h⟩|⟨_,h1,h⟩<;>omega
 obtain⟨j,n,hn,h15,h|h⟩:=Qcn d 0 g e he
 ·obtain⟨k,z,hz,rfl⟩:=Qij g d n 0 n.2.2.1 e h
  have hng:=Qg hn
  have ex:Dp g d (n.1,((0+k:Nat):Int))=iget d (idx g z):=mget_mem O (Qay d 0 g n hng _ (Qgl g d n.1 0 n.2.2.1 k z hz))
  have H:a=iget d (idx g z):=by rw[←ea];exact ex
  have I:=W.inb (idx g z)
  refine fin n (iget d (idx g z)) (by rw[H];exact form_of I (.inl rfl) K H) (by rw[H];exact I) fun h0=>?_
  by_cases J:n.2.1=14
  ·exact Qv.2 ⟨n,Yn.2 ⟨hng,decide_eq_true J⟩,rfl⟩
  ·exact absurd (within_add J) h0
 ·unfold outE at h
  obtain⟨u,hu,rfl⟩:=Qv.1 h
  have h2:=spotsF_outP (g:=g) d 0 g j n hn h15
  have ex:Dp g d (n.1,2)=iget d ((0+j:Nat):Int):=mget_mem O h2
  have H:a=iget d ((0+j:Nat):Int):=by rw[←ea];exact ex
  have I:=W.inb ((0+j:Nat):Int)
  exact fin n (iget d ((0+j:Nat):Int)) (by rw[H];exact form_of (n:=n) I (.inr rfl) K H) (by rw[H];exact I) fun h0=>absurd id_add h0
theorem netN {g:List Nd}{l d:List Int}{dm:List (Int×Int)}(W:Whole g l d dm):Pth.Net (EN g d) (i0N g d) (dpN g d) (lpsN g) where
 i0e p:=rfl
 keep e he:=by
  obtain⟨e,hE,rfl⟩:=Qv.1 he
  have h:=Qao W hE
  have h1:=h.src
  show e.2.2.2.1.toNat≤(Dp g d e.1).toNat
  rcases h.form with⟨h2,h3⟩|⟨h2,_,h3⟩|⟨h2,_,h3⟩|⟨h2,_,h3⟩<;>rw[h2]<;>simp only<;>omega
 ends e he:=by
  obtain⟨e,hE,rfl⟩:=Qv.1 he
  have h:=Qao W hE
  have h1:=h.src
  show e.2.2.2.1.toNat+e.2.2.2.2.2.1.toNat=(Dp g d e.2.1).toNat
  rcases h.form with⟨h2,h3⟩|⟨h2,_,h3⟩|⟨h2,_,h3⟩|⟨h2,_,h3⟩<;>rw[h2,h3]<;>simp only<;>omega
 add e he:=by
  obtain⟨e,hE,rfl⟩:=Qv.1 he
  have h:=Qao W hE
  have h1:=h.src
  show e.2.2.2.2.1=0∨(e.2.2.2.2.1=1∧e.2.2.2.1.toNat=(Dp g d e.1).toNat∧e.2.2.2.2.2.1.toNat=0∧e.2.1∈lpsN g)
  have hl:=h.lp
  rcases h.form with⟨h2,h3⟩|⟨h2,_,h3⟩|⟨h2,_,h3⟩|⟨h2,_,h3⟩<;>rw[h2]at hl ⊢
  ·exact .inl rfl
  ·exact .inl rfl
  ·exact .inl rfl
  ·exact .inr ⟨rfl,rfl,rfl,hl (show(1:Int)≠0 by decide)⟩
 few:=by
  have h1:=X1 (fun n:Nd=>decide (n.2.1=14)) g
  have h2:=W.l32
  unfold lpsN
  rw[Qw];omega
theorem lps32 {g:List Nd}{l d:List Int}{dm:List (Int×Int)}(W:Whole g l d dm):(lpsN g).length≤32:=by
 have H:=X1 (fun n:Nd=>decide (n.2.1=14)) g
 have I:=W.l32
 unfold lpsN
 rw[Qw];omega
theorem dp4 {g:List Nd}{l d:List Int}{dm:List (Int×Int)}(W:Whole g l d dm){p:Pl}{a:Int}(h:(p,a)∈spots g d):Dp g d p=a∧0≤a∧a≤4:=by
 have I:=nodup_S (d:=d) W.inc W.own
 refine⟨mget_mem I h,?_⟩
 have: ∀(i:Nat) (l:List Nd) (sp:Sp),sp∈spotsF g d i l→0≤sp.2∧sp.2≤4:=by
  intro i l
  induction l generalizing i with
  |nil=>intro sp h;cases h
  |cons n r J=>
   intro sp h
   unfold spotsF at h
   rcases Qn.1 h with h|h
   ·have: ∀(k:Nat) (l:List Int),sp∈insS g d n.1 k l→0≤sp.2∧sp.2≤4:=by
     intro k l
     induction l generalizing k with
     |nil=>intro h;cases h
     |cons y r H=>
      intro h
      unfold insS at h
      rcases Qk.1 h with rfl|h
      ·exact W.inb _
      ·exact H (k+1) h
    exact this _ _ h
   ·rcases Qn.1 h with h|h
    ·unfold outS at h
     split at h
     ·rw[Qj]at h;subst h;exact W.inb _
     ·cases h
    ·exact J (i+1) sp h
 exact this 0 g (p,a) h
def GN (g:List Nd)(d:List Int)(p q:Pl)(s:Sm):Prop:=GS (dpN g d p) (dpN g d q) s
def sumE (dep:Pl→Nat)(e:PE):Sm:=((dep e.src:Int),(e.op.keep:Int),e.op.add,(e.op.zeros:Int),(0,0,0,0))
def thnN (g:List Nd)(d:List Int)(e:PE)(s:Sm):Option Sm:=if thV s (sumE (dpN g d) e)≤1048576 then some (thW s (sumE (dpN g d) e))else none
theorem sum_eq {g:List Nd}{d:List Int}{e:Ed}(h:EF g d e):sumE (dpN g d) (eNt e)=e.2.2:=by
 have O:=h.src
 unfold sumE eNt dpN opS
 simp only
 have J:((Dp g d e.1).toNat:Int)=Dp g d e.1:=by omega
 rcases h.form with⟨H,I⟩|⟨H,_,I⟩|⟨H,_,I⟩|⟨H,_,I⟩<;>rw[H]<;>simp only[J]
 ·rfl
 ·rfl
 ·rw[show(((Dp g d e.1)-1).toNat:Int)=Dp g d e.1-1 by omega];rfl
 ·rfl
theorem Qih {g:List Nd}{d:List Int}{e:Ed}(h:EF g d e){p:Pl}{s:Sm}(I:GN g d p e.1 s):ThOk s e.2.2 (Dp g d e.2.1):=by
 have J:=h.src
 obtain⟨o,O,H⟩:=I
 unfold dpN at H
 exact then_form o (by rw[H];omega) h.form
theorem syN {g:List Nd}{l d:List Int}{dm:List (Int×Int)}(W:Whole g l d dm):Pth.Sy (EN g d) ctr ltS (GN g d) (thnN g d) where
 lin:=linS
 inj ha hb h:=ctr_inj ha hb h
 ok h:=o_b5 h.1
 some he hs h:=by
  obtain⟨e,hE,rfl⟩:=Qv.1 he
  have R:=Qao W hE
  have T:=Qih R hs
  have h4:=R.tgt
  unfold thnN at h
  rw[sum_eq R]at h
  split at h
  ·rename_i hv
   obtain rfl:=Qq h
   refine⟨⟨T.ok.2 (by omega),by rw[T.from_];exact hs.2.1,?_⟩,?_⟩
   ·rw[T.ends]
    show Dp g d e.2.1=((Dp g d e.2.1).toNat:Int)
    omega
   ·show(opS e.2.2).app _=_
    rw[T.app,if_pos hv]
  ·cases h
 none he hs h:=by
  obtain⟨e,hE,rfl⟩:=Qv.1 he
  have R:=Qao W hE
  have T:=Qih R hs
  unfold thnN at h
  rw[sum_eq R]at h
  split at h
  ·cases h
  ·rename_i hv
   show(opS e.2.2).app _=_
   rw[T.app,if_neg hv]
theorem Qhu {g:List Nd}{l d:List Int}{dm:List (Int×Int)}(W:Whole g l d dm){e:Ed}(I:e∈edges g d){p:Pl}{s:Sm}(J:GN g d p e.1 s):
  (∃m,thnN g d (eNt e) s=some m∧F.bC s e.2.2=some (m,0)∧F.ci s e.2.2=some (m,0))∨(thnN g d (eNt e) s=none∧∃z,F.bC s e.2.2=some (z,12)∧F.ci s e.2.2=some (z,12)):=by
 have R:=Qao W I
 have T:=Qih R J
 unfold thnN
 rw[sum_eq R,T.prog,T.ref]
 by_cases H:thV s e.2.2≤1048576
 ·rw[if_pos H,if_neg (by omega),o_f (T.ok.2 (by omega)),Qa,if_neg (by decide)]
  exact .inl ⟨_,rfl,rfl,rfl⟩
 ·rw[if_neg H,if_pos (by omega),Check_no (fun h=>T.ok.1 h (by omega)),Qa,if_pos (by decide)]
  exact .inr ⟨rfl,_,rfl,rfl⟩
theorem o_b1 {g:List Nd}{l d:List Int}{dm:List (Int×Int)}(W:Whole g l d dm){p:Pl}{x:Int}(h:(p,x)∈spots g d):F.c9 x=some (idP x)∧F.ek x=some (idP x)∧idP x=((x,x,0,0,(0,0,0,0)),0)∧GN g d p p (idP x).1∧ctr (idP x).1=i0N g d p:=by
 obtain⟨H,I⟩:=dp4 W h
 have e:idP x=((x,x,0,0,(0,0,0,0)),0):=by unfold idP Qbl;rw[if_neg (by omega)]
 refine⟨Id_eqP x I,Id_eqR x I,e,⟨by rw[e];exact Qam.2 (by omega),?_,?_⟩,?_⟩
 ·rw[e];unfold dpN;rw[H];show x=_;omega
 ·rw[e];unfold dpN;rw[H];show x+0=_;omega
 ·rw[e]
  unfold i0N dpN
  rw[H]
  exact five (P:=fun x=>ctr (x,x,0,0,(0,0,0,0))=List.replicate x.toNat (true,0)) rfl rfl rfl rfl rfl x I
theorem leC_t {x y:Pth.Ctr}(h:x.1=true∧y.1=false):Pth.leC x y↔y.2=1048576:=by unfold Pth.leC;rw[if_pos h]
theorem leC_f {x y:Pth.Ctr}(h: ¬(x.1=true∧y.1=false)):Pth.leC x y↔x.2≤y.2:=by unfold Pth.leC;rw[if_neg h]
theorem all_le {α:Type}(f g:α→Pth.Ctr)(l:List α):(l.all fun i=>decide (Pth.leC (f i) (g i)))=decide (Pth.le (l.map f) (l.map g)):=by
 rw[Y4,Qy,decide_eq_true_iff,Pth.le_map]
 simp only[decide_eq_true_eq]
theorem cg_ix {s:Sm}(h:OkS s){i:Nat}(hi:i<4):(s.2.1≤(i:Int)→∃x,A.ix [s.2.2.2.2.1,s.2.2.2.2.2.1,s.2.2.2.2.2.2.1,s.2.2.2.2.2.2.2] ((i:Int)-s.2.1)=some x∧cg s i=(false,x))∧((i:Int)<s.2.1→cg s i=(true,if(i:Int)=s.2.1-1 then s.2.2.1 else 0)):=by
 have hk:=h.k
 constructor
 ·intro I
  obtain⟨x,O,H⟩:=ix4 (a:=s.2.2.2.2.1) (b:=s.2.2.2.2.2.1) (c:=s.2.2.2.2.2.2.1) (d:=s.2.2.2.2.2.2.2) (i:=(i:Int)-s.2.1) (by omega)
  refine⟨x,O,?_⟩
  unfold cg
  rw[if_neg (by omega),Jb]
  have e:i-s.2.1.toNat=((i:Int)-s.2.1).toNat:=by omega
  rw[e]
  show(false,([s.2.2.2.2.1,s.2.2.2.2.2.1,s.2.2.2.2.2.2.1,s.2.2.2.2.2.2.2][((i:Int)-s.2.1).toNat]?).getD 0)=_
  rw[H];rfl
 ·intro I
  unfold cg
  rw[if_pos I]
  by_cases J:(i:Int)=s.2.1-1
  ·rw[if_pos J,if_pos (by omega)]
  ·rw[if_neg J,if_neg (by omega)]
theorem leq_ix {a b:Sm}(ha:OkS a)(hb:OkS b){i:Nat}(hi:i<4):F.es a b (i:Int)=some (decide (Pth.leC (cg a i) (cg b i))):=by
 have ak:=ha.k
 have af:=ha.f
 have bk:=hb.k
 have bf:=hb.f
 obtain⟨a1,a2⟩:=cg_ix ha hi
 obtain⟨b1,b2⟩:=cg_ix hb hi
 have gj: ∀x y:Int,(cg a i).2=x→(cg b i).2=y→F.dF a b (i:Int) x y=some (decide (Pth.leC (cg a i) (cg b i))):=fun x y J hy=>by
  unfold F.dF
  rw[A.ba]
  have e:((i:Int)<a.2.1∧b.2.1≤(i:Int))↔((cg a i).1=true∧(cg b i).1=false):=by
   by_cases I:(i:Int)<a.2.1
   ·rw[a2 I]
    by_cases H:(i:Int)<b.2.1
    ·rw[b2 H];simp;omega
    ·obtain⟨z,_,hz⟩:=b1 (by omega)
     rw[hz];simp;omega
   ·obtain⟨z,_,hz⟩:=a1 (by omega)
    rw[hz];simp;omega
  rw[←J,←hy]
  by_cases h:(i:Int)<a.2.1∧b.2.1≤(i:Int)
  ·rw[if_pos (decide_eq_true h)];exact congrArg some (decide_eq_decide.2 (leC_t (e.1 h)).symm)
  ·rw[if_neg (by rw[decide_eq_true_iff];exact h)];exact congrArg some (decide_eq_decide.2 (leC_f (fun H=>h (e.2 H))).symm)
 have g2: ∀x v:Int,(cg a i).2=x→((i:Int)<b.2.1→v=if(i:Int)=b.2.1-1 then b.2.2.1 else 0)→F.dG a b (i:Int) v x=some (decide (Pth.leC (cg a i) (cg b i))):=fun x v J O=>by
  unfold F.dG
  by_cases h:b.2.1≤(i:Int)
  ·obtain⟨y,I,H⟩:=b1 h
   rw[if_pos h,A.gd1 ⟨by omega,by omega⟩,I,Qa]
   exact gj _ _ J (by rw[H])
  ·rw[if_neg h]
   exact gj _ _ J (by rw[b2 (by omega),O (by omega)])
 have g3: ∀u v:Int,((i:Int)<a.2.1→u=if(i:Int)=a.2.1-1 then a.2.2.1 else 0)→((i:Int)<b.2.1→v=if(i:Int)=b.2.1-1 then b.2.2.1 else 0)→F.dH a b (i:Int) u v=some (decide (Pth.leC (cg a i) (cg b i))):=fun u v hu O=>by
  unfold F.dH
  by_cases h:a.2.1≤(i:Int)
  ·obtain⟨x,I,H⟩:=a1 h
   rw[if_pos h,A.gd1 ⟨by omega,by omega⟩,I,Qa]
   exact g2 _ _ (by rw[H]) O
  ·rw[if_neg h]
   exact g2 _ _ (by rw[a2 (by omega),hu (by omega)]) O
 have g4: ∀u:Int,((i:Int)<a.2.1→u=if(i:Int)=a.2.1-1 then a.2.2.1 else 0)→F.dI a b (i:Int) u=some (decide (Pth.leC (cg a i) (cg b i))):=fun u hu=>by
  unfold F.dI
  rw[A.gd1 ⟨by omega,by omega⟩]
  by_cases h:(i:Int)=b.2.1-1
  ·rw[if_pos h];exact g3 _ _ hu fun _=>(if_pos h).symm
  ·rw[if_neg h];exact g3 _ _ hu fun _=>(if_neg h).symm
 unfold F.es
 rw[A.gd1 ⟨by omega,by omega⟩]
 by_cases h:(i:Int)=a.2.1-1
 ·rw[if_pos h];exact g4 _ fun _=>(if_pos h).symm
 ·rw[if_neg h];exact g4 _ fun _=>(if_neg h).symm
theorem Leq_R {x y:Int}{a b:Sm}(I:GS x y a)(J:GS x y b):F.et a b=some (decide (Pth.le (ctr a) (ctr b))):=by
 obtain⟨oa,fa,ea⟩:=I
 obtain⟨ob,fb,eb⟩:=J
 have ak:=oa.k
 have an:=oa.n
 have akn:=oa.kn
 have bk:=ob.k
 have bn:=ob.n
 have loop:=A.lp0 (List.range (a.2.1+a.2.2.2.1).toNat) (fun f z=>F.c0 a b f z) (fun k l=>some (l.all fun i=>decide (Pth.leC (cg a i) (cg b i))))
  (fun f=>by
   rw[Xz,F.c0,A.gd1 ⟨by omega,by omega⟩,if_neg (by omega)];rfl)
  (fun f k i H hk O=>by
   rw[Xz]at hk
   rw[Yo hk]at H
   obtain rfl:k=i:=Qq H
   rw[F.c0,A.gd1 ⟨by omega,by omega⟩,if_pos (by omega),show F.es (_,_,_,_,(_,_,_,_)) (_,_,_,_,(_,_,_,_)) (k:Int)=_ from leq_ix oa ob (i:=k) (by omega),Qa,Xu]
   cases hd:decide (Pth.leC (cg a k) (cg b k))with
   |false=>rfl
   |true=>rw[if_neg (by decide),A.gd1 (A.r64n (by omega)),O,Xm])
  (by rw[Xz];have:=Qab;omega)
 rw[all_le]at loop
 unfold F.et F.d9
 rw[show F.ac (_,_,_,_,(_,_,_,_))=some 0 from o_f oa,Qa,if_neg (by decide),show F.ac (_,_,_,_,(_,_,_,_))=some 0 from o_f ob,Qa,A.gd1 ⟨fun _=>⟨by omega,by omega⟩,fun _=>⟨by omega,by omega⟩⟩]
 simp only[ne_eq,not_true_eq_false,decide_false,cond_false,fa,fb,ea,eb,Qz,if_false]
 rw[loop]
 unfold ctr
 rw[ea,eb]
theorem Qef {b:Sm}(J:OkS b):F.aY b=some ((List.range (b.2.1+b.2.2.2.1).toNat).map fun(i:Nat)=>((i:Int),cg b i)):=by
 have bk:=J.k
 have bn:=J.n
 have bkn:=J.kn
 unfold F.aY
 rw[A.gd1 ⟨by omega,by omega⟩]
 exact A.lp0 (List.range (b.2.1+b.2.2.2.1).toNat) (fun f z=>F.ah b f z) (fun k l=>some (l.map fun(i:Nat)=>((i:Int),cg b i)))
  (fun f=>by rw[Xz,F.ah,if_neg (by omega)];rfl)
  (fun f k i hi hk ih=>by
   rw[Xz]at hk
   rw[Yo hk]at hi
   obtain rfl:k=i:=Qq hi
   obtain⟨b1,b2⟩:=cg_ix J (i:=k) (by omega)
   have go: ∀v:Int,cg b k=(decide ((k:Int)<b.2.1),v)→F.aT (F.ah b f) b (k:Int) v=some ((k::(List.range (b.2.1+b.2.2.2.1).toNat).drop (k+1)).map fun(i:Nat)=>((i:Int),cg b i)):=fun v hv=>by
    unfold F.aT
    rw[A.gd1 (A.r64n (by omega)),ih,Q3,hv];rfl
   rw[F.ah,if_pos (by omega),A.gd1 ⟨by omega,by omega⟩]
   by_cases O:(k:Int)<b.2.1
   ·have H:=b2 O
    by_cases I:(k:Int)=b.2.1-1
    ·rw[if_pos I]
     rw[if_pos I]at H
     exact go _ (by rw[H,decide_eq_true O])
    ·rw[if_neg I,if_neg (by omega)]
     rw[if_neg I]at H
     exact go _ (by rw[H,decide_eq_true O])
   ·obtain⟨z,H,I⟩:=b1 (by omega)
    rw[if_neg (by omega),if_pos (by omega),A.gd1 ⟨by omega,by omega⟩,H,Qa]
    exact go _ (by rw[I,decide_eq_false O]))
  (by rw[Xz];have:=Qab;omega)
theorem leqP_l2 {a b:Sm}{xs:List Pth.Ctr}(J:xs.length=4): ∀(l:List Nat),(∀i∈l,xs[i]?=some (cg b i))→F.bG xs (l.map fun(i:Nat)=>((i:Int),cg a i))=some (l.all fun i=>decide (Pth.leC (cg a i) (cg b i)))
 | [],_=>rfl
 |i::l,h=>by
  have ih:=leqP_l2 (a:=a) (b:=b) J l fun j O=>h j (Qe _ O)
  have hi:=A.ixn (h i (Qf ..))
  rw[Q3,F.bG,Xu]
  have tail: ∀t:Bool,(some ((if t=true then false else true)&&l.all fun i=>decide (Pth.leC (cg a i) (cg b i))):Option Bool)=if t=true then some false else some (l.all fun i=>decide (Pth.leC (cg a i) (cg b i))):=fun t=>by cases t<;>rfl
  have O: ∀y:Bool,(y=true↔((cg a i).1=true∧(cg b i).1=false))→F.dc (F.bG xs (l.map fun(i:Nat)=>((i:Int),cg a i))) xs ((i:Int),cg a i) y=some (decide (Pth.leC (cg a i) (cg b i))&&l.all fun i=>decide (Pth.leC (cg a i) (cg b i))):=fun y hy=>by
   unfold F.dc
   rw[A.gd1 J.symm,A.gd1 J.symm,hi,Qa,Qa,ih]
   by_cases H:y=true
   ·rw[if_pos H]
    by_cases I:(cg b i).2=1048576
    ·rw[if_neg (fun h=>h I),decide_eq_true ((leC_t (hy.1 H)).2 I)];rfl
    ·rw[if_pos I,decide_eq_false (fun h=>I ((leC_t (hy.1 H)).1 h))];rfl
   ·rw[if_neg H]
    have hn: ¬((cg a i).1=true∧(cg b i).1=false):=fun h=>H (hy.2 h)
    by_cases I:(cg b i).2<(cg a i).2
    ·rw[if_pos I,decide_eq_false (fun h=>by have:=(leC_f hn).1 h;omega)];rfl
    ·rw[if_neg I,decide_eq_true ((leC_f hn).2 (by omega))];rfl
  by_cases H:(cg a i).1=true
  ·rw[if_pos H,A.gd1 J.symm,hi,Qa]
   exact O _ (by rw[H];simp)
  ·rw[if_neg H]
   exact O _ (by simp[H])
theorem leqP_l3 {a b:Sm}(O:OkS a)(m:Nat)(hm:(a.2.1+a.2.2.2.1).toNat=m)(hm4:m≤4): ∀(n k:Nat) (xs:List Pth.Ctr),k+n=m→xs.length=4→(∀j,j<k→xs[j]?=some (cg b j))→
  F.co a ((List.range' k n).map fun(i:Nat)=>((i:Int),cg b i)) xs=some (decide (Pth.le ((List.range m).map (cg a)) ((List.range m).map (cg b)))):=by
 intro n
 induction n with
 |zero=>
  intro k xs hk I h
  rw[List.range'_zero,Xr,F.co,show F.cz (_,_,_,_,(_,_,_,_))=some a from rfl,Qa,show F.aY (_,_,_,_,(_,_,_,_))=_ from Qef O,Qa,hm]
  rw[leqP_l2 (b:=b) I _ fun i hi=>h i (by have:=Xg.1 hi;omega),all_le]
 |succ n ih=>
  intro k xs hk I h
  have J:xs[k]?=some xs[k]:=Qd (by omega)
  rw[List.range'_succ,Q3,F.co,A.gd1 I.symm,A.ixn J,Qa]
  refine ih (k+1) _ (by omega) (by rw[W5];exact I) fun j hj=>?_
  show(xs.set ((k:Int)).toNat (cg b k))[j]?=_
  rw[Qs,Y9]
  by_cases H:k=j
  ·subst H;rw[if_pos rfl,if_pos (by omega)]
  ·rw[if_neg H];exact h j (by omega)
theorem Leq_P {x y:Int}{a b:Sm}(H:GS x y a)(I:GS x y b):F.dl a b=some (decide (Pth.le (ctr a) (ctr b))):=by
 obtain⟨oa,fa,ea⟩:=H
 obtain⟨ob,fb,eb⟩:=I
 have ak:=oa.k
 have an:=oa.n
 have akn:=oa.kn
 have bk:=ob.k
 have bn:=ob.n
 unfold F.dl F.dO
 rw[show F.az (_,_,_,_,(_,_,_,_))=some true from o_s oa,Qa,if_neg (by decide),show F.az (_,_,_,_,(_,_,_,_))=some true from o_s ob,Qa,A.gd1 ⟨fun _=>⟨by omega,by omega⟩,fun _=>⟨by omega,by omega⟩⟩]
 rw[show(bif bif !true then true else decide (a.1≠b.1)then true else decide (a.2.1+a.2.2.2.1≠b.2.1+b.2.2.2.1))=false from by simp[fa,fb,ea,eb],if_neg (by decide),show F.cz (_,_,_,_,(_,_,_,_))=some b from rfl,Qa,show F.aY (_,_,_,_,(_,_,_,_))=_ from Qef ob,Qa,eb,List.range_eq_range']
 refine(leqP_l3 oa y.toNat (by rw[ea]) (by omega) y.toNat 0 _ (by omega) rfl (fun j J=>absurd J (by omega))).trans ?_
 unfold ctr
 rw[ea,eb]
def lexC:List Int→List Int→Int
 |x::a,y::b=>if x<y then-1 else if y<x then 1 else lexC a b
 |_,_=>0
theorem lexC_lt: ∀(a b:List Int),lexC a b<0↔Pth.ltL a b
 |x::a,y::b=>by
  unfold lexC Pth.ltL
  by_cases H:x<y
  ·rw[if_pos H];exact⟨fun _=>.inl H,fun _=>by decide⟩
  rw[if_neg H]
  by_cases I:y<x
  ·rw[if_pos I];exact⟨fun h=>absurd h (by decide),fun h=>h.elim (fun h=>absurd h H) fun h=>by omega⟩
  rw[if_neg I,lexC_lt a b]
  exact⟨fun h=>.inr ⟨by omega,h⟩,fun h=>h.elim (fun h=>absurd h H) fun h=>h.2⟩
 | [],b=>by cases b<;>exact⟨fun h=>absurd h (by simp[lexC]),fun h=>h.elim⟩
 |x::a,[]=>⟨fun h=>absurd h (by simp[lexC]),fun h=>h.elim⟩
theorem Cmp64_eq (a b:Int):F.bU a b=some (cmpI a b):=by
 unfold F.bU F.cB cmpI
 simp only[Qa,ne_eq,not_true_eq_false,decide_false,Qz,if_false]
 split
 ·rfl
 ·split<;>rfl
theorem CompareI (a b:List Int)(h:a.length=b.length)(hl:a.length≤100):F.bs a b=some (lexC a b):=by
 have:=A.lp0 a (fun f z=>F.av a b f z) (fun k l=>some (lexC l (b.drop k)))
  (fun f=>by rw[F.av,if_neg (by omega),if_neg (by omega)];rfl)
  (fun f k x O hk ih=>by
   have J:b[k]?=some b[k]:=Qd (by omega)
   rw[F.av,if_pos (by omega),A.ixn O,Qa,if_neg (by omega),A.ixn J,Qa,Cmp64_eq,Qa,A.gd1 (A.r64n (by omega)),ih,A.dropx J,lexC]
   unfold cmpI
   by_cases H:x<b[k]
   ·rw[if_pos H,if_pos H,if_pos (by decide)]
   rw[if_neg H,if_neg H]
   by_cases I:b[k]<x
   ·rw[if_pos I,if_pos I,if_pos (by decide)]
   ·rw[if_neg I,if_neg I,if_neg (by decide)])
  (by have:=Qab;omega)
 rw[Wa]at this
 exact this
theorem Qdf (a b:Sm):F.aU a b=some (lexC (ints a) (ints b)):=by
 have st: ∀(x y:Int) (r:List Int) (u v:List Int) (z:Option Int),(x=y→(if orF r≠0 then some (orF r)else z)=some (lexC u v))→(if orF (cmpI x y::r)≠0 then some (orF (cmpI x y::r))else z)=some (lexC (x::u) (y::v)):=fun x y r u v z h=>by
  have J:orF (cmpI x y::r)=if cmpI x y≠0 then cmpI x y else orF r:=rfl
  have O:lexC (x::u) (y::v)=if x<y then-1 else if y<x then 1 else lexC u v:=rfl
  rcases Int.lt_trichotomy x y with H|H|H
  ·have e:cmpI x y= -1:=by unfold cmpI;rw[if_pos H]
   have I:orF (cmpI x y::r)= -1:=by rw[J,e];rfl
   rw[I,O,if_pos H,if_pos (show(-1:Int)≠0 by decide)]
  ·have I:orF (cmpI x y::r)=orF r:=by rw[J,H,Qch];rfl
   rw[I,O,if_neg (show ¬x<y by omega),if_neg (show ¬y<x by omega)];exact h H
  ·have I:orF (cmpI x y::r)=1:=by rw[J,Qig H];rfl
   rw[I,O,if_neg (show ¬x<y by omega),if_pos H,if_pos (show(1:Int)≠0 by decide)]
 unfold F.aU
 rw[Qdn,Qa,Qdn,Qa,Cmp64_eq,Qa,Qdn,Qa,Or_eq _ (by simp),Qa,CompareI _ _ (by simp) (by simp),Qa]
 exact st _ _ _ _ _ _ fun _=>st _ _ _ _ _ _ fun _=>st _ _ _ _ _ _ fun _=>st _ _ _ _ _ _ fun _=>by rw[orF,if_neg (fun h=>h rfl)]
instance decLess: ∀a b:Sm,Decidable (Pth.less ctr ltS a b):=fun a b=>inferInstanceAs (Decidable (Pth.le (ctr a) (ctr b)∧(¬Pth.le (ctr b) (ctr a)∨ltS a b)))
theorem cmp_lt (a b:Sm):decide (lexC (ints a) (ints b)<0)=decide (ltS a b):=decide_eq_decide.2 (lexC_lt _ _)
theorem less_P {x y:Int}{a b:Sm}(O:GS x y a)(hb:GS x y b):F.dW a b=some (decide (Pth.less ctr ltS a b)):=by
 unfold F.dW F.cs
 by_cases J:a=b
 ·rw[if_neg (fun h=>h J),decide_eq_false (by rw[J];exact Pth.less_irr linS _)]
 rw[if_pos J,show F.dl (_,_,_,_,(_,_,_,_)) (_,_,_,_,(_,_,_,_))=_ from Leq_P O hb,Qa]
 by_cases H:Pth.le (ctr a) (ctr b)
 ·rw[if_pos (decide_eq_true H),show F.dl (_,_,_,_,(_,_,_,_)) (_,_,_,_,(_,_,_,_))=_ from Leq_P hb O,Qa]
  by_cases I:Pth.le (ctr b) (ctr a)
  ·rw[if_neg (by rw[decide_eq_true I];decide),show F.aU (_,_,_,_,(_,_,_,_)) (_,_,_,_,(_,_,_,_))=_ from Qdf a b,Qa,cmp_lt]
   congr 1;rw[decide_eq_decide]
   exact⟨fun h=>⟨H,.inr h⟩,fun h=>h.2.resolve_left fun h3=>h3 I⟩
  ·rw[if_pos (by rw[decide_eq_false I];rfl),decide_eq_true (p:=Pth.less ctr ltS a b) ⟨H,.inl I⟩]
 ·rw[if_neg (by rw[decide_eq_true_iff];exact H),decide_eq_false (fun h=>H h.1)]
abbrev rlS (a b:Sm):Bool:=decide (ltS a b)
def cpF:Sm→List Sm→List Sm
 |_,[]=>[]
 |p,x::l=>if x=p then cpF p l else x::cpF x l
def cpS:List Sm→List Sm
 | []=>[]
 |p::t=>p::cpF p t
theorem Qii: ∀{l:List Sm} {p r:Sm},r∈p::cpF p l↔r∈p::l
 | [],p,r=>by simp[cpF]
 |x::l,p,r=>by
  unfold cpF
  by_cases h:x=p
  ·subst h
   rw[if_pos rfl,Qii];simp
  ·rw[if_neg h,Qk,Qii,Qk,Qk,Qk]
theorem cpF_pw: ∀{l:List Sm} {p:Sm},(p::l).Pairwise (fun a b=>rlS b a=false)→(p::cpF p l).Pairwise ltS
 | [],p,_=>Yi ..
 |x::l,p,h=>by
  obtain⟨h1,J⟩:=Wv.1 h
  unfold cpF
  by_cases e:x=p
  ·subst e
   rw[if_pos rfl]
   exact cpF_pw J
  ·rw[if_neg e]
   have O:=cpF_pw J
   have H:ltS p x:=(linS.tri p x fun h=>e h.symm).resolve_right (of_decide_eq_false (h1 x (Qf ..)))
   refine Wv.2 ⟨fun b I=>?_,O⟩
   rcases Qk.1 I with rfl|I
   ·exact H
   ·exact linS.tr _ _ _ H ((Wv.1 O).1 b I)
theorem o_b6 {l:List Sm}(h:l.Pairwise (fun a b=>rlS b a=false)):(cpS l).Pairwise ltS∧∀s,s∈cpS l↔s∈l:=by
 cases l with
 |nil=>exact⟨List.Pairwise.nil,fun s=>Iff.rfl⟩
 |cons p t=>exact⟨cpF_pw h,fun s=>Qii⟩
theorem CompactS (l:List Sm)(hl:l.length≤1000000000):F.ao l=some (cpS l):=by
 have hFU:=Qab
 rw[F.ao]
 by_cases h2:l.length<2
 ·rw[if_pos (by omega)]
  cases l with
  |nil=>rfl
  |cons p t=>
   have:t=[]:=by cases t with
    |nil=>rfl
    |cons a b=>simp only[Qh]at h2;omega
   subst this
   rfl
 ·rw[if_neg (by omega)]
  have second: ∀(k:Nat) (hk:k<l.length),1≤k→∀(q j f i:Nat) (xs:List Sm) (p:Sm),k+j+q=l.length→q<f→1≤j→k≤i→i≤k+j-1→xs.length=l.length→xs.drop (k+j-1)=l.drop (k+j-1)→l[k+j-1]?=some p→
    F.r l (k:Int) f xs (i:Int) (j:Int)=some (xs.take i++cpF p (l.drop (k+j))):=by
   intro k hk hk1 q
   induction q with
   |zero=>
    intro j f i xs p hq O hj hi hij hx I hp
    obtain⟨f,rfl⟩: ∃f',f=f'+1:=⟨f-1,by omega⟩
    rw[F.r,if_neg (by omega),A.gd1 ⟨by omega,by omega⟩,A.gd1 ⟨by omega,by simp;omega⟩,Qs,Xy (by rw[Qt];omega),List.take_take,Nat.min_self,Q2 (by omega)]
    simp[cpF]
   |succ q J=>
    intro j f i xs p hq O hj hi hij hx I hp
    obtain⟨f,rfl⟩: ∃f',f=f'+1:=⟨f-1,by omega⟩
    obtain⟨y,H⟩: ∃y,l[k+j]?=some y:=⟨_,Qd (by omega)⟩
    have gx: ∀t,k+j-1≤t→xs[t]?=l[t]?:=fun t ht=>by
     have:=congrArg (fun z=>z[t-(k+j-1)]?) I
     simp only[Wd]at this
     rw[show k+j-1+(t-(k+j-1))=t by omega]at this
     exact this
    have y1:(xs.drop k)[j]?=some y:=by rw[Wd,gx _ (by omega)];exact H
    have y2:(xs.drop k)[j-1]?=some p:=by rw[Wd,gx _ (by omega),show k+(j-1)=k+j-1 by omega];exact hp
    have hxi:xs[i]?=some xs[i]:=Qd (by omega)
    have ej:(j:Int)-1=((j-1:Nat):Int):=by omega
    have ej1:(j:Int)+1=((j+1:Nat):Int):=by omega
    have ei1:(i:Int)+1=((i+1:Nat):Int):=by omega
    rw[F.r,if_pos (by omega),A.gd1 ⟨by omega,by omega⟩,Qs,A.gd1 (by omega),A.ixn y1,Qa,A.gd1 (by omega),ej,A.ixn y2,Qa,A.dropx H]
    show(if y≠p then _ else _)=some (xs.take i++cpF p (y::l.drop (k+j+1)))
    unfold cpF
    by_cases e:y=p
    ·rw[if_neg (fun h=>h e),if_pos e,F.aw,A.gd1 ⟨by omega,by omega⟩,ej1]
     exact J (j+1) f i xs p (by omega) (by omega) (by omega) hi (by omega) hx (by
      have:=congrArg (List.drop 1) I
      rw[X4,X4]at this
      rw[show k+(j+1)-1=k+j-1+1 by omega];exact this) (by rw[show k+(j+1)-1=k+j by omega,H,e])
    ·rw[if_pos e,if_neg e,A.gd1 (by omega),Qa,A.ixn hxi,Qa,A.gd1 ⟨by omega,by omega⟩,F.aw,A.gd1 ⟨by omega,by omega⟩,ej1,ei1,Qs]
     rw[J (j+1) f (i+1) (xs.set i y) y (by omega) (by omega) (by omega) (by omega) (by omega) (by rw[W5];exact hx) (by
      rw[List.drop_set_of_lt (by omega)]
      have:=congrArg (List.drop 1) I
      rw[X4,X4]at this
      rw[show k+(j+1)-1=k+j-1+1 by omega];exact this) (by rw[show k+(j+1)-1=k+j by omega,H])]
     have:(xs.set i y).take (i+1)=xs.take i++[y]:=by
      rw[Yk,Ys (by omega),List.take_set_of_le (by omega)];rfl
     rw[this,We];rfl
  have first: ∀(q k f:Nat) (p:Sm),k+q=l.length→q<f→1≤k→l[k-1]?=some p→F.z l f (k:Int)=some (l.take k++cpF p (l.drop k)):=by
   intro q
   induction q with
   |zero=>
    intro k f p hk O h1 hp
    obtain⟨f,rfl⟩: ∃f',f=f'+1:=⟨f-1,by omega⟩
    rw[F.z,if_neg (by omega),Q2 (by omega),W6 (by omega)];simp[cpF]
   |succ q J=>
    intro k f p hk O h1 hp
    obtain⟨f,rfl⟩: ∃f',f=f'+1:=⟨f-1,by omega⟩
    obtain⟨y,H⟩: ∃y,l[k]?=some y:=⟨_,Qd (by omega)⟩
    have ek:(k:Int)-1=((k-1:Nat):Int):=by omega
    rw[F.z,if_pos (by omega),A.gd1 ⟨by omega,by omega⟩,A.ixn H,Qa,ek,A.ixn hp,Qa]
    show(if y=p then _ else _)=_
    by_cases e:y=p
    ·rw[if_pos e,A.gd1 ⟨by omega,by omega⟩]
     have:=second k (by omega) h1 (l.length-(k+1)) 1 A.FU k l y (by omega) (by omega) (by omega) (by omega) (by omega) rfl rfl (by rw[show k+1-1=k by omega];exact H)
     refine this.trans ?_
     rw[A.dropx H]
     conv=>rhs;rw[cpF]
     rw[if_pos e,e]
    ·rw[if_neg e,A.gd1 ⟨by omega,by omega⟩,show(k:Int)+1=((k+1:Nat):Int) by omega,J (k+1) f y (by omega) (by omega) (by omega) (by rw[show k+1-1=k by omega];exact H),A.dropx H,Yk,H]
     conv=>rhs;rw[cpF]
     rw[if_neg e];simp
  obtain⟨p,t,rfl⟩: ∃p t,l=p::t:=by
   cases l with
   |nil=>simp at h2
   |cons p t=>exact⟨p,t,rfl⟩
  have:=first ((p::t).length -1) 1 A.FU p (by omega) (by omega) (by omega) rfl
  refine(show F.z (p::t) A.FU 1=_ from this).trans ?_
  rfl
theorem ordS (l:List Sm):A.ordB (fun x y=>F.aU x y) l=true∧A.cl0 (fun x y=>F.aU x y)=rlS∧A.OrdOn rlS l:=by
 have e:A.cl0 (fun x y=>F.aU x y)=rlS:=by
  funext a b
  show(match F.aU a b with|some c=>decide (c<0)|none=>false)=_
  rw[Qdf];exact cmp_lt a b
 have asy: ∀a b,rlS a b=true→rlS b a=false:=fun a b h=>decide_eq_false fun H=>linS.irr _ (linS.tr _ _ _ (of_decide_eq_true h) H)
 have tri: ∀a b,rlS a b=false→rlS b a=false→a=b:=fun a b I H=>Wb fun h=>(linS.tri a b h).elim (of_decide_eq_false I) (of_decide_eq_false H)
 have tr: ∀a b c,rlS a b=true→rlS b c=true→rlS a c=true:=fun a b c I H=>decide_eq_true (linS.tr _ _ _ (of_decide_eq_true I) (of_decide_eq_true H))
 refine⟨?_,e,fun x _ y _ h=>asy x y h,fun x _ y _ I H=>tri x y I H,fun x _ y _ z _ I H=>tr x y z I H⟩
 unfold A.ordB
 rw[Qy]
 intro x J
 rw[Qy]
 intro y O
 rw[e,Ql,Ql]
 refine⟨⟨by show(F.aU x y).isSome=true;rw[Qdf];rfl,?_⟩,?_⟩
 ·cases I:rlS x y with
  |true=>rw[asy x y I];rfl
  |false=>
   cases H:rlS y x with
   |true=>rfl
   |false=>rw[decide_eq_true (tri x y I H)];rfl
 ·rw[Qy]
  intro z hz
  cases I:rlS x y with
  |false=>rfl
  |true=>
   cases H:rlS y z with
   |false=>rfl
   |true=>rw[tr x y z I H];rfl
theorem sortSm (l:List Sm)(H:l.length≤1000000000): ∃r,((F.ab l).bind fun r=>(F.ao r).bind fun r=>some (r,(0:Int)))=some (r,0)∧r.Pairwise ltS∧∀s,s∈r↔s∈l:=by
 obtain⟨I,J,O⟩:=ordS l
 have hp:=A.srtL_perm rlS l
 obtain⟨h4,h5⟩:=o_b6 (A.srtL_pw O l fun a h=>h)
 refine⟨cpS (A.srtL rlS l),?_,h4,fun s=>(h5 s).trans hp.mem_iff⟩
 rw[F.ab,A.gd1 (by omega),A.srtF,if_pos I,Qa,J,CompactS _ (by rw[hp.length_eq];exact H)];rfl
theorem Qfl {x y:Int}(l:List Sm)(hl:l.length≤1000000000)(O: ∀s∈l,GS x y s){s:Sm}(hs:GS x y s):F.q l s=some (l.any fun u=>decide (Pth.less ctr ltS u s)):=by
 have h:=A.fst l (fun u=>decide (Pth.less ctr ltS u s)) (fun f z=>F.e l s f z)
  (fun f=>by rw[F.e,if_neg (by omega)])
  (fun f k u H hk=>by
   rw[F.e,if_pos (by omega),A.ixn H,Qa,F.d8]
   rw[show F.dW (_,_,_,_,(_,_,_,_)) (_,_,_,_,(_,_,_,_))=_ from less_P (O u (Qg H)) hs,Qa,Qa,A.gd1 (A.r64n (by omega))])
  (by have:=Qab;omega)
 unfold F.q F.ay
 rcases h with⟨I,J⟩|⟨k,u,I,J,h3,_⟩
 ·rw[show F.e l (_,_,_,_,(_,_,_,_)) A.FU 0=_ from I,Qa,Xq.2 fun u H=>by rw[J u H];decide];rfl
 ·rw[show F.e l (_,_,_,_,(_,_,_,_)) A.FU 0=_ from J,Qa,X9.2 ⟨u,Qg I,h3⟩,decide_eq_true (by omega)]
theorem Ends_P {x y:Int}{s:Sm}(h:GS x y s):F.cW s=some y:=by
 obtain⟨o,I,H⟩:=h
 have hk:=o.k
 have J:=o.n
 have O:=o.f
 unfold F.cW
 rw[show F.az (_,_,_,_,(_,_,_,_))=some true from o_s o,Qa,if_neg (by decide),A.gd1 ⟨by omega,by omega⟩,H]
theorem least_mem {x y:Int}{l r:List Sm}(H:r.Pairwise ltS)(I: ∀s,s∈r↔s∈l.filter fun s=> !(l.any fun u=>decide (Pth.less ctr ltS u s))):Pth.IsLst ctr ltS l r:=by
 refine⟨H,fun s=>(I s).trans ?_⟩
 rw[Yn,Xp,Xq]
 simp only[decide_eq_true_eq]
theorem Least_P {x y:Int}(l:List Sm)(hl:l.length≤1000000000)(J: ∀s∈l,GS x y s): ∃r,F.dD l=some (r,0)∧Pth.IsLst ctr ltS l r:=by
 have l3:=A.lp l (fun f (xs:List Sm) z=>F.a0 l f xs z) (fun k t xs=>((F.ab (xs++t.filter fun s=> !(l.any fun u=>decide (Pth.less ctr ltS u s)))).bind fun r=>(F.ao r).bind fun r=>some (r,(0:Int)))) (fun k xs=>xs.length≤k)
  (fun f xs hxs=>by rw[F.a0,if_neg (by omega),List.filter_nil,Wl])
  (fun f xs k s H hk hxs O=>by
   obtain⟨z,I⟩: ∃z,l[0]?=some z:=⟨_,Qd (by omega)⟩
   have hsl:=Qg H
   have g1:=J s hsl
   have g0:=J _ (Qg I)
   rw[F.a0,if_pos (by omega),A.ixn H,Qa,show A.ix l 0=some z from A.ixn (k:=0) I,Qa,if_neg (by rw[g1.2.1,g0.2.1];exact fun h=>h rfl),Qa]
   rw[show F.cW (_,_,_,_,(_,_,_,_))=_ from Ends_P g1,Qa,show F.cW (_,_,_,_,(_,_,_,_))=_ from Ends_P g0,Qa,decide_eq_false (fun h=>h rfl)]
   unfold F.c4 F.c3
   rw[if_neg (by decide),show F.q l (_,_,_,_,(_,_,_,_))=_ from Qfl l hl J g1,Qa,A.gd1 (A.r64n (by omega)),A.gd1 (A.r64n (by omega)),Xl]
   cases hb:(l.any fun u=>decide (Pth.less ctr ltS u s))with
   |true=>rw[if_neg (by decide),if_neg (by decide)];exact O _ (by omega)
   |false=>
    rw[if_pos (show(!false)=true from rfl),if_pos (show(!false)=true from rfl),A.gd1 (by rw[X2];omega),O _ (by rw[Qm,X2];omega),We]
    rfl)
  (by have:=Qab;omega) [] (by simp)
 have l4:=A.lp0 l (fun f z=>F.ch l f z) (fun k t=>F.a0 l A.FU [] 0)
  (fun f=>by rw[F.ch,if_neg (by omega)])
  (fun f k s H hk O=>by
   rw[F.ch,if_pos (by omega),A.ixn H,Qa,show F.az (_,_,_,_,(_,_,_,_))=some true from o_s (J s (Qg H)).1,Qa,if_neg (by decide),A.gd1 (A.r64n (by omega)),O])
  (by have:=Qab;omega)
 obtain⟨r,h1,h2,h3⟩:=sortSm (l.filter fun s=> !(l.any fun u=>decide (Pth.less ctr ltS u s))) (Wh (X1 _ _) hl)
 refine⟨r,?_,least_mem (x:=x) (y:=y) h2 h3⟩
 unfold F.dD
 rw[l4,l3,W8,h1]
abbrev Pth:=Pl×Pl×List Sm
theorem EqualS (a b:List Sm)(h:a.length≤1000000000):F.aG a b=some (decide (a=b)):=by
 unfold F.aG
 by_cases H:a.length=b.length
 ·rw[if_neg (by omega)]
  exact A.eql a b (fun f y=>F.aj a b f y) H (fun f=>by rw[F.aj,if_neg (by omega)])
   (fun f k x z I J hk=>by
    rw[F.aj,if_pos (by omega),A.ixn I,Qa,A.ixn J,Qa,A.gd1 (A.r64n (by omega))]
    by_cases e:x=z
    ·rw[if_neg (fun h=>h e),if_pos e]
    ·rw[if_pos e,if_neg e])
   (by have:=Qab;omega)
 ·rw[if_pos (by omega),decide_eq_false (fun e=>H (by rw[e]))]
def Tbl (l:List Pth):Prop:=l.length≤100000∧∀x∈l,x.2.2.length≤1000000000
def Qfy (p q:Pl):List Pth→List Sm
 | []=>[]
 |x::l=>if x.1=p∧x.2.1=q then x.2.2 else Qfy p q l
theorem Sums_P (l:List Pth)(p q:Pl)(h:Tbl l):F.cY l p q=some (Qfy p q l):=
 A.lp0 l (fun f y=>F.cf l p q f y) (fun _ l=>some (Qfy p q l))
  (fun f=>by rw[F.cf,if_neg (by omega)];rfl)
  (fun f k x I hk J=>by
   have hs:=h.2 x (Qg I)
   have O:=h.1
   rw[F.cf,if_pos (by omega),A.ixn I,Qa,Qfy,A.gd1 (A.r64n (by omega)),J]
   unfold F.ad
   rw[A.gd1 (by rw[Qx];omega),Qa,W8]
   by_cases H:x.1=p∧x.2.1=q
   ·rw[if_pos H,if_pos (show(x.1,x.2.1)=(p,q)from Jr H.1 H.2)]
   ·rw[if_neg H,if_neg (fun e:(x.1,x.2.1)=(p,q)=>H ⟨congrArg Prod.fst e,congrArg Prod.snd e⟩)])
  (by have:=Qab;have:=h.1;omega)
end Go.Proofs.YtlbnpmfggfbdoaaGreatDoor
end
section
namespace Go.A
theorem srtF_perm {α:Type}[DecidableEq α]{cmp:α→α→Option Int}{xs ys:List α}(h:ys.Perm xs)(H:ordB cmp xs=true):srtF cmp ys=some (srtL (cl0 cmp) xs):=by
 have key:ordB cmp ys=true:=by
  unfold ordB at H ⊢
  rw[Qy]at H ⊢
  intro x hx
  have J:=H x (h.mem_iff.1 hx)
  rw[Qy]at J ⊢
  intro y hy
  have I:=J y (h.mem_iff.1 hy)
  rw[Ql,Qy]at I ⊢
  exact⟨I.1,fun z hz=>I.2 z (h.mem_iff.1 hz)⟩
 unfold srtF
 rw[if_pos key]
 obtain⟨O,_⟩:=Qik H
 have hm: ∀a∈ys,a∈xs:=fun a ha=>h.mem_iff.1 ha
 rw[srt_uniq O ((srtL_perm (cl0 cmp) ys).trans h) (srtL_pw O ys hm)]
theorem dem_allK {α β γ:Type}[DecidableEq γ](m:List α)(g:α→β)(L:Nat→List Nat→List β→Option γ)(E:List β→Option γ)(K:Nat→List Nat→List β→Nat→α→Option γ)(r:γ)
  (hL: ∀f sn xs,L (f+1) sn xs=dem m sn (E xs) (K f sn xs)) (hK: ∀f sn xs i p,m[i]?=some p→xs.length<m.length→K f sn xs i p=L f (i::sn) (xs++[g p]))
  (hE: ∀ys,ys.Perm (m.map g)→E ys=some r) (hm:m.length<FU):L FU [] []=some r:=by
 have main: ∀(f:Nat) (sn:List Nat) (xs:List β),sn.Nodup→(∀i,i∈sn→i<m.length)→m.length<f+sn.length→xs.length=sn.length→xs.Perm ((sn.filterMap fun i=>m[i]?).map g)→L f sn xs=some r:=by
  intro f
  induction f with
  |zero=>intro sn xs J H h3;have:=Qea J H;omega
  |succ f ih=>
   intro sn xs J H h3 h4 h5
   have hsl:=Qea J H
   rw[hL]
   have dof: ∀{e:Option γ} {k:Nat→α→Option γ},((∀i,i<m.length→i∈sn)→e=some r)→(∀i p,m[i]?=some p→i∉sn→k i p=some r)→dem m sn e k=some r:=by
    intro e k J H
    unfold dem
    have hmem: ∀i,i∈(List.range m.length).filter (fun i=> !(sn.contains i))↔i<m.length∧i∉sn:=fun i=>by
     rw[Yn,Xg];simp
    split
    ·rename_i hl
     rw[hl]at hmem
     exact J fun i O=>Wb fun hn=>by have:=(hmem i).2 ⟨O,hn⟩;cases this
    ·rename_i i js hl
     rw[hl]at hmem
     have O:=(hmem i).1 (Qf ..)
     rw[Qd O.1,Qa,H i _ (Qd O.1) O.2,if_pos]
     rw[Qy]
     intro j I
     have I:=(hmem j).1 (Qe _ I)
     rw[Qd I.1,Qa,H j _ (Qd I.1) I.2]
     exact decide_eq_true rfl
   refine dof (fun hall=>hE xs (h5.trans ?_)) fun i p hp O=>?_
   ·refine List.Perm.map g ?_
    have hp:sn.Perm (List.range m.length):=by
     refine(List.perm_ext_iff_of_nodup J List.nodup_range).2 fun i=>?_
     rw[Xg];exact⟨H i,hall i⟩
    refine(hp.filterMap _).trans ?_
    have:(List.range m.length).filterMap (fun i=>m[i]?)=m:=by
     have e:(List.range m.length).filterMap (fun i=>m[i]?)=(List.range m.length).pmap (fun i h=>m[i]'h) (fun i h=>Xg.1 h):=by
      have: ∀(l:List Nat) (h: ∀i,i∈l→i<m.length),l.filterMap (fun i=>m[i]?)=l.pmap (fun i h=>m[i]'h) h:=by
       intro l
       induction l with
       |nil=>intro _;rfl
       |cons i l ih=>intro h;rw[List.filterMap_cons,Qd (h i (Qf ..)),List.pmap];simp only[];rw[ih fun j I=>h j (Qe _ I)]
      exact this _ _
     rw[e];exact List.ext_getElem (by simp) fun k J H=>by simp
    rw[this]
   ·have hlt:=(Qc.1 hp).1
    have hsn:(i::sn).Nodup:=Wk.2 ⟨O,J⟩
    have hsb: ∀j,j∈i::sn→j<m.length:=fun j I=>(Qk.1 I).elim (fun e=>e▸hlt) (H j)
    have hsl2:=Qea hsn hsb
    rw[Qh]at hsl2
    rw[hK f sn xs i p hp (by omega)]
    refine ih _ _ hsn hsb (by rw[Qh];omega) (by rw[Qm,h4];rfl) ?_
    rw[List.filterMap_cons,hp]
    simp only[Q3]
    exact(List.perm_append_comm (l₁:=xs) (l₂:=[g p])).trans (h5.cons (g p))
 exact main FU [] [] X5 (by simp) (by simpa using hm) rfl (List.Perm.refl _)
end Go.A
namespace Go.Proofs.YtlbnpmfggfbdoaaGreatDoor
open Go.RowKit Go.Graph
abbrev Ends:=Pl×Pl
abbrev Tab0:=List (Ends×List Sm)
def Qcv (p:Ends×List Sm):Pth:=(p.1.1,p.1.2,p.2)
theorem Qgq (m:Tab0)(hk: ∀p∈m,A.h6 p.1.1.1∧A.h6 p.1.1.2∧A.h6 p.1.2.1∧A.h6 p.1.2.2)(J: ∀p∈m,p.2≠[])(hl:m.length≤1000000)(O:A.ordB (fun x y=>F.aH x y) (m.map Qcv)=true):
  F.aC m A.FU [] []=some (A.srtL (A.cl0 fun x y=>F.aH x y) (m.map Qcv),0):=
 A.dem_allK m Qcv (fun f sn xs=>F.aC m f sn xs) (fun xs=>(F.ar xs).bind fun r=>some (r,0))
  (fun f sn xs i p=>A.gd (decide (A.h6 p.1.1.1)=true∧decide (A.h6 p.1.1.2)=true∧decide (A.h6 p.1.2.1)=true∧decide (A.h6 p.1.2.2)=true) (if(0:Int)<((p.2).length:Int)then(A.gd ((List.length (α:=Pth) xs+List.length (α:=Pth) [(p.1.1,p.1.2,p.2)])*56≤140737488355328) ((F.aC m f) (i::sn) (xs++[(p.1.1,p.1.2,p.2)])))else((F.aC m f) (i::sn) xs))) _
  (fun f sn xs=>by rw[F.aC])
  (fun f sn xs i p hp hx=>by
   have H:=Qg hp
   obtain⟨a,b,c,d⟩:=hk p H
   have h0:=List.length_pos_iff.2 (J p H)
   rw[A.gd1 ⟨decide_eq_true a,decide_eq_true b,decide_eq_true c,decide_eq_true d⟩,if_pos (by omega),A.gd1 (by rw[X2];omega)]
   rfl)
  (fun ys I=>by
   have hlen:=I.length_eq
   rw[Qw]at hlen
   unfold F.ar
   rw[A.gd1 (by omega),A.srtF_perm I O];rfl)
  (by have:=Qab;omega)
def g0_:List Nd:=[(1,1,[],(0,0,ByteArray.mk #[]),ByteArray.mk #[97],0,0),(2,2,[1],(1,0,ByteArray.mk #[]),ByteArray.mk #[],0,0),(3,15,[2],(0,0,ByteArray.mk #[]),ByteArray.mk #[98],0,0)]
def zz:List Sm:=[(0,0,0,0,(0,0,0,0))]
def sp0:List Sp:=[((1,2),0),((2,0),0),((2,2),0),((3,0),0)]
def zS:Sm:=(0,0,0,0,(0,0,0,0))
def ed0:List (Pl×Pl×Sm):=[((1,2),(2,0),zS),((2,0),(2,2),zS),((2,2),(3,0),zS)]
theorem spots0:F.b2 g0_=some (sp0,0):=by kernel_rfl
theorem edges0:F.cl g0_=some (ed0,0):=by kernel_rfl
def tb4:Tab0:=[(((1,2),(1,2)),zz),(((2,0),(2,0)),zz),(((2,2),(2,2)),zz),(((3,0),(3,0)),zz)]
def tb5:Tab0:=[(((1,2),(1,2)),zz),(((2,0),(2,0)),zz),(((2,2),(2,2)),zz),(((3,0),(3,0)),zz),(((1,2),(2,0)),zz)]
def tb6:Tab0:=[(((1,2),(1,2)),zz),(((2,0),(2,0)),zz),(((2,2),(2,2)),zz),(((3,0),(3,0)),zz),(((1,2),(2,0)),zz),(((1,2),(2,2)),zz)]
def tb7:Tab0:=[(((1,2),(1,2)),zz),(((2,0),(2,0)),zz),(((2,2),(2,2)),zz),(((3,0),(3,0)),zz),(((1,2),(2,0)),zz),(((1,2),(2,2)),zz),(((1,2),(3,0)),zz)]
def tb8:Tab0:=[(((1,2),(1,2)),zz),(((2,0),(2,0)),zz),(((2,2),(2,2)),zz),(((3,0),(3,0)),zz),(((1,2),(2,0)),zz),(((1,2),(2,2)),zz),(((1,2),(3,0)),zz),(((2,0),(2,2)),zz)]
def tb9:Tab0:=[(((1,2),(1,2)),zz),(((2,0),(2,0)),zz),(((2,2),(2,2)),zz),(((3,0),(3,0)),zz),(((1,2),(2,0)),zz),(((1,2),(2,2)),zz),(((1,2),(3,0)),zz),(((2,0),(2,2)),zz),(((2,0),(3,0)),zz)]
def tb10:Tab0:=[(((1,2),(1,2)),zz),(((2,0),(2,0)),zz),(((2,2),(2,2)),zz),(((3,0),(3,0)),zz),(((1,2),(2,0)),zz),(((1,2),(2,2)),zz),(((1,2),(3,0)),zz),(((2,0),(2,2)),zz),(((2,0),(3,0)),zz),(((2,2),(3,0)),zz)]
def ta0:Tab0:=[]
def ta1:Tab0:=[(((1,2),(1,2)),zz)]
def ta2:Tab0:=[(((1,2),(1,2)),zz),(((2,0),(2,0)),zz)]
def ta3:Tab0:=[(((1,2),(1,2)),zz),(((2,0),(2,0)),zz),(((2,2),(2,2)),zz)]
theorem id0:F.c9 0=some (zS,0):=by kernel_rfl
theorem init_step {f:Nat}{m m':Tab0}{y:Nat}{p:Pl}(hp:sp0[y]?=some (p,0))(H:F.ap m (p,p) [zS]=some (true,m')):F.aD (sp0,0) (ed0,0) (f+1) m (y:Int)=F.aD (sp0,0) (ed0,0) f m' ((y:Int)+1):=by
 have I:=(Qc.1 hp).1
 have J:sp0.length=4:=rfl
 rw[F.aD,if_pos (show(y:Int)<(sp0.length:Int) by omega),show A.ix ((sp0,0):List Sp×Int).1 (y:Int)=some (p,0)from A.ixn hp,Qa,show F.c9 ((p,0):Sp).2=some (zS,0)from id0,Qa]
 rw[show F.ap m (((((p,0):Sp).1.1),(((p,0):Sp).1.2)),((((p,0):Sp).1.1),(((p,0):Sp).1.2))) [(((zS,0):Sm×Int).1.1,((zS,0):Sm×Int).1.2.1,((zS,0):Sm×Int).1.2.2.1,((zS,0):Sm×Int).1.2.2.2.1,(((zS,0):Sm×Int).1.2.2.2.2.1,((zS,0):Sm×Int).1.2.2.2.2.2.1,((zS,0):Sm×Int).1.2.2.2.2.2.2.1,((zS,0):Sm×Int).1.2.2.2.2.2.2.2))]=some (true,m')from H,Qa,A.gd1 (A.r64n (by omega))]
theorem ad0:F.ap ta0 ((1,2),(1,2)) [zS]=some (true,ta1):=by kernel_rfl
theorem ad1:F.ap ta1 ((2,0),(2,0)) [zS]=some (true,ta2):=by kernel_rfl
theorem ad2:F.ap ta2 ((2,2),(2,2)) [zS]=some (true,ta3):=by kernel_rfl
theorem ad3:F.ap ta3 ((3,0),(3,0)) [zS]=some (true,tb4):=by kernel_rfl
theorem init0:F.aD (sp0,0) (ed0,0) A.FU [] 0=F.v (sp0,0) (ed0,0) A.FU tb4:=by
 obtain⟨n,H⟩: ∃n,A.FU=n+5:=⟨A.FU-5,by decide⟩
 rw[show F.aD (sp0,0) (ed0,0) A.FU [] 0=F.aD (sp0,0) (ed0,0) (n+5) ta0 ((0:Nat):Int) by rw[←H];rfl]
 rw[init_step (y:=0) rfl ad0]
 refine(init_step (y:=1) rfl ad1).trans ?_
 refine(init_step (y:=2) rfl ad2).trans ?_
 refine(init_step (y:=3) rfl ad3).trans ?_
 rw[F.aD,if_neg (by decide)]
theorem round4 (k:Tab0→Option ((List Pth)×Int)):F.k k (sp0,0) (ed0,0) A.FU tb4 0=k tb5:=by kernel_rfl
theorem round5 (k:Tab0→Option ((List Pth)×Int)):F.k k (sp0,0) (ed0,0) A.FU tb5 0=k tb6:=by kernel_rfl
theorem round6 (k:Tab0→Option ((List Pth)×Int)):F.k k (sp0,0) (ed0,0) A.FU tb6 0=k tb7:=by kernel_rfl
theorem round7 (k:Tab0→Option ((List Pth)×Int)):F.k k (sp0,0) (ed0,0) A.FU tb7 0=k tb8:=by kernel_rfl
theorem round8 (k:Tab0→Option ((List Pth)×Int)):F.k k (sp0,0) (ed0,0) A.FU tb8 0=k tb9:=by kernel_rfl
theorem round9 (k:Tab0→Option ((List Pth)×Int)):F.k k (sp0,0) (ed0,0) A.FU tb9 0=k tb10:=by kernel_rfl
theorem scan {f:Nat}{k:Tab0→Option ((List Pth)×Int)}{y:Nat}{x:Sp}(H:sp0[y]?=some x)(I: ∀k65,F.ai k k65 (ed0,0) (y:Int) x A.FU tb10 0=k65 tb10 ((y:Int)+1)):F.k k (sp0,0) (ed0,0) (f+1) tb10 (y:Int)=F.k k (sp0,0) (ed0,0) f tb10 ((y:Int)+1):=by
 have J:=(Qc.1 H).1
 have O:sp0.length=4:=rfl
 rw[F.k,if_pos (show(y:Int)<(sp0.length:Int) by omega),show A.ix ((sp0,0):List Sp×Int).1 (y:Int)=some x from A.ixn H,Qa,I]
theorem round10 (k:Tab0→Option ((List Pth)×Int)):F.k k (sp0,0) (ed0,0) A.FU tb10 0=F.aC tb10 A.FU [] []:=by
 obtain⟨n,H⟩: ∃n,A.FU=n+5:=⟨A.FU-5,by decide⟩
 have e:F.k k (sp0,0) (ed0,0) A.FU tb10 0=F.k k (sp0,0) (ed0,0) (n+5) tb10 ((0:Nat):Int):=by rw[←H];rfl
 rw[e,scan (y:=0) (x:=((1,2),0)) rfl (fun k65=>by kernel_rfl)]
 refine(scan (y:=1) (x:=((2,0),0)) rfl (fun k65=>by kernel_rfl)).trans ?_
 refine(scan (y:=2) (x:=((2,2),0)) rfl (fun k65=>by kernel_rfl)).trans ?_
 refine(scan (y:=3) (x:=((3,0),0)) rfl (fun k65=>by kernel_rfl)).trans ?_
 rw[F.k,if_neg (by decide)]
theorem table0:F.aX g0_=F.aC tb10 A.FU [] []:=by
 obtain⟨n,H⟩: ∃n,A.FU=n+7:=⟨A.FU-7,by decide⟩
 have st: ∀f m,F.v (sp0,0) (ed0,0) (f+1) m=F.k (F.v (sp0,0) (ed0,0) f) (sp0,0) (ed0,0) A.FU m 0:=fun f m=>by rw[F.v]
 unfold F.aX
 rw[spots0,Qa,if_neg (fun h=>h rfl),edges0,Qa,if_neg (fun h=>h rfl),init0]
 have:F.v (sp0,0) (ed0,0) A.FU tb4=F.v (sp0,0) (ed0,0) (n+7) tb4:=by rw[←H]
 rw[this,st,round4,st,round5,st,round6,st,round7,st,round8,st,round9,st,round10]
theorem begunP:F.dX=some true:=by
 have h:F.aX [(1,1,[],(0,0,ByteArray.mk #[]),ByteArray.mk #[97],0,0),(2,2,[1],(1,0,ByteArray.mk #[]),ByteArray.mk #[],0,0),(3,15,[2],(0,0,ByteArray.mk #[]),ByteArray.mk #[98],0,0)]=some (A.srtL (A.cl0 fun x y=>F.aH x y) (tb10.map Qcv),0):=
  table0.trans (Qgq tb10 (by decide) (by decide) (by decide) (by kernel_rfl))
 have e:F.dX=((F.aX [(1,1,[],(0,0,ByteArray.mk #[]),ByteArray.mk #[97],0,0),(2,2,[1],(1,0,ByteArray.mk #[]),ByteArray.mk #[],0,0),(3,15,[2],(0,0,ByteArray.mk #[]),ByteArray.mk #[98],0,0)]).bind fun H=>((F.cY H.1 (1,2) (3,0)).bind fun r10=>(if(bif bif decide (H.2=0)then decide (((H.1).length:Int)=10)else false then decide (((r10).length:Int)=1)else false)=true then((A.ix r10 0).bind fun x15=>(F.cM (decide (x15=(0,0,0,0,(0,0,0,0))))))else(F.cM false)))):=rfl
 rw[e,h,Qa]
 show _=some true
 kernel_rfl
end Go.Proofs.YtlbnpmfggfbdoaaGreatDoor
end
section
namespace Go.Proofs.YtlbnpmfggfbdoaaGreatDoor
open Go.RowKit Go.Graph
theorem Qbx (g:List Nd)(d:List Int)(id:Int): ∀(k:Nat) (l:List Int) (sp:Sp),sp∈insS g d id k l→sp.1.1=id∧(k:Int)≤sp.1.2∧sp.1.2<(k:Int)+l.length
 |_,[],sp,h=>by cases h
 |k,y::r,sp,h=>by
  unfold insS at h
  rcases Qk.1 h with rfl|h
  ·refine⟨rfl,Xi _,?_⟩
   rw[Qh];show(k:Int)<_;omega
  ·have:=Qbx g d id (k+1) r sp h
   rw[Qh]
   exact⟨this.1,by omega,by omega⟩
theorem insS_od (g:List Nd)(d:List Int)(id:Int): ∀(k:Nat) (l:List Int),(insS g d id k l).Pairwise fun a b=>ltP a.1 b.1
 |_,[]=>List.Pairwise.nil
 |k,y::r=>by
  unfold insS
  refine Wv.2 ⟨fun sp h=>.inr ?_,insS_od g d id (k+1) r⟩
  have:=Qbx g d id (k+1) r sp h
  exact⟨this.1.symm,by show(k:Int)<sp.1.2;omega⟩
theorem Qbr {g:List Nd}(d:List Int): ∀(i:Nat) (l:List Nd),(∀n∈l,n.2.2.1.length≤2)→∀sp∈spotsF g d i l,∃n∈l,sp.1.1=n.1∧0≤sp.1.2∧sp.1.2≤2
 |_,[],_,sp,h=>by cases h
 |i,n::r,H,sp,h=>by
  have hn:=H n (Qf ..)
  unfold spotsF at h
  rcases Qn.1 h with h|h
  ·have:=Qbx g d n.1 0 n.2.2.1 sp h
   exact⟨n,Qf ..,this.1,by omega,by omega⟩
  ·rcases Qn.1 h with h|h
   ·unfold outS at h
    split at h
    ·rw[Qj]at h
     subst h
     exact⟨n,Qf ..,rfl,by show(0:Int)≤2;omega,by show(2:Int)≤2;omega⟩
    ·cases h
   ·obtain⟨m,I,J⟩:=Qbr d (i+1) r (fun m O=>H m (Qe _ O)) sp h
    exact⟨m,Qe _ I,J⟩
theorem Qib {g:List Nd}(d:List Int): ∀(i:Nat) (l:List Nd),Inc l→(∀n∈l,n.2.2.1.length≤2)→(spotsF g d i l).Pairwise fun a b=>ltP a.1 b.1
 |_,[],_,_=>List.Pairwise.nil
 |i,n::r,h,J=>by
  have h':=Wv.1 h
  have h2r:=fun m O=>J m (Qe n O)
  have hn:=J n (Qf ..)
  have later: ∀a:Sp,a.1.1=n.1→∀b∈spotsF g d (i+1) r,ltP a.1 b.1:=fun a I b H=>by
   obtain⟨m,h3,h4,_⟩:=Qbr d (i+1) r h2r b H
   exact .inl (by rw[I,h4];exact h'.1 m h3)
  have out: ∀b∈outS n (iget d (i:Int)),b.1=(n.1,2):=fun b H=>by
   unfold outS at H
   split at H
   ·rw[Qj]at H;subst H;rfl
   ·cases H
  unfold spotsF
  refine Yz.2 ⟨insS_od g d n.1 0 n.2.2.1,Yz.2 ⟨?_,Qib d (i+1) r h'.2 h2r,fun a I b H=>later a (by rw[out a I]) b H⟩,fun a I b H=>?_⟩
  ·unfold outS
   split
   ·exact Yi ..
   ·exact List.Pairwise.nil
  ·have ha':=Qbx g d n.1 0 n.2.2.1 a I
   rcases Qn.1 H with H|H
   ·rw[out b H];exact .inr ⟨ha'.1,by show a.1.2<2;omega⟩
   ·exact later a ha'.1 b H
theorem CloneS (l:List Sm)(H:l.length≤1000000000):F.ad l=some l:=by
 unfold F.ad
 simp[A.gd]
 try omega
section
variable {g:List Nd}{l d:List Int}{dm:List (Int×Int)}(W:Whole g l d dm)
def rowMax:Nat:=66^4
include W
theorem row_len {T:Pl→Pl→List Sm}(I:Pth.Inv (EN g d) (i0N g d) ctr ltS (GN g d) T){p q:Pl}{y:Int}(hq:(q,y)∈spots g d):(T p q).length≤rowMax:=by
 have H:=I.len (netN W) (syN W) p q
 have h2:=lps32 W
 have J:=dp4 W hq
 have O:dpN g d q≤4:=by unfold dpN;rw[J.1];omega
 have h5:2*((lpsN g).length+1)≤66:=by omega
 exact Wh H (Wh (Nat.pow_le_pow_left h5 _) (Nat.pow_le_pow_right (show 0<66 by decide) O))
theorem then_eq {e:Ed}(he:e∈edges g d){p:Pl}(l:List Sm)(hl:l.length≤1000000000)(hG: ∀s∈l,GN g d p e.1 s):F.dE l e.2.2=some (l.filterMap (thnN g d (eNt e))):=by
 have:=A.lp l (fun f (xs:List Sm) z=>F.bt l e.2.2 f xs z) (fun k t xs=>some (xs++t.filterMap (thnN g d (eNt e)))) (fun k xs=>xs.length≤k)
  (fun f xs H=>by rw[F.bt,if_neg (by omega),List.filterMap_nil,Wl])
  (fun f xs k s O hk H ih=>by
   rw[F.bt,if_pos (by omega),A.ixn O,Qa,List.filterMap_cons]
   unfold F.c5
   rcases Qhu W he (hG s (Qg O))with⟨m,I,J,_⟩|⟨I,z,J,_⟩
   ·rw[show F.bC (_,_,_,_,(_,_,_,_)) (_,_,_,_,(_,_,_,_))=_ from J,Qa,if_pos rfl,A.gd1 (by rw[X2];omega),A.gd1 (A.r64n (by omega)),I,ih _ (by rw[Qm,X2];omega),We]
    rfl
   ·rw[show F.bC (_,_,_,_,(_,_,_,_)) (_,_,_,_,(_,_,_,_))=_ from J,Qa,if_neg (show(12:Int)≠0 by decide),A.gd1 (A.r64n (by omega)),I,ih _ (by omega)])
  (by have:=Qab;omega) [] (by simp)
 exact this
end
def tbl (m:Tab0):Pl→Pl→List Sm:=fun p q=>Z.mget [] m (p,q)
theorem Qcl (m:Tab0)(p q:Pl)(r:List Sm):tbl (Z.mins m (p,q) r)=Pth.put (tbl m) p q r:=by
 funext p' q'
 unfold tbl Pth.put
 rw[Up]
 by_cases h:p'=p∧q'=q
 ·rw[if_pos h,if_pos (by rw[h.1,h.2])]
 ·rw[if_neg h,if_neg (fun e=>h ⟨congrArg Prod.fst e,congrArg Prod.snd e⟩)]
theorem add_eq {x y:Int}(m:Tab0)(p q:Pl)(more:List Sm)(hl:(tbl m p q).length≤100000000)(I:more.length≤100000000)(J: ∀s∈tbl m p q++more,GS x y s): ∃r,Pth.IsLst ctr ltS (tbl m p q++more) r∧
  F.ap m (p,q) more=some (if tbl m p q=r then(false,m)else(true,Z.mins m (p,q) r)):=by
 obtain⟨r,O,h2⟩:=Least_P (tbl m p q++more) (by rw[Qm];omega) J
 refine⟨r,h2,?_⟩
 unfold F.ap
 show((F.ad (tbl m p q)).bind fun H=>(A.gd ((List.length (α:=Sm) H+List.length (α:=Sm) more)*64≤140737488355328) ((F.dD (H++more)).bind fun r14=>(if r14.2≠0 then(F.bc m (p,q) r14 true)else((F.aG (tbl m p q) r14.1).bind fun r20=>(F.bc m (p,q) r14 r20))))))=_
 rw[CloneS _ (by omega),Qa,A.gd1 (by omega),O,Qa,if_neg (fun h=>h rfl),EqualS _ _ (by omega),Qa]
 unfold F.bc
 by_cases h:tbl m p q=r
 ·rw[decide_eq_true h,if_pos rfl,if_pos h]
 ·rw[decide_eq_false h,if_neg (by decide),if_neg h]
def Cl (g:List Nd)(d:List Int)(T:Pl→Pl→List Sm)(p:Pl)(e:Ed):Prop:=∀u∈T p e.1,∀v,thnN g d (eNt e) u=some v→∃w∈T p e.2.1,Pth.le (ctr w) (ctr v)
structure MI (g:List Nd) (d:List Int) (m:Tab0):Prop where
 inv:Pth.Inv (EN g d) (i0N g d) ctr ltS (GN g d) (tbl m)
 nd:(m.map Prod.fst).Nodup
 ne: ∀x∈m,x.2≠[]
 ks: ∀x∈m,(∃a,(x.1.1,a)∈spots g d)∧∃b,(x.1.2,b)∈spots g d
def prs (g:List Nd)(d:List Int):List (Pl×Pl):=(spots g d).flatMap fun s=>(spots g d).map fun t=>(s.1,t.1)
theorem prs_mem {g:List Nd}{d:List Int}{p q:Pl}{a b:Int}(hp:(p,a)∈spots g d)(hq:(q,b)∈spots g d):(p,q)∈prs g d:=Xf.2 ⟨_,hp,Qv.2 ⟨_,hq,rfl⟩⟩
abbrev muN (g:List Nd) (d:List Int) (P:List (Pl×Pl)) (T:Pl→Pl→List Sm):Nat:=Pth.mu (dpN g d) ctr (lpsN g).length P T
section
variable {g:List Nd}{l d:List Int}{dm:List (Int×Int)}(W:Whole g l d dm)
theorem tbl_mem {m:Tab0}{p q:Pl}(h:tbl m p q≠[]):((p,q),tbl m p q)∈m:=by
 refine Z.mget_mem ?_
 cases H:Z.mhas m (p,q)with
 |true=>rfl
 |false=>exact absurd (Z.mget_none H) h
theorem MI.ins {m:Tab0}(M:MI g d m){p q:Pl}{a b:Int}(hp:(p,a)∈spots g d)(hq:(q,b)∈spots g d){r:List Sm}(hr:r≠[])(hI:Pth.Inv (EN g d) (i0N g d) ctr ltS (GN g d) (Pth.put (tbl m) p q r)):MI g d (Z.mins m (p,q) r):=by
 refine⟨by rw[Qcl];exact hI,Z.mins_nodup M.nd _ _,fun z J=>?_,fun z J=>?_⟩
 all_goals have H:z.1∈(Z.mins m (p,q) r).map Prod.fst:=Qv.2 ⟨z,J,rfl⟩
 all_goals rw[Z.mins_keys]at H
 ·obtain⟨i,hi⟩:=Xh J
  have I:=(Z.mget_get (z:=[]) (Z.mins_nodup M.nd (p,q) r) hi).1
  rw[Up]at I
  split at I
  ·rw[←I];exact hr
  ·rename_i hk
   have O:z.1∈m.map Prod.fst:=by
    split at H
    ·exact H
    ·rcases Qn.1 H with H|H
     ·exact H
     ·exact absurd (Qj.1 H) hk
   rw[←I]
   have h6:=Z.mget_mem (z:=[]) ((Z.mhas_iff m z.1).2 O)
   exact M.ne _ h6
 ·have old:z.1∈m.map Prod.fst→(∃a,(z.1.1,a)∈spots g d)∧∃b,(z.1.2,b)∈spots g d:=fun O=>by
   obtain⟨z',hz',h6⟩:=Qv.1 O
   have:=M.ks z' hz'
   rw[h6]at this;exact this
  split at H
  ·exact old H
  ·rcases Qn.1 H with H|H
   ·exact old H
   ·rw[Qj.1 H];exact⟨⟨a,hp⟩,⟨b,hq⟩⟩
include W
theorem step_eq {m:Tab0}(M:MI g d m){p:Pl}{a:Int}(hp:(p,a)∈spots g d){e:Ed}(he:e∈edges g d)(h0:tbl m p e.1≠[]):
  ∃b m',((F.dE (tbl m p e.1) e.2.2).bind fun r70=>F.ap m (p,e.2.1) r70)=some (b,m')∧((b=false∧m'=m∧Cl g d (tbl m) p e)∨(b=true∧MI g d m'∧Pth.Cv ctr (tbl m) (tbl m')∧muN g d (prs g d) (tbl m')<muN g d (prs g d) (tbl m))):=by
 have F':=Qao W he
 obtain⟨⟨x,hx⟩,⟨y,hy⟩⟩:=F'.ends
 have l1:=row_len W M.inv (p:=p) hx
 have l2:=row_len W M.inv (p:=p) hy
 unfold rowMax at l1 l2
 have gd:=fun s (H:s∈tbl m p e.1)=>M.inv.good p e.1 s H
 have hm: ∀v∈(tbl m p e.1).filterMap (thnN g d (eNt e)),∃s,Pth.Good (EN g d) (i0N g d) ctr (GN g d) (tbl m) p e.1 s∧thnN g d (eNt e) s=some v:=fun v I=>by
  obtain⟨s,H,O⟩:=Yv.1 I
  exact⟨s,gd s H,O⟩
 have hE:eNt e∈EN g d:=Qv.2 ⟨e,he,rfl⟩
 obtain⟨r,O,h2⟩:=add_eq m p e.2.1 ((tbl m p e.1).filterMap (thnN g d (eNt e))) (by omega) (Wh (List.length_filterMap_le _ _) (by omega)) fun s H=>by
  rcases Qn.1 H with H|H
  ·exact(M.inv.good p e.2.1 s H).1
  ·obtain⟨u,hu,h3⟩:=hm s H
   exact((syN W).some hE hu.1 h3).1
 have A':=M.inv.add (netN W) (syN W) (p:=p) hE hm O
 rw[then_eq W he (tbl m p e.1) (by omega) fun s H=>(gd s H).1,Qa,h2]
 by_cases hr:tbl m p e.2.1=r
 ·rw[if_pos hr]
  refine⟨_,_,rfl,.inl ⟨rfl,rfl,fun u hu v I=>?_⟩⟩
  have:=A'.2.2.1 v (Yv.2 ⟨u,hu,I⟩)
  rw[←hr]at this;exact this
 ·rw[if_neg hr]
  have J:r≠tbl m p e.2.1:=fun h=>hr h.symm
  have hrne:r≠[]:=fun h=>by
   obtain⟨v,I,_⟩:=A'.2.2.2 J
   obtain⟨w,hw,_⟩:=A'.2.2.1 v I
   rw[h]at hw;cases hw
  refine⟨_,_,rfl,.inr ⟨rfl,M.ins hp hy hrne A'.1,?_,?_⟩⟩
  ·rw[Qcl];exact A'.2.1
  ·rw[Qcl];exact M.inv.add_lt (netN W) (syN W) hE hm O (prs_mem hp hy) J
theorem table_l2 (k60:Tab0→Option (List Pth×Int))(k65:Tab0→Int→Option (List Pth×Int))(H:Int)(y:Nat)(hy:y≤1000000){s:Sp}(hs:s∈spots g d){m:Tab0}(M:MI g d m)(hE:(edges g d).length≤1000000): ∀(n k f:Nat),k+n=(edges g d).length→n<f→
  (∃m',MI g d m'∧Pth.Cv ctr (tbl m) (tbl m')∧muN g d (prs g d) (tbl m')<muN g d (prs g d) (tbl m)∧F.ai k60 k65 (edges g d,H) (y:Int) s f m (k:Int)=k60 m')∨((∀e∈(edges g d).drop k,Cl g d (tbl m) s.1 e)∧F.ai k60 k65 (edges g d,H) (y:Int) s f m (k:Int)=k65 m ((y:Int)+1)):=by
 intro n
 induction n with
 |zero=>
  intro k f hk hf
  obtain⟨f,rfl⟩: ∃f',f=f'+1:=⟨f-1,by omega⟩
  refine .inr ⟨fun e I=>(by rw[Q2 (by omega)]at I;cases I),?_⟩
  rw[F.ai,if_neg (by show ¬(k:Int)<((edges g d).length:Int);omega),A.gd1 (A.r64n (by omega))]
 |succ n ih=>
  intro k f hk hf
  obtain⟨f,rfl⟩: ∃f',f=f'+1:=⟨f-1,by omega⟩
  obtain⟨x,O⟩: ∃x,(edges g d)[k]?=some x:=⟨_,Qd (by omega)⟩
  have hxe:=Qg O
  have next:Cl g d (tbl m) s.1 x→(∃m',MI g d m'∧Pth.Cv ctr (tbl m) (tbl m')∧muN g d (prs g d) (tbl m')<muN g d (prs g d) (tbl m)∧F.ai k60 k65 (edges g d,H) (y:Int) s f m ((k:Int)+1)=k60 m')∨((∀e∈(edges g d).drop k,Cl g d (tbl m) s.1 e)∧F.ai k60 k65 (edges g d,H) (y:Int) s f m ((k:Int)+1)=k65 m ((y:Int)+1)):=fun hc=>by
   rcases ih (k+1) f (by omega) (by omega)with h|⟨h1,h2⟩
   ·exact .inl h
   ·refine .inr ⟨fun e I=>?_,h2⟩
    rw[A.dropx O]at I
    rcases Qk.1 I with rfl|I
    ·exact hc
    ·exact h1 e I
  have e:F.ai k60 k65 (edges g d,H) (y:Int) s (f+1) m (k:Int)=(if(0:Int)<((tbl m s.1 x.1).length:Int)then(((F.dE (tbl m s.1 x.1) x.2.2).bind fun r70=>F.ap m (s.1,x.2.1) r70).bind fun r74=>F.bD k60 (F.ai k60 k65 (edges g d,H) (y:Int) s f) (k:Int) r74.2 r74.1)else F.bD k60 (F.ai k60 k65 (edges g d,H) (y:Int) s f) (k:Int) m false):=by
   rw[F.ai,if_pos (by show(k:Int)<((edges g d).length:Int);omega),show A.ix ((edges g d,H):List Ed×Int).1 (k:Int)=some x from A.ixn O,Qa,Option.bind_assoc];rfl
  rw[e]
  by_cases J:tbl m s.1 x.1=[]
  ·rw[J,if_neg (by simp)]
   unfold F.bD
   rw[if_neg (by decide),A.gd1 (A.r64n (by omega))]
   exact next fun u hu=>by rw[J]at hu;cases hu
  ·rw[if_pos (by have:=List.length_pos_iff.2 J;omega)]
   obtain⟨b,m',h1,h2⟩:=step_eq W M (p:=s.1) (a:=s.2) hs hxe J
   rw[h1,Qa]
   unfold F.bD
   rcases h2 with⟨rfl,rfl,hc⟩|⟨rfl,M',hcv,hmu⟩
   ·rw[if_neg (show ¬(false:Bool)=true by decide),A.gd1 (A.r64n (by omega))];exact next hc
   ·rw[if_pos rfl];exact .inl ⟨m',M',hcv,hmu,rfl⟩
theorem table_l4 (k60:Tab0→Option (List Pth×Int))(H I:Int){m:Tab0}(M:MI g d m)(hE:(edges g d).length≤1000000)(hS:(spots g d).length≤1000000): ∀(n k f:Nat),k+n=(spots g d).length→n<f→
  (∃m',MI g d m'∧Pth.Cv ctr (tbl m) (tbl m')∧muN g d (prs g d) (tbl m')<muN g d (prs g d) (tbl m)∧F.k k60 (spots g d,I) (edges g d,H) f m (k:Int)=k60 m')∨((∀s∈(spots g d).drop k,∀e∈edges g d,Cl g d (tbl m) s.1 e)∧F.k k60 (spots g d,I) (edges g d,H) f m (k:Int)=F.aC m A.FU [] []):=by
 intro n
 induction n with
 |zero=>
  intro k f hk hf
  obtain⟨f,rfl⟩: ∃f',f=f'+1:=⟨f-1,by omega⟩
  refine .inr ⟨fun e he=>(by rw[Q2 (by omega)]at he;cases he),?_⟩
  rw[F.k,if_neg (by show ¬(k:Int)<((spots g d).length:Int);omega)]
 |succ n ih=>
  intro k f hk hf
  obtain⟨f,rfl⟩: ∃f',f=f'+1:=⟨f-1,by omega⟩
  obtain⟨s,hs⟩: ∃s,(spots g d)[k]?=some s:=⟨_,Qd (by omega)⟩
  rw[F.k,if_pos (by show(k:Int)<((spots g d).length:Int);omega),show A.ix ((spots g d,I):List Sp×Int).1 (k:Int)=some s from A.ixn hs,Qa]
  rcases table_l2 W k60 (F.k k60 (spots g d,I) (edges g d,H) f) H k (by omega) (Qg hs) M hE (edges g d).length 0 A.FU (by omega) (by have:=Qab;omega)with⟨m',J,h2,h3,h4⟩|⟨J,h2⟩
  ·exact .inl ⟨m',J,h2,h3,h4⟩
  ·rw[Wa]at J
   rw[show F.ai k60 (F.k k60 (spots g d,I) (edges g d,H) f) (edges g d,H) (k:Int) s A.FU m 0=_ from h2]
   rcases ih (k+1) f (by omega) (by omega)with h|⟨h3,h4⟩
   ·exact .inl h
   ·refine .inr ⟨fun t O=>?_,h4⟩
    rw[A.dropx hs]at O
    rcases Qk.1 O with rfl|O
    ·exact J
    ·exact h3 t O
theorem table_l5 (J O:Int)(hE:(edges g d).length≤1000000)(hS:(spots g d).length≤1000000): ∀(n f:Nat) (m:Tab0),MI g d m→muN g d (prs g d) (tbl m)≤n→n<f→
  ∃m',MI g d m'∧Pth.Cv ctr (tbl m) (tbl m')∧(∀s∈spots g d,∀e∈edges g d,Cl g d (tbl m') s.1 e)∧F.v (spots g d,O) (edges g d,J) f m=F.aC m' A.FU [] []:=by
 intro n
 induction n with
 |zero=>
  intro f m M hmu hf
  obtain⟨f,rfl⟩: ∃f',f=f'+1:=⟨f-1,by omega⟩
  rw[F.v]
  rcases table_l4 W (F.v (spots g d,O) (edges g d,J) f) J O M hE hS (spots g d).length 0 A.FU (by omega) (by have:=Qab;omega)with⟨m',H,I,h3,h4⟩|⟨H,I⟩
  ·omega
  ·exact⟨m,M,Pth.Cv.refl _,by rw[Wa]at H;exact H,I⟩
 |succ n ih=>
  intro f m M hmu hf
  obtain⟨f,rfl⟩: ∃f',f=f'+1:=⟨f-1,by omega⟩
  rw[F.v]
  rcases table_l4 W (F.v (spots g d,O) (edges g d,J) f) J O M hE hS (spots g d).length 0 A.FU (by omega) (by have:=Qab;omega)with⟨m',H,I,h3,h4⟩|⟨H,I⟩
  ·obtain⟨m2,h5,h6,h7,h8⟩:=ih f m' H (by omega) (by omega)
   exact⟨m2,h5,I.trans (netN W) (syN W) (fun p q s hs=>(syN W).ok (M.inv.good p q s hs).1) (fun p q s hs=>(syN W).ok (h5.inv.good p q s hs).1) h6,h7,h4.trans h8⟩
  ·exact⟨m,M,Pth.Cv.refl _,by rw[Wa]at H;exact H,I⟩
end
theorem orF2 (a b:Int):orF [a,b]=if a≠0 then a else b:=by
 unfold orF
 by_cases h:a≠0
 ·rw[if_pos h,if_pos h]
 ·rw[if_neg h,if_neg h]
  unfold orF
  by_cases H:b≠0
  ·rw[if_pos H]
  ·rw[if_neg H];unfold orF;omega
theorem cmpI_iff (a b:Int):(cmpI a b<0↔a<b)∧(cmpI a b=0↔a=b):=by
 unfold cmpI
 split
 ·exact⟨⟨fun _=>by assumption,fun _=>by decide⟩,⟨fun h=>absurd h (by decide),fun h=>by omega⟩⟩
 ·(split)
  ·exact⟨⟨fun h=>absurd h (by decide),fun h=>by omega⟩,⟨fun h=>absurd h (by decide),fun h=>by omega⟩⟩
  ·exact⟨⟨fun h=>absurd h (by decide),fun h=>by omega⟩,⟨fun _=>by omega,fun _=>rfl⟩⟩
theorem cmpP_iff (p q:Pl):(cmpP p q<0↔ltP p q)∧(cmpP p q=0↔p=q):=by
 have J:=cmpI_iff p.1 q.1
 have O:=cmpI_iff p.2 q.2
 have e:p=q↔p.1=q.1∧p.2=q.2:=⟨fun h=>by rw[h];exact⟨rfl,rfl⟩,fun h=>Jr h.1 h.2⟩
 unfold cmpP ltP
 rw[orF2,e]
 by_cases h:cmpI p.1 q.1≠0
 ·rw[if_pos h]
  have I: ¬p.1=q.1:=fun H=>h (J.2.2 H)
  exact⟨⟨fun H=>.inl (J.1.1 H),fun H=>J.1.2 (H.resolve_right fun h5=>I h5.1)⟩,⟨fun H=>absurd H h,fun H=>absurd H.1 I⟩⟩
 ·rw[if_neg h]
  have I:p.1=q.1:=J.2.1 (Classical.not_not.1 h)
  exact⟨⟨fun H=>.inr ⟨I,O.1.1 H⟩,fun H=>O.1.2 (H.resolve_left (by omega)).2⟩,⟨fun H=>⟨I,O.2.1 H⟩,fun H=>O.2.2 H.2⟩⟩
def cK (x y:Pth):Int:=orF [cmpP x.1 y.1,cmpP x.2.1 y.2.1]
def ltK (x y:Pth):Prop:=ltP x.1 y.1∨x.1=y.1∧ltP x.2.1 y.2.1
theorem cK_iff (x y:Pth):(cK x y<0↔ltK x y)∧(cK x y=0↔x.1=y.1∧x.2.1=y.2.1):=by
 have J:=cmpP_iff x.1 y.1
 have O:=cmpP_iff x.2.1 y.2.1
 have irr: ∀p:Pl,¬ltP p p:=fun p h=>by rcases h with h|h<;>omega
 unfold cK ltK
 rw[orF2]
 by_cases h:cmpP x.1 y.1≠0
 ·rw[if_pos h]
  have I: ¬x.1=y.1:=fun H=>h (J.2.2 H)
  exact⟨⟨fun H=>.inl (J.1.1 H),fun H=>J.1.2 (H.resolve_right fun h5=>I h5.1)⟩,⟨fun H=>absurd H h,fun H=>absurd H.1 I⟩⟩
 ·rw[if_neg h]
  have I:x.1=y.1:=J.2.1 (Classical.not_not.1 h)
  exact⟨⟨fun H=>.inr ⟨I,O.1.1 H⟩,fun H=>O.1.2 (H.resolve_left (by rw[I];exact irr _)).2⟩,⟨fun H=>⟨I,O.2.1 H⟩,fun H=>O.2.2 H.2⟩⟩
theorem Qhg (p q:Pl):F.dd p q=some (cmpP p q):=by
 unfold F.dd
 rw[Qdn,Qa,Qdn,Qa,Or_eq _ (by simp),Qa];rfl
theorem Qhk (x y:Pth):F.aH x y=some (cK x y):=by
 unfold F.aH
 rw[Qhg,Qa,Qhg,Qa,Or_eq _ (by simp),Qa];rfl
theorem ltP_tr {p q r:Pl}(H:ltP p q)(I:ltP q r):ltP p r:=by
 rcases H with H|⟨H,J⟩<;>rcases I with I|⟨I,O⟩
 ·exact .inl (by omega)
 ·exact .inl (by omega)
 ·exact .inl (by omega)
 ·exact .inr ⟨by omega,by omega⟩
theorem ltP_no {p:Pl}: ¬ltP p p:=fun h=>by rcases h with h|h<;>omega
theorem ltP_tri {p q:Pl}(h:p≠q):ltP p q∨ltP q p:=by
 have I: ¬(p.1=q.1∧p.2=q.2):=fun H=>h (Jr H.1 H.2)
 unfold ltP;omega
theorem ltK_tr {x y z:Pth}(H:ltK x y)(I:ltK y z):ltK x z:=by
 rcases H with H|⟨H,J⟩<;>rcases I with I|⟨I,O⟩
 ·exact .inl (ltP_tr H I)
 ·exact .inl (by rw[←I];exact H)
 ·exact .inl (by rw[H];exact I)
 ·exact .inr ⟨by rw[H,I],ltP_tr J O⟩
theorem ltK_no {x:Pth}: ¬ltK x x:=fun h=>by
 rcases h with h|⟨_,h⟩
 ·exact ltP_no h
 ·exact ltP_no h
theorem ltK_tri {x y:Pth}(h: ¬(x.1=y.1∧x.2.1=y.2.1)):ltK x y∨ltK y x:=by
 by_cases I:x.1=y.1
 ·rcases ltP_tri (fun J=>h ⟨I,J⟩)with H|H
  ·exact .inl (.inr ⟨I,H⟩)
  ·exact .inr (.inr ⟨I.symm,H⟩)
 ·rcases ltP_tri I with H|H
  ·exact .inl (.inl H)
  ·exact .inr (.inl H)
abbrev rlK (a b:Pth):Bool:=decide (cK a b<0)
theorem Qbf (a b:Pth):rlK a b=true↔ltK a b:=(decide_eq_true_iff).trans (cK_iff a b).1
theorem ordK (xs:List Pth)(hk: ∀x∈xs,∀y∈xs,x.1=y.1→x.2.1=y.2.1→x=y):A.ordB (fun x y=>F.aH x y) xs=true∧A.cl0 (fun x y=>F.aH x y)=rlK∧A.OrdOn rlK xs:=by
 have e:A.cl0 (fun x y=>F.aH x y)=rlK:=by
  funext a b
  show(match F.aH a b with|some c=>decide (c<0)|none=>false)=_
  rw[Qhk]
 have asy: ∀a b,rlK a b=true→rlK b a=false:=fun a b h=>by
  rw[Ym]
  exact fun H=>ltK_no (ltK_tr ((Qbf a b).1 h) ((Qbf b a).1 H))
 have tri: ∀a∈xs,∀b∈xs,rlK a b=false→rlK b a=false→a=b:=fun a ha b hb I H=>Wb fun h=>by
  rcases ltK_tri (x:=a) (y:=b) (fun h3=>h (hk a ha b hb h3.1 h3.2))with J|J
  ·rw[(Qbf a b).2 J]at I;cases I
  ·rw[(Qbf b a).2 J]at H;cases H
 have tr: ∀a b c,rlK a b=true→rlK b c=true→rlK a c=true:=fun a b c I H=>(Qbf a c).2 (ltK_tr ((Qbf a b).1 I) ((Qbf b c).1 H))
 refine⟨?_,e,fun x _ y _ h=>asy x y h,fun x O y hy I H=>tri x O y hy I H,fun x _ y _ z _ I H=>tr x y z I H⟩
 unfold A.ordB
 rw[Qy]
 intro x O
 rw[Qy]
 intro y hy
 rw[e,Ql,Ql]
 refine⟨⟨by show(F.aH x y).isSome=true;rw[Qhk];rfl,?_⟩,?_⟩
 ·cases I:rlK x y with
  |true=>rw[asy x y I];rfl
  |false=>
   cases H:rlK y x with
   |true=>rfl
   |false=>rw[decide_eq_true (tri x O y hy I H)];rfl
 ·rw[Qy]
  intro z hz
  cases I:rlK x y with
  |false=>rfl
  |true=>
   cases H:rlK y z with
   |false=>rfl
   |true=>rw[tr x y z I H];rfl
structure TT (g:List Nd) (d:List Int) (T:Pl→Pl→List Sm):Prop where
 inv:Pth.Inv (EN g d) (i0N g d) ctr ltS (GN g d) T
 tab:Pth.Tab (E:=EN g d) (i0:=i0N g d) fun p q=>(T p q).map ctr
 ini: ∀s∈spots g d,T s.1 s.1≠[]
 sp: ∀p q,T p q≠[]→(∃a,(p,a)∈spots g d)∧∃b,(q,b)∈spots g d
def tabL (g:List Nd)(d:List Int)(T:Pl→Pl→List Sm):List Pth:=(spots g d).flatMap fun s=>(spots g d).filterMap fun t=>if T s.1 t.1=[]then none else some (s.1,t.1,T s.1 t.1)
section
variable {g:List Nd}{l d:List Int}{dm:List (Int×Int)}(W:Whole g l d dm)
theorem Qcb {T:Pl→Pl→List Sm}{x:Pth}:x∈tabL g d T↔(∃a,(x.1,a)∈spots g d)∧(∃b,(x.2.1,b)∈spots g d)∧T x.1 x.2.1≠[]∧x.2.2=T x.1 x.2.1:=by
 unfold tabL
 rw[Xf]
 constructor
 ·rintro⟨s,I,h⟩
  obtain⟨t,J,h⟩:=Yv.1 h
  split at h
  ·cases h
  ·rename_i H
   obtain rfl:=Qq h
   exact⟨⟨s.2,I⟩,⟨t.2,J⟩,H,rfl⟩
 ·rintro⟨⟨a,O⟩,⟨b,hb⟩,H,h2⟩
  refine⟨_,O,Yv.2 ⟨_,hb,?_⟩⟩
  rw[if_neg H,←h2]
include W
theorem spots_pw:(spots g d).Pairwise fun a b=>ltP a.1 b.1:=Qib d 0 g W.inc fun n H=>in2 W.own H
theorem tabL_pw (T:Pl→Pl→List Sm):(tabL g d T).Pairwise ltK:=by
 have O:=spots_pw W
 unfold tabL
 rw[List.flatMap,List.pairwise_flatten]
 refine⟨fun r hr=>?_,Ja.2 (O.imp fun {a b} J x H y I=>?_)⟩
 ·obtain⟨s,_,rfl⟩:=Qv.1 hr
  refine List.Pairwise.filterMap _ (fun a b J x H y I=>?_) O
  split at H
  ·cases H
  ·split at I
   ·cases I
   ·obtain rfl:=Qq H
    obtain rfl:=Qq I
    exact .inr ⟨rfl,J⟩
 ·obtain⟨t,_,H⟩:=Yv.1 H
  obtain⟨u,_,I⟩:=Yv.1 I
  split at H
  ·cases H
  ·split at I
   ·cases I
   ·obtain rfl:=Qq H
    obtain rfl:=Qq I
    exact .inl J
theorem Qfz:(spots g d).length≤96:=by
 have H:=Qce W.own d g.length 0 (by omega)
 rw[Wa]at H
 have:=W.l32
 unfold spots;omega
theorem tabL_len {T:Pl→Pl→List Sm}:(tabL g d T).length≤10000:=by
 have H:=Qfz W
 have I: ∀(r:List Sp),((r.flatMap fun s=>(spots g d).filterMap fun t=>if T s.1 t.1=[]then none else some (s.1,t.1,T s.1 t.1)):List Pth).length≤r.length*96:=by
  intro r
  induction r with
  |nil=>simp
  |cons s r J=>
   rw[List.flatMap_cons,Qm,Qh]
   have:=List.length_filterMap_le (fun t:Sp=>if T s.1 t.1=[]then none else some ((s.1,t.1,T s.1 t.1):Pth)) (spots g d)
   omega
 have:=I (spots g d)
 unfold tabL
 omega
theorem prs_len:(prs g d).length≤9216:=by
 have H:=Qfz W
 unfold prs
 rw[Pth.flat_len (k:=(spots g d).length) fun x _=>by rw[Qw]]
 exact Nat.mul_le_mul H H
theorem mu_fu (T:Pl→Pl→List Sm):muN g d (prs g d) T≤9216*66^4:=by
 have H:=Pth.mu_max (netN W) (syN W) (T:=T) (prs g d) fun x I=>by
  obtain⟨s,hs,h⟩:=Xf.1 I
  obtain⟨t,J,rfl⟩:=Qv.1 h
  have:=dp4 W (p:=t.1) (a:=t.2) J
  unfold dpN;rw[this.1];show t.2.toNat≤4;omega
 have O:=prs_len W
 have h3:=lps32 W
 have h4:2*((lpsN g).length+1)≤66:=by omega
 exact Wh H (Nat.mul_le_mul O (Nat.pow_le_pow_left h4 4))
omit W in
theorem isLst1 (s:Sm):Pth.IsLst ctr ltS [s] [s]:=by
 refine⟨Yi ..,fun u=>⟨fun h=>⟨h,fun x H I=>?_⟩,fun h=>h.1⟩⟩
 rw[Qj]at h H
 subst h;subst H
 exact Pth.less_irr linS _ I
theorem table_l6 (e0 e1:Int): ∀(n k f:Nat) (m:Tab0),k+n=(spots g d).length→n<f→MI g d m→(∀s∈(spots g d).take k,∃u∈tbl m s.1 s.1,Pth.le (ctr u) (i0N g d s.1))→(∀p q,tbl m p q≠[]→∃s∈(spots g d).take k,s.1=p)→
  ∃m',MI g d m'∧(∀s∈spots g d,∃u∈tbl m' s.1 s.1,Pth.le (ctr u) (i0N g d s.1))∧F.aD (spots g d,e1) (edges g d,e0) f m (k:Int)=F.v (spots g d,e1) (edges g d,e0) A.FU m':=by
 have h96:=Qfz W
 intro n
 induction n with
 |zero=>
  intro k f m hk hf M h1 h2
  obtain⟨f,rfl⟩: ∃f',f=f'+1:=⟨f-1,by omega⟩
  rw[W6 (by omega)]at h1
  refine⟨m,M,h1,?_⟩
  rw[F.aD,if_neg (by show ¬(k:Int)<((spots g d).length:Int);omega)]
 |succ n ih=>
  intro k f m hk hf M h1 h2
  obtain⟨f,rfl⟩: ∃f',f=f'+1:=⟨f-1,by omega⟩
  obtain⟨x,hx⟩: ∃x,(spots g d)[k]?=some x:=⟨_,Qd (by omega)⟩
  have J:=Qg hx
  obtain⟨i1,_,_,i4,i5⟩:=o_b1 W (p:=x.1) (x:=x.2) J
  have I: ∀q,tbl m x.1 q=[]:=fun q=>Wb fun h=>by
   obtain⟨s,H,h3⟩:=h2 x.1 q h
   obtain⟨j,hj⟩:=Xh H
   rw[Xc]at hj
   split at hj
   ·rename_i hjk
    have h4:=Xx.1 (spots_pw W) j k (by omega) (by omega) hjk
    obtain⟨_,e1⟩:=Qc.1 hj
    obtain⟨_,e2⟩:=Qc.1 hx
    rw[e1,e2,h3]at h4
    exact ltP_no h4
   ·cases hj
  have hG: ∀s∈tbl m x.1 x.1++[(idP x.2).1],GN g d x.1 x.1 s:=fun s H=>by
   rw[I,W8,Qj]at H
   rw[H];exact i4
  obtain⟨r,h3,h4⟩:=add_eq m x.1 x.1 [(idP x.2).1] (by rw[I];simp) (by simp) hG
  rw[I,W8]at h3
  obtain rfl:=h3.uniq linS (isLst1 _)
  rw[I,if_neg (fun h=>by cases h)]at h4
  have M':MI g d (Z.mins m (x.1,x.1) [(idP x.2).1]):=M.ins J J (fun h=>by cases h) (M.inv.first (netN W) (syN W) I i4 i5)
  have hself:tbl (Z.mins m (x.1,x.1) [(idP x.2).1]) x.1 x.1=[(idP x.2).1]:=by rw[Qcl,Pth.put_self]
  obtain⟨m',h5,h6,h7⟩:=ih (k+1) f _ (by omega) (by omega) M' (fun s H=>by
   rw[Yk,hx]at H
   by_cases O:s.1=x.1
   ·rw[O,hself]
    exact⟨_,Yc _,by rw[i5];exact Pth.le_refl _⟩
   ·rcases Qn.1 H with H|H
    ·obtain⟨u,hu,h⟩:=h1 s H
     refine⟨u,?_,h⟩
     rw[Qcl];unfold Pth.put;rw[if_neg (fun h=>O h.1)];exact hu
    ·rw[Option.toList_some,Qj]at H
     exact absurd (by rw[H]) O) (fun p q h=>by
   rw[Yk,hx]
   rw[Qcl]at h
   unfold Pth.put at h
   split at h
   ·rename_i hpq
    exact⟨x,Q8 _ (by rw[Option.toList_some];exact Yc _),hpq.1.symm⟩
   ·obtain⟨s,H,h3⟩:=h2 p q h
    exact⟨s,Q6 _ H,h3⟩)
  refine⟨m',h5,h6,?_⟩
  rw[F.aD,if_pos (by show(k:Int)<((spots g d).length:Int);omega),show A.ix ((spots g d,e1):List Sp×Int).1 (k:Int)=some x from A.ixn hx,Qa,i1,Qa,
   show F.ap m (x.1,x.1) _=_ from h4,Qa,A.gd1 (A.r64n (by omega))]
  exact h7
theorem table_P (hid: ∀n∈g,A.h6 n.1)(hE:(edges g d).length≤1000000)(h1:F.b2 g=some (spots g d,0))(h2:F.cl g=some (edges g d,0)): ∃T,TT g d T∧F.aX g=some (tabL g d T,0):=by
 have h96:=Qfz W
 have M0:MI g d []:=⟨⟨fun p q s I=>(by cases I),fun p q=>List.Pairwise.nil,fun p q s I=>(by cases I)⟩,X5,fun x O=>(by cases O),fun x O=>(by cases O)⟩
 obtain⟨m1,M1,i1,e1⟩:=table_l6 W 0 0 (spots g d).length 0 A.FU [] (by omega) (by have:=Qab;omega) M0 (fun s I=>by rw[List.take_zero]at I;cases I) (fun p q h=>absurd rfl h)
 obtain⟨m,M,hc,cl,e2⟩:=table_l5 W 0 0 hE (by omega) _ A.FU m1 M1 (Q1 _) (Nat.lt_of_le_of_lt (mu_fu W _) (by decide))
 have ini: ∀s∈spots g d,∃u∈tbl m s.1 s.1,Pth.le (ctr u) (i0N g d s.1):=fun s I=>by
  obtain⟨u,hu,J⟩:=i1 s I
  obtain⟨v,hv,h4⟩:=hc s.1 s.1 u hu
  exact⟨v,hv,Pth.le_trans ((syN W).ok (M.inv.good _ _ v hv).1) ((netN W).iok _) h4 J⟩
 have sp: ∀p q,tbl m p q≠[]→(∃a,(p,a)∈spots g d)∧∃b,(q,b)∈spots g d:=fun p q h=>M.ks _ (tbl_mem h)
 have hT:TT g d (tbl m):=by
  refine⟨M.inv,M.inv.tab (netN W) (syN W) (fun p h=>?_) (fun p e he s I v hv=>?_),fun s I h=>?_,sp⟩
  ·obtain⟨q,hq⟩:=h
   obtain⟨a,H⟩:=(sp p q hq).1
   exact ini _ H
  ·obtain⟨e,hE2,rfl⟩:=Qv.1 he
   obtain⟨a,H⟩:=(sp p _ (List.ne_nil_of_mem I)).1
   exact cl _ H e hE2 s I v hv
  ·obtain⟨u,hu,_⟩:=ini s I
   rw[h]at hu;cases hu
 refine⟨tbl m,hT,?_⟩
 have hk: ∀x∈m,∀y∈m,x.1=y.1→x=y:=fun x O y hy h=>by
  obtain⟨i,hi⟩:=Xh O
  obtain⟨j,hj⟩:=Xh hy
  have a1:=(Z.mget_get (z:=[]) M.nd hi).1
  have a2:=(Z.mget_get (z:=[]) M.nd hj).1
  rw[h,a2]at a1
  exact Jr h a1.symm
 obtain⟨o1,o2,o3⟩:=ordK (m.map Qcv) fun x O y hy J h4=>by
  obtain⟨a,H,rfl⟩:=Qv.1 O
  obtain⟨b,hb,rfl⟩:=Qv.1 hy
  rw[hk a H b hb (Jr J h4)]
 have hperm:(tabL g d (tbl m)).Perm (m.map Qcv):=by
  have hn1:(tabL g d (tbl m)).Nodup:=List.Pairwise.imp (S:=fun a b=>a≠b) (fun {a b} h e=>ltK_no (x:=b) (by rw[e]at h;exact h)) (tabL_pw W (tbl m))
  refine(List.perm_ext_iff_of_nodup hn1 ?_).2 fun x=>?_
  ·refine Ja.2 (List.Pairwise.imp_of_mem (S:=fun a b=>Qcv a≠Qcv b) (fun {a b} H hb h e=>h ?_) (Ja.1 M.nd))
   have h5:a.1=b.1:=Jr (congrArg (fun z:Pth=>z.1) e) (congrArg (fun z:Pth=>z.2.1) e)
   exact h5
  ·rw[Qcb,Qv]
   constructor
   ·rintro⟨_,_,J,h4⟩
    refine⟨_,tbl_mem J,?_⟩
    show(x.1,x.2.1,tbl m x.1 x.2.1)=x
    rw[←h4]
   ·rintro⟨a,H,rfl⟩
    obtain⟨i,hi⟩:=Xh H
    have a1:tbl m a.1.1 a.1.2=a.2:=(Z.mget_get (z:=[]) M.nd hi).1
    refine⟨(M.ks a H).1,(M.ks a H).2,?_,a1.symm⟩
    show tbl m a.1.1 a.1.2≠[]
    rw[a1];exact M.ne a H
 have hhas: ∀(p:Pl) (a:Int),(p,a)∈spots g d→A.h6 p.1∧A.h6 p.2:=fun p a h=>by
  obtain⟨n,hn,J,h4,h5⟩:=Qbr d 0 g (fun n hn=>in2 W.own hn) (p,a) h
  have J:p.1=n.1:=J
  have h4:0≤p.2:=h4
  have h5:p.2≤2:=h5
  refine⟨by rw[J];exact hid n hn,?_⟩
  exact⟨by show-9223372036854775808≤p.2;omega,by show p.2≤9223372036854775807;omega⟩
 have hend:=Qgq m (fun x O=>by
   obtain⟨⟨a,H⟩,⟨b,hb⟩⟩:=M.ks x O
   exact⟨(hhas _ _ H).1,(hhas _ _ H).2,(hhas _ _ hb).1,(hhas _ _ hb).2⟩) M.ne (by
   have J:=hperm.length_eq
   rw[Qw]at J
   have:=tabL_len W (T:=tbl m)
   omega) o1
 rw[o2,←A.srt_uniq o3 hperm ((tabL_pw W (tbl m)).imp fun {a b} h=>by
  rw[Ym]
  exact fun h2=>ltK_no (ltK_tr h ((Qbf b a).1 h2)))]at hend
 unfold F.aX
 rw[h1,Qa,if_neg (fun h=>h rfl),h2,Qa,if_neg (fun h=>h rfl)]
 exact e1.trans (e2.trans hend)
end
abbrev Kn:=List Pl×List (List Sm)
def zt (st:Kn)(p:Pl):Pl→Pl→List Sm:=fun p' q=>if p'=p then Z.mget [] (st.1.zip st.2) q else []
structure KI (g:List Nd) (d:List Int) (p:Pl) (st:Kn):Prop where
 inv:Pth.Inv (EN g d) (i0N g d) ctr ltS (GN g d) (zt st p)
 len:st.1.length=st.2.length
 nd:st.1.Nodup
 ne: ∀r∈st.2,r≠[]
 ks: ∀q∈st.1,∃b,(q,b)∈spots g d
section
variable {g:List Nd}{l d:List Int}{dm:List (Int×Int)}(W:Whole g l d dm)
include W
end
def fewF (s:Int):List Nd→Int
 | []=>s
 |x::r=>fewF (min (s+min (x.2.2.1.length:Int) 1048576+min (x.2.2.2.2.1.size:Int) 1048576+min (x.2.2.2.1.2.2.size:Int) 1048576) 1048576) r
theorem Qgn: ∀(l:List Nd) (s:Int),0≤s→s≤1048576→s≤fewF s l
 | [],s,_,_=>Xi s
 |x::r,s,h,H=>by
  unfold fewF
  have:=Qgn r (min (s+min (x.2.2.1.length:Int) 1048576+min (x.2.2.2.2.1.size:Int) 1048576+min (x.2.2.2.1.2.2.size:Int) 1048576) 1048576) (by omega) (by omega)
  omega
theorem fewF_le: ∀(l:List Nd) (s:Int),0≤s→s≤1048576→fewF s l≤5000→∀x∈l,x.2.2.1.length≤5000∧x.2.2.2.2.1.size≤5000∧x.2.2.2.1.2.2.size≤5000
 | [],_,_,_,_,x,H=>by cases H
 |y::r,s,h,J,I,x,H=>by
  unfold fewF at I
  have O:=Qgn r (min (s+min (y.2.2.1.length:Int) 1048576+min (y.2.2.2.2.1.size:Int) 1048576+min (y.2.2.2.1.2.2.size:Int) 1048576) 1048576) (by omega) (by omega)
  rcases Qk.1 H with rfl|H
  ·omega
  ·exact fewF_le r _ (by omega) (by omega) I x H
theorem few10_eq (g:List Nd): ∃b,F.eD g=some b∧(b=true→Few g∧g.length≤18):=by
 unfold F.eD
 rw[A.gd1 (by omega)]
 have hlen:(List.take (min (g.length:Int) 99).toNat g).length≤99:=by rw[Qt];omega
 have:=A.lp (List.take (min (g.length:Int) 99).toNat g) (fun f s y=>F.cZ g f s y) (fun _ l s=>some (bif decide ((g.length:Int)≤18)then decide (fewF s l≤2000)else false)) (fun _ s=>0≤s∧s≤1048576)
  (fun f s _=>by rw[F.cZ,if_neg (by omega)];rfl)
  (fun f s k x J hk hp O=>by
   rw[F.cZ,if_pos (by omega),A.ixn J,Qa,A.gd1 ⟨⟨by omega,by omega⟩,⟨by omega,by omega⟩,⟨by omega,by omega⟩⟩,A.gd1 (A.r64n (by omega)),O _ (by omega)]
   rfl)
  (by have:=Qab;omega) 0 (by omega)
 rw[this]
 refine⟨_,rfl,fun H=>?_⟩
 by_cases I:(g.length:Int)≤18
 ·simp only[I,decide_true,cond_true,decide_eq_true_eq]at H
  have e:List.take (min (g.length:Int) 99).toNat g=g:=W6 (by omega)
  rw[e]at H
  exact⟨⟨by omega,fewF_le g 0 (by omega) (by omega) (by omega)⟩,by omega⟩
 ·simp[I]at H
theorem graph_tell (g:List Nd)(H:Few g):(∃e,e≠0∧F.b2 g=some ([],e)∧F.cX g=some ([],e)∧F.cl g=some ([],e)∧F.dA g=some ([],e))∨
  ∃l d dm,Whole g l d dm∧F.b2 g=some (spots g d,0)∧F.cX g=some (spots g d,0)∧F.cl g=some (edges g d,0)∧F.dA g=some (edges g d,0)∧(edges g d).length≤1000000:=by
 have hlen:=H.1
 unfold F.dA F.b2 F.cX F.cl
 rcases whole_same g H with⟨e,h0,I,J⟩|⟨l,d,dm,I,J,W⟩
 ·rw[I,J]
  simp only[Qa,A.om,if_pos h0]
  exact .inl ⟨e,h0,rfl,rfl,rfl,rfl⟩
 ·right
  have O: ∀n∈g,n.2.2.1.length≤2:=fun n hn=>in2 W.own hn
  have he:(edges g d).length≤1000000:=Wh (Qet g d 0 g (by omega) O O) (by omega)
  have hod:Od (edges g d):=Qhp g d W.inc 0 g W.inc O
  rw[I,J]
  simp only[Qa,A.om,ne_eq,not_true_eq_false,if_false]
  rw[Qgr g d H W.fed W.own W.dlen,Qhj g d _ H W.fed W.own W.rel,Qhn g d _ H W.fed W.own W.inb W.rel]
  simp only[Qa,ne_eq,not_true_eq_false,if_false]
  rw[Qhz g d H W.inc W.own W.inb,sorted_eq hod he]
  exact⟨l,d,dm,W,rfl,rfl,rfl,rfl,he⟩
theorem tabL_tbl {g:List Nd}{l d:List Int}{dm:List (Int×Int)}(W:Whole g l d dm){T:Pl→Pl→List Sm}(H:TT g d T):Tbl (tabL g d T):=by
 refine⟨Wh (tabL_len W) (by decide),fun x I=>?_⟩
 obtain⟨_,⟨b,J⟩,_,O⟩:=Qcb.1 I
 have:=row_len W H.inv (p:=x.1) J
 unfold rowMax at this
 rw[O];omega
theorem Qeu {p q:Pl}{r:List Sm}: ∀{l:List Pth},(∀x∈l,x.1=p→x.2.1=q→x.2.2=r)→(∃x∈l,x.1=p∧x.2.1=q)→Qfy p q l=r
 | [],_,h=>by obtain⟨x,H,_⟩:=h;cases H
 |y::l,h,O=>by
  unfold Qfy
  by_cases I:y.1=p∧y.2.1=q
  ·rw[if_pos I];exact h y (Qf ..) I.1 I.2
  ·rw[if_neg I]
   refine Qeu (fun x H=>h x (Qe _ H)) ?_
   obtain⟨x,H,J⟩:=O
   rcases Qk.1 H with rfl|H
   ·exact absurd J I
   ·exact⟨x,H,J⟩
theorem Qel {p q:Pl}: ∀{l:List Pth},(∀x∈l,¬(x.1=p∧x.2.1=q))→Qfy p q l=[]
 | [],_=>rfl
 |y::l,h=>by
  unfold Qfy
  rw[if_neg (h y (Qf ..))]
  exact Qel fun x H=>h x (Qe _ H)
theorem sums_tab {g:List Nd}{d:List Int}{T:Pl→Pl→List Sm}(J:TT g d T)(p q:Pl):Qfy p q (tabL g d T)=T p q:=by
 by_cases h:T p q=[]
 ·rw[h]
  refine Qel fun x I H=>?_
  obtain⟨_,_,O,_⟩:=Qcb.1 I
  rw[H.1,H.2]at O
  exact O h
 ·refine Qeu (fun x I h1 H=>?_) ⟨(p,q,T p q),Qcb.2 ⟨(J.sp p q h).1,(J.sp p q h).2,h,rfl⟩,rfl,rfl⟩
  rw[(Qcb.1 I).2.2.2,h1,H]
theorem Qhx {x y:Int}(l:List Sm)(hl:l.length≤1000000000)(O: ∀s∈l,GS x y s){s:Sm}(hs:GS x y s):F.n l s=some (l.any fun u=>decide (Pth.le (ctr u) (ctr s))):=by
 have h:=A.fst l (fun u=>decide (Pth.le (ctr u) (ctr s))) (fun f z=>F.d l s f z)
  (fun f=>by rw[F.d,if_neg (by omega)])
  (fun f k u H hk=>by
   rw[F.d,if_pos (by omega),A.ixn H,Qa,F.di]
   rw[show F.et (_,_,_,_,(_,_,_,_)) (_,_,_,_,(_,_,_,_))=_ from Leq_R (O u (Qg H)) hs,Qa,Qa,A.gd1 (A.r64n (by omega))])
  (by have:=Qab;omega)
 unfold F.n F.aq
 rcases h with⟨I,J⟩|⟨k,u,I,J,h3,_⟩
 ·rw[show F.d l (_,_,_,_,(_,_,_,_)) A.FU 0=_ from I,Qa,Xq.2 fun u H=>by rw[J u H];decide];rfl
 ·rw[show F.d l (_,_,_,_,(_,_,_,_)) A.FU 0=_ from J,Qa,X9.2 ⟨u,Qg I,h3⟩,decide_eq_true (by omega)]
theorem tmod_in {α:Type}{xs:List α}(h:(xs.length:Int)≠0)(b:UInt8): ∃x,A.ix xs (Int.tmod (b.toNat:Int) (xs.length:Int))=some x∧x∈xs:=by
 have e:Int.tmod (b.toNat:Int) (xs.length:Int)=((b.toNat%xs.length:Nat):Int):=by rw[Int.tmod_eq_emod_of_nonneg (by omega)];rfl
 have H:b.toNat%xs.length<xs.length:=Jh _ (by omega)
 rw[e]
 exact⟨_,A.ixn (Qd H),List.getElem_mem H⟩
theorem table_any (g:List Nd)(hg:(Z.Ty.slice T83).ok g):(∃e,e≠0∧F.aX g=some ([],e))∨
  ∃l d dm T,Whole g l d dm∧TT g d T∧F.cX g=some (spots g d,0)∧F.dA g=some (edges g d,0)∧(edges g d).length≤1000000∧F.aX g=some (tabL g d T,0):=by
 have I: ∀n∈g,A.h6 n.1:=fun n hn=>by
  obtain⟨h,_⟩:=hg.2 n hn
  exact h
 have J: ∀x∈g,x.2.2.2.2.1.size≤9223372036854775807∧x.2.2.2.1.2.2.size≤9223372036854775807:=fun x hx=>by
  obtain⟨_,_,_,⟨_,_,hS⟩,hN,_,_⟩:=hg.2 x hx
  exact⟨hN,hS⟩
 rcases whole_all g J with hF|⟨e,H,hw⟩
 ·rcases graph_tell g hF with⟨e,H,O,_,_,_⟩|⟨l,d,dm,W,O,h2,h3,h4,hE⟩
  ·refine .inl ⟨e,H,?_⟩
   unfold F.aX;rw[O,Qa,if_pos H]
  ·obtain⟨T,hT,h5⟩:=table_P W I hE O h3
   exact .inr ⟨l,d,dm,T,W,hT,h2,h4,hE,h5⟩
 ·refine .inl ⟨e,H,?_⟩
  unfold F.aX F.b2
  rw[hw]
  simp only[Qa,A.om,if_pos H]
theorem ways_l2 {O:Int→Int→Int→Int→Int→Int→Int→Int→Int→Int→Int→Option Bool}(E:List Ed)(hE:E.length≤1000000)(p:Pl)(s:Sm)(y68:Int)(x71:UInt8)(h68:0≤y68∧y68≤1000)
  (hx: ∀x∈E,x.1=p→((F.ci s x.2.2).bind fun r109=>(if r109.2≠0 then(some true)else A.gd (Z.R64 (y68+1)) (O x.2.1.1 x.2.1.2 r109.1.1 r109.1.2.1 r109.1.2.2.1 r109.1.2.2.2.1 r109.1.2.2.2.2.1 r109.1.2.2.2.2.2.1 r109.1.2.2.2.2.2.2.1 r109.1.2.2.2.2.2.2.2 (y68+1))))=some true):
  F.aO O (E,0) p.1 p.2 s.1 s.2.1 s.2.2.1 s.2.2.2.1 s.2.2.2.2.1 s.2.2.2.2.2.1 s.2.2.2.2.2.2.1 s.2.2.2.2.2.2.2 y68 x71 A.FU [] 0=some true:=
 A.lp E (fun f (xs:List Ed) z=>F.aO O (E,0) p.1 p.2 s.1 s.2.1 s.2.2.1 s.2.2.2.1 s.2.2.2.2.1 s.2.2.2.2.2.1 s.2.2.2.2.2.2.1 s.2.2.2.2.2.2.2 y68 x71 f xs z) (fun _ _ _=>some true) (fun k xs=>xs.length≤k∧∀x∈xs,x∈E∧x.1=p)
  (fun f xs hp=>by
   rw[F.aO,if_neg (show ¬(E.length:Int)<(E.length:Int) by omega)]
   by_cases J:(xs.length:Int)=0
   ·rw[if_pos J]
   obtain⟨x,h1,h2⟩:=tmod_in J x71
   rw[if_neg J,A.gd1 ⟨⟨by omega,by have:=x71.toNat_lt;omega⟩,J⟩,h1,Qa]
   exact hx x (hp.2 x h2).1 (hp.2 x h2).2)
  (fun f xs k x hk hlt hp ih=>by
   rw[F.aO,if_pos (show(k:Int)<(E.length:Int) by omega),show A.ix ((E,0):List Ed×Int).1 (k:Int)=some x from A.ixn hk,Qa]
   unfold F.cx
   rw[A.gd1 (A.r64n (by omega)),A.gd1 (A.r64n (by omega))]
   by_cases H:x.1=p
   ·rw[if_pos H,A.gd1 (by rw[X2];have:=hp.1;omega)]
    refine ih _ ⟨by rw[Qm,X2];have:=hp.1;omega,fun z I=>?_⟩
    rcases Qn.1 I with I|I
    ·exact hp.2 z I
    ·rw[Qj]at I
     subst I
     exact⟨Qg hk,H⟩
   ·rw[if_neg H]
    exact ih _ ⟨by have:=hp.1;omega,hp.2⟩)
  (by have:=Qab;omega) [] ⟨by simp,fun x hx=>by cases hx⟩
section
variable {g:List Nd}{l d:List Int}{dm:List (Int×Int)}(W:Whole g l d dm)
include W
theorem ways_l3 {T:Pl→Pl→List Sm}(H:TT g d T)(hE:(edges g d).length≤1000000)(a1:List UInt8){st:Sp}(hst:st∈spots g d)(hL:(List.take ((min (a1.length:Int) 60).toNat) a1).length≤60): ∀(n f i:Nat),i+n=(List.take ((min (a1.length:Int) 60).toNat) a1).length→n<f→∀(p:Pl) (y:Int) (s:Sm),(p,y)∈spots g d→Pth.Way (EN g d) (i0N g d) st.1 p (ctr s)→GN g d st.1 p s→
  F.aZ a1 (tabL g d T,0) (edges g d,0) st f p.1 p.2 s.1 s.2.1 s.2.2.1 s.2.2.2.1 s.2.2.2.2.1 s.2.2.2.2.2.1 s.2.2.2.2.2.2.1 s.2.2.2.2.2.2.2 (i:Int)=some true:=by
 have hTbl:=tabL_tbl W H
 intro n
 induction n with
 |zero=>
  intro f i h1 h2 p y s hp hw J
  obtain⟨f,rfl⟩: ∃f',f=f'+1:=⟨f-1,by omega⟩
  rw[F.aZ,if_neg (by omega)]
 |succ n ih=>
  intro f i h1 h2 p y s hp hw J
  obtain⟨f,rfl⟩: ∃f',f=f'+1:=⟨f-1,by omega⟩
  have hlt:i<(List.take ((min (a1.length:Int) 60).toNat) a1).length:=by omega
  have hrl:=row_len W H.inv (p:=st.1) hp
  unfold rowMax at hrl
  have hany:((T st.1 p).any fun u=>decide (Pth.le (ctr u) (ctr s)))=true:=by
   obtain⟨u,hu,O⟩:=H.tab.all (netN W) ⟨st.1,fun e=>H.ini st hst (List.map_eq_nil_iff.1 e)⟩ hw
   obtain⟨v,hv,rfl⟩:=Qv.1 hu
   exact X9.2 ⟨v,hv,decide_eq_true O⟩
  rw[F.aZ,if_pos (by omega),A.ixn (Qd hlt),Qa,show F.cY ((tabL g d T,0):List Pth×Int).1 st.1 p=_ from Sums_P _ st.1 p hTbl,Qa,sums_tab H,
   show F.n (T st.1 p) (_,_,_,_,(_,_,_,_))=_ from Qhx _ (by omega) (fun u hu=>(H.inv.good _ _ u hu).1) J,Qa,hany,if_neg (by decide)]
  refine ways_l2 (edges g d) hE p s i _ (by omega) fun x hx hxp=>?_
  obtain⟨⟨_,_⟩,⟨y',hy'⟩⟩:=(Qao W hx).ends
  subst hxp
  rcases Qhu W hx J with⟨v,O,_,h4⟩|⟨O,z,_,h4⟩
  ·rw[h4,Qa,if_neg (fun h=>h rfl),A.gd1 (A.r64n (by omega))]
   have I:eNt x∈EN g d:=Qv.2 ⟨x,hx,rfl⟩
   have h5:=(syN W).some I J O
   exact ih f (i+1) (by omega) (by omega) x.2.1 y' v hy' (.step hw I rfl h5.2) h5.1
  ·rw[h4,Qa,if_pos (show(12:Int)≠0 by decide)]
end
theorem pathsWays_plain {P:Prop}(g:List Nd)(a1:List UInt8)(hg:(Z.Ty.slice T83).ok g)(_:P):F.c7 g a1=some true:=by
 obtain⟨b,O,hb⟩:=few10_eq g
 have out: ∀r:List Pth×Int,F.bw g a1 r true=some true:=fun r=>by
  unfold F.bw;rw[if_pos rfl,begunP];rfl
 unfold F.c7
 rcases table_any g hg with⟨e,h0,I⟩|⟨l,d,dm,T,W,hT,h2,h3,hE,I⟩
 ·rw[I,Qa,begunP,Qa,if_neg (by decide),O,Qa]
  simp only[decide_eq_true h0]
  cases b<;>exact out _
 ·rw[I,Qa,begunP,Qa,if_neg (by decide),O,Qa]
  cases b with
  |false=>exact out _
  |true=>
   by_cases ha:(a1.length:Int)=0
   ·simp only[ha,decide_true];exact out _
   simp only[ha,decide_false,Xk,cond_false,ne_eq,not_true_eq_false]
   unfold F.bw
   rw[if_neg (by decide),h2,Qa,h3,Qa]
   by_cases H:((spots g d).length:Int)=0
   ·rw[if_pos H]
    have:spots g d=[]:=List.length_eq_zero_iff.1 (by omega)
    unfold tabL
    rw[this];rfl
   rw[if_neg H]
   obtain⟨z,hz⟩: ∃z,A.ix a1 0=some z:=⟨a1[0]'(by omega),A.ixn (k:=0) (Qd (by omega))⟩
   obtain⟨x,h4,J⟩:=tmod_in H z
   obtain⟨_,i2,i3,i4,i5⟩:=o_b1 W (p:=x.1) (x:=x.2) J
   rw[hz,Qa,A.gd1 ⟨⟨by omega,by have:=z.toNat_lt;omega⟩,H⟩,h4,Qa,i2,Qa,A.gd1 ⟨by omega,by omega⟩]
   have hL:(List.take ((min (a1.length:Int) 60).toNat) a1).length≤60:=by rw[Qt];omega
   exact ways_l3 W hT hE a1 J hL _ A.FU 0 (Wc _) (by have:=Qab;omega) x.1 x.2 (idP x.2).1 J (by rw[i5];exact .nil) i4
end Go.Proofs.YtlbnpmfggfbdoaaGreatDoor
end
section
namespace Go.Z
open Go.RowKit
def OpenT (P:Program)(T:TypeId)(t:Ty):Prop:=
 P.cellsOf T=t.size∧∀(H:Type) (enc:TypeId×Value→H) (w:World) (base:Nat) (spare:Nat→Bool) (held:Bool) (fuel:Nat) (cs:List Value) (x:DataW H×List MemPlace),
  DataW.trod enc P w base spare held fuel T cs=some x→∃y:t.den,t.rep w (nt []) cs y
section
variable {P:Program}{T e:TypeId}
theorem ot_int {k:IntKind}(J:P.cellsOf T=1)(O:P.underlying T=some (.int k)):OpenT P T (.int k):=⟨J,fun H enc w base spare held fuel cs x h=>by
 obtain⟨n,rfl,_,I⟩:=DataW.trod_int O h
 refine⟨n,rfl,?_⟩
 simp only[Lit.wf,Ql,decide_eq_true_eq]at I
 exact I⟩
theorem ot_byte (I:P.cellsOf T=1)(J:P.underlying T=some (.int .u8)):OpenT P T .byte:=⟨I,fun H enc w base spare held fuel cs x h=>by
 obtain⟨n,rfl,_,O⟩:=DataW.trod_int J h
 simp[Lit.wf,IntKind.min,IntKind.max,IntKind.signed,IntKind.bits]at O
 exact⟨UInt8.ofNat n.toNat,congrArg (fun z=>[Value.int .u8 z]) (u8_of (by omega))⟩⟩
theorem ot_str (I:P.cellsOf T=1)(J:P.underlying T=some .string):OpenT P T .str:=⟨I,fun H enc w base spare held fuel cs x h=>by
 obtain⟨s,rfl,_,O⟩:=DataW.trod_string J h
 exact⟨s,rfl,O⟩⟩
def OpenPs (P:Program):List (TypeId×Nat)→Nat→Ty→Prop
 | [],_,_=>False
 | [(T,o')],o,t=>o'=o∧OpenT P T t
 |(T,o')::p::ps,o,.pair a b=>o'=o∧OpenT P T a∧OpenPs P (p::ps) (o+a.size) b
 |_::_::_,_,_=>False
theorem open_ps {H:Type}{enc:TypeId×Value→H}{w:World}{base:Nat}{spare:Nat→Bool}{held:Bool}{fuel:Nat}{cs:List Value}:
  ∀(ps:List (TypeId×Nat)) (o:Nat) (t:Ty),OpenPs P ps o t→(∀p∈ps,∃x,DataW.trod enc P w base spare held fuel p.1 ((cs.drop p.2).take (P.cellsOf p.1))=some x)→∃y:t.den,t.rep w (nt []) ((cs.drop o).take t.size) y
 | [],_,_,h,_=>h.elim
 | [(T,o')],o,t,h,I=>by
  obtain⟨rfl,⟨J,O⟩⟩:=h
  obtain⟨x,I⟩:=I (T,o') (Qj.2 rfl)
  rw[←J];exact O _ _ _ _ _ _ _ _ _ I
 |(T,o')::p::ps,o,.pair a b,h,I=>by
  obtain⟨rfl,⟨J,O⟩,hr⟩:=h
  obtain⟨x,h1⟩:=I (T,o') (Qf ..)
  obtain⟨ya,hya⟩:=O _ _ _ _ _ _ _ _ _ h1
  obtain⟨yb,hyb⟩:=open_ps (p::ps) _ b hr fun q hq=>I q (Qe _ hq)
  refine⟨(ya,yb),_,_,?_,hya,hyb⟩
  show(cs.drop o').take (a.size+b.size)=_
  rw[J,List.take_add,X4]
 |_::_::_,_,.int _,h,_=>h.elim
 |_::_::_,_,.byte,h,_=>h.elim
 |_::_::_,_,.bool,h,_=>h.elim
 |_::_::_,_,.str,h,_=>h.elim
 |_::_::_,_,.slice _,h,_=>h.elim
theorem ot_struct {fs:List Field}{t:Ty}(hc:P.cellsOf T=t.size)(ht:P.underlying T=some (.struct fs.toArray))(h:OpenPs P (fs.map fun f=>(f.type,f.offset)) 0 t):OpenT P T t:=⟨hc,fun H enc w base spare held fuel cs x hx=>by
 obtain⟨xs,n,_,_,hl,hs,hf⟩:=DataW.trod_struct ht hx
 have I:cs=(cs.drop 0).take t.size:=by rw[Wa,W6 (by omega)]
 rw[I]
 refine open_ps (fuel:=n) (enc:=enc) (base:=base) (spare:=spare) (held:=held) _ 0 t h fun p hp=>?_
 obtain⟨f,J,rfl⟩:=Qv.1 hp
 obtain⟨i,O,he⟩:=Xe J
 have h1:=hf i f (by rw[Ws,Qd O,he])
 rw[h1,Qd (by rw[hs];simpa using O)]
 exact⟨_,rfl⟩⟩
theorem rows_of {t:Ty}{w:World}{g:Addr}: ∀(n:Nat),(∀i,i<n→∃(cs:List Value) (y:t.den),cs.length=t.size∧(∀j u,cs[j]?=some u→w.cell? (g.add (i*t.size+j))=some u)∧t.rep w (nt []) cs y)→
  ∃(cells:List Value) (ys:List t.den),ys.length=n∧cells.length=n*t.size∧(∀j u,cells[j]?=some u→w.cell? (g.add j)=some u)∧∀(i:Nat) (y:t.den),ys[i]?=some y→t.rep w (nt []) ((cells.drop (i*t.size)).take t.size) y
 |0,_=>⟨[],[],rfl,by simp,by simp,by simp⟩
 |n+1,h=>by
  obtain⟨cells,ys,h1,J,h3,h4⟩:=rows_of n fun i H=>h i (by omega)
  obtain⟨cs,y,c1,c2,c3⟩:=h n (by omega)
  refine⟨cells++cs,ys++[y],by simp[h1],by rw[Qm,J,c1,Nat.succ_mul],fun j u I=>?_,?_⟩
  ·by_cases O:j<cells.length
   ·rw[Q7 O]at I;exact h3 j u I
   ·rw[Wf (by omega)]at I
    have:=c2 _ u I
    rwa[J,show n*t.size+(j-n*t.size)=j by omega]at this
  ·refine Qen (xs:=ys) (ys:=[y]) (by rw[J,h1]) h4 fun i y' H=>?_
   have:i=0:=by have:=(Qc.1 H).1;simp at this;omega
   subst this
   simp at H;subst H
   rw[Nat.zero_mul,Wa,W6 (by omega)];exact c3
theorem ot_slice {t:Ty}(hc:P.cellsOf T=1)(ht:P.underlying T=some (.slice e))(h:OpenT P e t):OpenT P T (.slice t):=⟨hc,fun H enc w base spare held fuel cs x hx=>by
 rcases DataW.trod_slice ht hx with⟨rfl,_⟩|⟨ad,len,cap,elems,rest,n,_,rfl,_,hb,hl,hm,hlen,hel,_,_⟩
 ·exact⟨[],Qdy _⟩
 ·have each: ∀i,i<len→∃(cs:List Value) (y:t.den),cs.length=t.size∧(∀j u,cs[j]?=some u→w.cell? (ad.add (i*t.size+j))=some u)∧t.rep w (nt []) cs y:=fun i hi=>by
   have I:=hel i hi
   rw[Qd (by omega),Jk]at I
   obtain⟨cs',O,h3⟩:=I
   obtain⟨_,h4,h5⟩:=World.cells?_some O
   obtain⟨y,hy⟩:=h.2 _ _ _ _ _ _ _ _ _ h3
   rw[h.1]at h4 h5
   refine⟨cs',y,h4,fun j u hj=>?_,hy⟩
   have J:=(Qc.1 hj).1
   have:=h5 j (by omega)
   rw[add_add]at this
   rw[this,hj]
  obtain⟨cells,ys,I,O,h3,h4⟩:=rows_of len each
  by_cases hz:len=0
  ·subst hz
   have:ys=[]:=Wn I
   subst this
   exact⟨[],some ad,cap,[],rfl,by simp,hm,by simp,.inl rfl,by simp⟩
  ·have hp:=Qak t
   have J:0<cells.length:=by rw[O];exact Nat.mul_pos (by omega) hp
   have h0:=h3 0 _ (Qd J)
   have hspot:=World.cell?_spot h0
   obtain⟨b,off,spot⟩:=ad
   simp only[Addr.add]at hspot
   subst hspot
   refine⟨ys,some ⟨b,off,none⟩,cap,cells,by rw[I],by omega,hm,by rw[I];exact O,.inr ⟨b,off,rfl,by simp[nt],fun j u hj=>?_⟩,h4⟩
   have:=h3 j u hj
   rwa[Addr.add_lit]at this⟩
end
end Go.Z
end
section
namespace Go.Proofs.YtlbnpmfggfbdoaaGreatDoor.pathsWaysDone
open Go.ChangeShapes Go.WideShapes Go.ChangeAt Go.RowKit
theorem own:ownKnob Tryz.prog.godebug=none:=by kernel_rfl
theorem laidOut:laidOutB Tryz.prog=true:=by kernel_rfl
theorem ot3:Z.OpenT Tryz.prog 3 A.ti:=Z.ot_int (by kernel_rfl) Tryz.underlying3
theorem ot80:Z.OpenT Tryz.prog 80 A.TI:=Z.ot_slice (by kernel_rfl) Tryz.underlying80 ot3
theorem ot2:Z.OpenT Tryz.prog 2 A.ti:=Z.ot_int (by kernel_rfl) Tryz.underlying2
theorem ot9:Z.OpenT Tryz.prog 9 Z.Ty.str:=Z.ot_str (by kernel_rfl) Tryz.underlying9
theorem ot82:Z.OpenT Tryz.prog 82 T81:=Z.ot_struct (by kernel_rfl) Tryz.underlying82 ⟨rfl,ot3,rfl,ot2,rfl,ot9⟩
theorem ot84:Z.OpenT Tryz.prog 84 T83:=Z.ot_struct (by kernel_rfl) Tryz.underlying84 ⟨rfl,ot3,rfl,ot3,rfl,ot80,rfl,ot82,rfl,ot9,rfl,ot2,rfl,ot3⟩
theorem ot22:Z.OpenT Tryz.prog 22 (Z.Ty.slice T83):=Z.ot_slice (by kernel_rfl) Tryz.underlying22 ot84
theorem ot24:Z.OpenT Tryz.prog 24 T23:=Z.ot_struct (by kernel_rfl) Tryz.underlying24 ⟨rfl,ot22⟩
theorem ot5:Z.OpenT Tryz.prog 5 Z.Ty.byte:=Z.ot_byte (by kernel_rfl) Tryz.underlying5
theorem ot32:Z.OpenT Tryz.prog 32 (Z.Ty.slice Z.Ty.byte):=Z.ot_slice (by kernel_rfl) Tryz.underlying32 ot5
set_option maxRecDepth 100000 in
theorem laid_met (os:Os)(args:Array Value):laidMetH Tryz.prog Rows.pathsWaysRow.laid (({World.holding Tryz.prog os ⟨#[],#[],[]⟩with heap:=((World.holding Tryz.prog os ⟨#[],#[],[]⟩).heap.modify 0 (A.putCells A.tabF)).modify 1 (A.putCells A.tabA)}:World).forCall (fun _ _=>0) ⟨#[],args,[]⟩).memory:=by
 rw[MakeChecks.laidMetH_plain _ _ _ (by kernel_rfl)]
 exact(LaidIn.of_run (l:=Rows.pathsWaysRow.laid) [1,0] 8 (by kernel_rfl) (by kernel_rfl) (by kernel_rfl) (by kernel_rfl)).met
theorem of_laid {W:World}(h:laidMetH Tryz.prog Rows.pathsWaysRow.laid W):Lib.Utf8Tabs 0 1 W:=by
 rw[MakeChecks.laidMetH_plain _ _ _ (by kernel_rfl)]at h
 have H:=Lib.laidMet.reads h (.tail _ (.head _))
 rw[show Rows.laid_unicode_utf8_first=Lib.firstData from Pinned.utf8First_eq]at H
 have I:=Lib.laidMet.reads h (.head _)
 rw[show(Rows.laid_unicode_utf8_acceptRanges:DataW Unit)=Lib.acceptData by kernel_rfl]at I
 exact utf8Tabs_of_readsT (U8Types.of196 Tryz.laysValid) ⟨by kernel_rfl,by kernel_rfl,by kernel_rfl,by kernel_rfl,by kernel_rfl,by kernel_rfl,by kernel_rfl⟩ H I
set_option maxHeartbeats 1000000 in
set_option maxRecDepth 100000 in
theorem lifted (os:Os)(started:os.Started)(H:Type)(enc:TypeId×Value→H):
  ReturnsInHanded {} Tryz.checked os 4 .any (fun w args=>(Rows.pathsWaysSpec.pre enc Tryz.prog Tryz.f4 [] false w args∧laidMetH Tryz.prog Rows.pathsWaysRow.laid w)∧sizedMet enc Tryz.prog Tryz.f4 (OpenSpec.ofChange Rows.pathsWaysSpec) false w args) (Rows.pathsWaysSpec.post enc Tryz.prog Tryz.f4 false true false false):=by
 refine returnsInHanded_of_change_and (C:=Tryz.checked) (X:=fun w _=>laidMetH Tryz.prog Rows.pathsWaysRow.laid w) (fun _ _ _ hh h=>h.of_heap hh) own started (by kernel_rfl) Tryz.func4
  (ChangeSpec.witness_shaped (enc:=enc) (C:=Tryz.checked) (os:=os) (X:=fun w _=>laidMetH Tryz.prog Rows.pathsWaysRow.laid w) false ({World.holding Tryz.prog os ⟨#[],#[],[]⟩with heap:=((World.holding Tryz.prog os ⟨#[],#[],[]⟩).heap.modify 0 (A.putCells A.tabF)).modify 1 (A.putCells A.tabA)}) #[.agg #[.slice none 0 0],.slice none 0 0] 16 rfl (World.shaped_of_RefB (by kernel_rfl) (by kernel_rfl)) (by kernel_rfl) (by kernel_rfl) (by kernel_rfl) (laid_met os _)) ?_
 intro W base args ds gs before hval0 hW hcnd hsz0 hL _
 have hval: ∀(j:Nat) t v,Tryz.f4.params[j]?=some t→args[j]?=some v→Value.okWide Tryz.prog W .any base t v:=hval0
 have hW':=hW
 obtain⟨p,q,hA0,hV,rfl,hfz,hnd⟩:=hW
 have hA:DataW.TrodAll enc Tryz.prog W 0 (fun _=>true) true Tryz.f4.params.toList args.toList ds p:=hA0
 rw[Tryz.params4]at hA hval
 obtain⟨v0,vs0,d0,ds0,p0,q0,hargs,rfl,rfl,h0,r0⟩:=trodAll_cons hA
 obtain⟨v1,vs1,d1,ds1,p1,q1,rfl,rfl,rfl,h1,r1⟩:=trodAll_cons r0
 obtain⟨rfl,rfl,rfl⟩:=trodAll_nil r1
 obtain rfl:args=#[v0,v1]:=by cases args;simp_all
 obtain⟨rfl,rfl⟩:=trodVars_none hV
 have k0:=h0
 have lt0: ∀x∈p0,x.block<W.heap.size:=by obtain⟨m,hm⟩:=k0;exact DataW.trod_lt m _ _ _ hm
 obtain⟨fu0,hf0⟩:=h0
 obtain⟨O,I⟩:=ot24.2 _ _ _ _ _ _ _ _ _ hf0
 obtain⟨cs0,rfl,_⟩:=okWide_struct Tryz.underlying24 (hval 0 24 v0 rfl rfl)
 replace I:T23.rep W (Z.nt []) cs0.toList O:=I
 have hok0:=Z.rep_ok _ I
 obtain⟨a0,c0,hc0⟩: ∃a c,cs0.toList=[.slice a O.length c]:=by obtain⟨a,c,_,h,_⟩:=I;exact⟨a,c,h⟩
 obtain rfl:cs0=#[.slice a0 O.length c0]:=by rw[←W7 (xs:=cs0),hc0]
 have k1:=h1
 have lt1: ∀x∈p1,x.block<W.heap.size:=by obtain⟨m,hm⟩:=k1;exact DataW.trod_lt m _ _ _ hm
 obtain⟨fu1,hf1⟩:=h1
 obtain⟨x1,J⟩:=ot32.2 _ _ _ _ _ _ _ _ _ hf1
 obtain⟨a1,n1,c1,rfl⟩:=okWide_slice Tryz.underlying32 (hval 1 32 v1 rfl rfl)
 replace J:(Z.Ty.slice Z.Ty.byte).rep W (Z.nt []) [.slice a1 n1 c1] x1:=J
 have hn1:=(Z.rep_slice_len J).1
 subst hn1
 clear hA0 hval0
 have htab:=of_laid hL
 have hF:F.c7 O x1=some true:=pathsWays_plain O x1 hok0 (Z.rep_ok _ J)
 have hct:=o_aX a0 a1 c0 c1 O x1 true hF
 refine(hct W (fun _=>True) (A.Hp.start ⟨A.Hall.sh I,A.Hall.sh J,A.Hall.tabs htab⟩)).mono ?_
 rintro e W' ⟨v,H',rfl,⟨rfl,rfl⟩,hh⟩
 have bel:=hh.ch.below
 exact⟨_,rfl,_,_,_,[],_,[],hW',trodAll_mk1 (shut_bool Tryz.underlying4 _),(trodAll_cons_mk (Below.trod laidOut (by kernel_rfl) (of_decide_eq_true (by kernel_rfl)) k0 bel lt0) (trodAll_cons_mk (Below.trod laidOut (by kernel_rfl) (of_decide_eq_true (by kernel_rfl)) k1 bel lt1) trodAll_mk0)),rfl,bel.frame _,fun h=>by cases h⟩
theorem over:Rows.pathsWaysRow.holds Tryz.pinned (OpenSpec.ofChange Rows.pathsWaysSpec):=
 OpenClaim.holds_of_wide 4 Tryz.f4 rfl rfl rfl rfl rfl rfl rfl ⟨rfl,rfl,rfl,rfl,rfl⟩ rfl rfl rfl rfl rfl (by kernel_rfl) Tryz.func4 (by kernel_rfl)
  (of_decide_eq_true (by kernel_rfl)) (by unfold Func.isWrapper;first|(rw[if_pos (by decide+kernel)];kernel_rfl)|(rw[if_neg (by decide+kernel)];exact⟨rfl,rfl⟩))
  (fun os started H enc _=>lifted os started H enc)
theorem proved:Rows.PathsWaysCardSaid:=
 Claim7.holds_tied_plain_at .later [] [.data,.pinned] true (true,"0af9d568bb84d7a8a7896f1e0d35c96323cc734ed9264ae90a39a3d574a26123") false
  over (fun _ h=>by cases h) (by kernel_rfl) (fun _ h=>by cases h) pathsWays_row_tie rfl ⟨rfl,rfl⟩ (by kernel_rfl) rfl
  (fun f fn J H=>by
   obtain rfl:f=4:=Qq ((show Tryz.prog.funcNamed Rows.pathsWaysRow.func=some 4 by kernel_rfl).symm.trans J) |>.symm
   obtain rfl:fn=Tryz.f4:=(Qq (Tryz.func4.symm.trans H)).symm
   exact⟨by kernel_rfl,fun j t I=>by
    rw[Tryz.params4]at I
    have O:t∈[24,32]:=by simpa using Array.mem_of_getElem? I
    have hall:([24,32].all fun u=> !Tryz.prog.wantsStandIn u)=true:=by kernel_rfl
    exact(show Tryz.prog.wantsStandIn t=false by simpa using Qy.1 hall t O)⟩)
  (by kernel_rfl)
#print axioms proved
end Go.Proofs.YtlbnpmfggfbdoaaGreatDoor.pathsWaysDone
end
