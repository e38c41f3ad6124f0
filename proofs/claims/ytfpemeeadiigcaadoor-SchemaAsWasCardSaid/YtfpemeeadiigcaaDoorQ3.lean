/- Plain: a text as runes, each with its bytes. No program in sight. * Plain: a text's runes by the program and by the reference; texts cut. * Plain: a row turned round; a text in capitals; parts of a text. * Plain: what a function of records makes of one, by the program and by the reference. * Plain: entries in order, by node, key and text; what they add up to. No program in sight. * Plain: entries by the program and by the reference: order, states, lists, what is put in. * Plain: a state moved, by the program and by the reference. * Plain: moves: which fit, what they make of a state; by the program and by the reference. * Plain: what is moved is a state; the parts of a state, moved. * A layer over the small logic, continued: how long an argument's row may be. No program in sight. * A small logic over the model's walk, continued: arguments of a row, opened: what a reader treads reads as a datum. No program in sight. * The law 'SchemaAsWas' as it is given: whatever the input, the call returns true, and each argument reads behind it as it read before. No condition but that utf8's two tables hold what the library's text lays, which the card ties. -/
import Derived.Test.YtfpemeeadiigcaaDoorQ0
import Derived.Lib.MapLaws
import Derived.Lib.ValidU
import Derived.Laws.Cover4
import Derived.Test.YtfpemeeadiigcaaDoorQ2
import Derived.SizedLaws
import Derived.OpenShut
import Derived.ShutString
import Derived.ChangeOld
import Derived.ChangeArms
import Derived.DataReads
import Derived.Test.YtfpemeeadiigcaaDoorRows
import Derived.Test.YtfpemeeadiigcaaDoorTie
import Derived.Test.YtfpemeeadiigcaaDoorCards
import Derived.WalkKit
import Derived.ProofKit
import Derived.Below
import Derived.LaidMore
import Derived.Stop.Joined
import Derived.SevenTiedAt
import Derived.Lib.LaidIn
import Derived.Lib.LaidU8T
import Derived.PinnedBridge
section
set_option linter.unusedVariables false
set_option linter.unusedSimpArgs false
namespace Go.Utf
open Go.Lib
abbrev Rn:=List UInt8×Int
theorem enc_eq (r:Int):(Utf8.encode r).data.toList=encodeRune r:=by
 unfold Utf8.encode encodeRune
 by_cases h1:0≤r∧r≤127
 ·rw[encodeRuneZ_one h1.1 h1.2]
  have hv:Utf8.valid r=true:=by simp[Utf8.valid];omega
  rw[if_pos hv]
  have hc:r.toNat<128:=by omega
  simp only[hc,if_true]
  simp
 by_cases h2:128≤r∧r≤2047
 ·rw[encodeRuneZ_two h2.1 h2.2]
  have hv:Utf8.valid r=true:=by simp[Utf8.valid];omega
  rw[if_pos hv]
  obtain⟨n,rfl⟩: ∃n:Nat,r=n:=⟨r.toNat,by omega⟩
  have hc: ¬(n<128):=by omega
  have hc2:n<2048:=by omega
  simp only[Int.toNat_natCast,hc,if_false,hc2,if_true,List.map_cons,List.map_nil]
  have e1:(192+(n:Int) / 64).toNat=192+n / 64:=by omega
  have e2:(128+(n:Int)%64).toNat=128+n%64:=by omega
  rw[e1,e2]
 by_cases h3:(2048≤r∧r<55296)∨(57343<r∧r≤65535)
 ·rw[encodeRuneZ_three h3]
  have hv:Utf8.valid r=true:=by simp[Utf8.valid];omega
  rw[if_pos hv]
  obtain⟨n,rfl⟩: ∃n:Nat,r=n:=⟨r.toNat,by omega⟩
  have hc: ¬(n<128):=by omega
  have hc2: ¬n<2048:=by omega
  have hc3:n<65536:=by omega
  simp only[Int.toNat_natCast,hc,if_false,hc2,hc3,if_true,List.map_cons,List.map_nil]
  have e1:(224+(n:Int) / 4096).toNat=224+n / 4096:=by omega
  have e2:(128+(n:Int) / 64%64).toNat=128+n / 64%64:=by omega
  have e3:(128+(n:Int)%64).toNat=128+n%64:=by omega
  rw[e1,e2,e3]
 by_cases h4:65536≤r∧r≤1114111
 ·rw[encodeRuneZ_four h4.1 h4.2]
  have hv:Utf8.valid r=true:=by simp[Utf8.valid];omega
  rw[if_pos hv]
  obtain⟨n,rfl⟩: ∃n:Nat,r=n:=⟨r.toNat,by omega⟩
  have hc: ¬(n<128):=by omega
  have hc2: ¬n<2048:=by omega
  have hc3: ¬n<65536:=by omega
  simp only[Int.toNat_natCast,hc,if_false,hc2,hc3,List.map_cons,List.map_nil]
  have e0:(240+(n:Int) / 262144).toNat=240+n / 262144:=by omega
  have e1:(128+(n:Int) / 4096%64).toNat=128+n / 4096%64:=by omega
  have e2:(128+(n:Int) / 64%64).toNat=128+n / 64%64:=by omega
  have e3:(128+(n:Int)%64).toNat=128+n%64:=by omega
  rw[e0,e1,e2,e3]
 ·rw[encodeRuneZ_bad (by omega)]
  have hv: ¬Utf8.valid r=true:=by simp[Utf8.valid];omega
  rw[if_neg hv]
  rfl
theorem decN_ext {n n' b0 b1 b2 b3 c1 c2 c3:Nat}{r k:Nat}(h:decodeN n b0 b1 b2 b3=(r,k))(hv: ¬(r=65533∧k=1))(hn:k≤n')(h1:1<k→c1=b1)(h2:2<k→c2=b2)(h3:3<k→c3=b3):decodeN n' b0 c1 c2 c3=(r,k):=by
 rcases decodeN_shape n b0 b1 b2 b3 with⟨q,e⟩|⟨q1,q2,q3,qv,e⟩|⟨q1,q2,q3,q4,qv,qs,e⟩|⟨q1,q2,q3,q4,q5,qv,qw,e⟩|e
 ·rw[e]at h;injection h with e1 e2;subst e1;subst e2
  unfold decodeN;rw[if_pos q]
 ·rw[e]at h;injection h with e1 e2;subst e1;subst e2
  obtain rfl:=h1 (by omega)
  unfold decodeN
  rw[if_neg (by omega),if_pos ⟨q1,by omega,q3⟩,if_pos qv]
 ·rw[e]at h;injection h with e1 e2;subst e1;subst e2
  obtain rfl:=h1 (by omega)
  obtain rfl:=h2 (by omega)
  unfold decodeN
  rw[if_neg (by omega),if_neg (by omega),if_pos ⟨q1,⟨by omega,q3⟩,by omega,q4⟩,if_pos ⟨qv,by omega⟩]
 ·rw[e]at h;injection h with e1 e2;subst e1;subst e2
  obtain rfl:=h1 (by omega)
  obtain rfl:=h2 (by omega)
  obtain rfl:=h3 (by omega)
  unfold decodeN
  rw[if_neg (by omega),if_neg (by omega),if_neg (by omega),if_pos ⟨q1,⟨by omega,q3⟩,⟨by omega,q4⟩,by omega,q5⟩,if_pos ⟨qv,.inr ⟨by omega,qw⟩⟩]
 ·rw[e]at h;injection h with e1 e2;subst e1;subst e2
  exact absurd ⟨rfl,rfl⟩ hv
structure Ck (c:Rn):Prop where
 ne:c.1≠[]
 four:c.1.length≤4
 enc:(Utf8.encode c.2).data.toList=c.1
 dec: ∀rest,decodeL (c.1++rest)=(c.2.toNat,c.1.length)
 nn:0≤c.2
 top:c.2≤1114111
 ok: ¬(c.2.toNat=65533∧c.1.length=1)
theorem decodeL_four (l:List UInt8):(decodeL l).2≤4:=by
 rw[decodeL_N]
 rcases decodeN_shape l.length (l.getD 0 0).toNat (l.getD 1 0).toNat (l.getD 2 0).toNat (l.getD 3 0).toNat with⟨c,e⟩|⟨c1,c2,c3,cv,e⟩|⟨c1,c2,c3,c4,cv,cs,e⟩|⟨c1,c2,c3,c4,c5,cv,cw,e⟩|e
 all_goals (rw[e];simp)
theorem Ck.of {l:List UInt8}(hne:l≠[])(hv: ¬((decodeL l).1=65533∧(decodeL l).2=1)):Ck (l.take (decodeL l).2,((decodeL l).1:Int)):=by
 have hw:=decodeL_width l
 have hle:=decodeL_le l hne
 have hlen:(l.take (decodeL l).2).length=(decodeL l).2:=by rw[List.length_take];omega
 refine⟨fun h=>?_,by show(l.take _).length≤4;rw[hlen];exact decodeL_four l,?_,fun rest=>?_,by simp,?_,?_⟩
 ·have:=congrArg List.length h
  simp only[List.length_nil]at this
  rw[hlen]at this;omega
 ·exact(enc_eq _).trans (encode_decode l hne hv)
 ·show decodeL (l.take (decodeL l).2++rest)=((((decodeL l).1:Nat):Int).toNat,(l.take (decodeL l).2).length)
  rw[hlen,Int.toNat_natCast]
  have e:decodeL l=decodeN l.length (l.getD 0 0).toNat (l.getD 1 0).toNat (l.getD 2 0).toNat (l.getD 3 0).toNat:=decodeL_N l
  obtain⟨r,k,hrk⟩: ∃r k,decodeL l=(r,k):=⟨_,_,rfl⟩
  rw[hrk]at hv hw hle hlen ⊢
  rw[hrk]at e
  simp only at hv hw hle hlen ⊢
  have hg: ∀i,i<k→(l.take k++rest).getD i 0=l.getD i 0:=fun i hi=>by
   simp only[List.getD]
   rw[List.getElem?_append_left (by rw[hlen];exact hi),List.getElem?_take_of_lt hi]
  rw[decodeL_N,hg 0 (by omega)]
  refine decN_ext e.symm hv (by rw[List.length_append,hlen];omega) (fun h=>by rw[hg 1 h]) (fun h=>by rw[hg 2 h]) (fun h=>by rw[hg 3 h])
 ·have:=decodeL_rune l
  show((decodeL l).1:Int)≤1114111
  omega
 ·show ¬((((decodeL l).1:Nat):Int).toNat=65533∧(l.take (decodeL l).2).length=1)
  rw[hlen,Int.toNat_natCast];exact hv
theorem Ck.len {c:Rn}(h:Ck c):1≤c.1.length:=by
 cases hc:c.1 with
 |nil=>exact absurd hc h.ne
 |cons a b=>simp
def ckF:Nat→List UInt8→List Rn
 |0,_=>[]
 |n+1,l=>if l=[]then []else(l.take (decodeL l).2,((decodeL l).1:Int))::ckF n (l.drop (decodeL l).2)
def cks (l:List UInt8):List Rn:=ckF l.length l
abbrev flat (cs:List Rn):List UInt8:=cs.flatMap (·.1)
theorem flat_cons (c:Rn)(cs:List Rn):flat (c::cs)=c.1++flat cs:=rfl
theorem flat_ckF: ∀(n:Nat) (l:List UInt8),l.length≤n→flat (ckF n l)=l
 |0,l,h=>by rw[List.eq_nil_of_length_eq_zero (Nat.le_zero.1 h)];rfl
 |n+1,l,h=>by
  unfold ckF
  by_cases hl:l=[]
  ·rw[if_pos hl,hl];rfl
  ·rw[if_neg hl,flat_cons,flat_ckF n _ (by have:=decodeL_width l;rw[List.length_drop];have:=List.length_pos_iff.2 hl;omega)]
   exact List.take_append_drop _ _
theorem valid_ckF: ∀(n:Nat) (l:List UInt8),l.length≤n→validGoD n l=true→∀c,c∈ckF n l→Ck c
 |0,l,h,_,c,hc=>by cases hc
 |n+1,l,h,hv,c,hc=>by
  unfold ckF at hc
  unfold validGoD at hv
  by_cases hl:l=[]
  ·rw[if_pos hl]at hc;cases hc
  ·rw[if_neg hl]at hc hv
   split at hv
   ·cases hv
   ·rename_i hb
    rcases List.mem_cons.1 hc with rfl|hc
    ·exact Ck.of hl hb
    ·exact valid_ckF n _ (by have:=decodeL_width l;rw[List.length_drop];have:=List.length_pos_iff.2 hl;omega) hv c hc
theorem ckF_flat: ∀(cs:List Rn) (n:Nat),(∀c,c∈cs→Ck c)→(flat cs).length≤n→ckF n (flat cs)=cs∧validGoD n (flat cs)=true
 | [],n,_,_=>by cases n with
  |zero=>exact⟨rfl,rfl⟩
  |succ n=>exact⟨by unfold ckF;rw[if_pos (show flat ([]:List Rn)=[]from rfl)],by unfold validGoD;rw[if_pos (show flat ([]:List Rn)=[]from rfl)]⟩
 |c::cs,n,h,hn=>by
  have hc:=h c (List.mem_cons_self ..)
  have h1:=hc.len
  rw[flat_cons]at hn ⊢
  rw[List.length_append]at hn
  obtain⟨n,rfl⟩: ∃m,n=m+1:=⟨n-1,by omega⟩
  have hne:c.1++flat cs≠[]:=fun e=>hc.ne (List.append_eq_nil_iff.1 e).1
  obtain⟨i1,i2⟩:=ckF_flat cs n (fun x hx=>h x (List.mem_cons_of_mem _ hx)) (by omega)
  unfold ckF validGoD
  rw[if_neg hne,if_neg hne,hc.dec]
  simp only[List.take_left,List.drop_left]
  rw[if_neg hc.ok,i1,Int.toNat_of_nonneg hc.nn]
  exact⟨rfl,i2⟩
theorem cks_flat {cs:List Rn}(h: ∀c,c∈cs→Ck c):cks (flat cs)=cs:=(ckF_flat cs _ h (Nat.le_refl _)).1
theorem valid_flat {cs:List Rn}(h: ∀c,c∈cs→Ck c):validD (flat cs)=true:=(ckF_flat cs _ h (Nat.le_refl _)).2
theorem valid_cks {l:List UInt8}(h:validD l=true):flat (cks l)=l∧∀c,c∈cks l→Ck c:=⟨flat_ckF _ _ (Nat.le_refl _),valid_ckF _ _ (Nat.le_refl _) h⟩
theorem foldl_toList (ns:List Int): ∀s:ByteArray,(ns.foldl (fun r n=>r++Utf8.encode n) s).data.toList=s.data.toList++ns.flatMap fun n=>(Utf8.encode n).data.toList:=by
 induction ns with
 |nil=>intro s;simp
 |cons n ns ih=>intro s;rw[List.foldl_cons,ih];simp[ByteArray.data_append]
theorem runes_flat {cs:List Rn}(h: ∀c,c∈cs→Ck c):(runesBytes (cs.map (·.2))).data.toList=flat cs:=by
 unfold runesBytes
 rw[foldl_toList]
 have:ByteArray.empty.data.toList=[]:=rfl
 rw[this,List.nil_append,List.flatMap_map]
 induction cs with
 |nil=>rfl
 |cons c cs ih=>
  rw[List.flatMap_cons,flat_cons,ih fun x hx=>h x (List.mem_cons_of_mem _ hx),(h c (List.mem_cons_self ..)).enc]
theorem ba_eq {s t:ByteArray}(h:s.data.toList=t.data.toList):s=t:=by
 cases s;cases t;congr;exact Array.toList_inj.1 h
def ats:Int→List Rn→List (Int×Int)
 |_,[]=>[]
 |p,c::cs=>(p,c.2)::ats (p+c.1.length) cs
def bd (n:Nat):Nat→List Rn→Nat
 |p,[]=>p
 |p,c::cs=>if p+c.1.length≤n then bd n (p+c.1.length) cs else p
theorem bd_pre (n:Nat): ∀(cs:List Rn) (p:Nat),p≤n→∃k,bd n p cs=p+(flat (cs.take k)).length∧bd n p cs≤n
 | [],p,h=>⟨0,by simp[bd],by simpa[bd] using h⟩
 |c::cs,p,h=>by
  unfold bd
  split
  ·rename_i hp
   obtain⟨k,h1,h2⟩:=bd_pre n cs _ hp
   exact⟨k+1,by rw[h1,List.take_succ_cons,flat_cons,List.length_append];omega,h2⟩
  ·exact⟨0,by simp,h⟩
theorem flat_take (cs:List Rn)(k:Nat):(flat cs).take (flat (cs.take k)).length=flat (cs.take k):=by
 have:flat cs=flat (cs.take k)++flat (cs.drop k):=by rw[←List.flatMap_append,List.take_append_drop]
 rw[this,List.take_left]
end Go.Utf
end
section
set_option maxRecDepth 20000
set_option linter.unusedVariables false
set_option linter.unusedSimpArgs false
namespace Go.Proofs.YtfpemeeadiigcaaDoor
open Go.RowKit Go.Graph Go.Utf
theorem drop_ne {s:ByteArray}{p:Nat}(h:p<s.size):s.data.toList.drop p≠[]:=fun e=>by
 have:=congrArg List.length e
 rw[List.length_drop,size_list]at this
 simp only[List.length_nil]at this;omega
theorem drop_nil {s:ByteArray}{p:Nat}(h: ¬p<s.size):s.data.toList.drop p=[]:=List.drop_eq_nil_of_le (by rw[size_list];omega)
theorem ck_step {s:ByteArray}{n p:Nat}(h:p<s.size):ckF (n+1) (s.data.toList.drop p)=((s.data.toList.drop p).take (Utf8.decode s p).2,((Utf8.decode s p).1:Int))::ckF n (s.data.toList.drop (p+(Utf8.decode s p).2)):=by
 rw[ckF,if_neg (drop_ne h),Lib.decodeL_drop,List.drop_drop]
theorem ck_end {s:ByteArray}{n p:Nat}(h: ¬p<s.size):ckF n (s.data.toList.drop p)=[]:=by
 rw[drop_nil h]
 cases n with
 |zero=>rfl
 |succ n=>rw[ckF,if_pos rfl]
theorem cks_0 (s:ByteArray):cks s.data.toList=ckF s.size (s.data.toList.drop 0):=rfl
theorem dec_fits {s:ByteArray}{p:Nat}(h:p<s.size):1≤(Utf8.decode s p).2∧p+(Utf8.decode s p).2≤s.size:=by
 rw[←Lib.decodeL_drop]
 have h1:=Lib.decodeL_width (s.data.toList.drop p)
 have h2:=Lib.decodeL_le _ (drop_ne h)
 rw[List.length_drop,size_list]at h2
 omega
theorem runes_F (s:ByteArray)(hs:s.size≤1099511627776):F.fn_runes s=some ((cks s.data.toList).map (·.2)):=by
 have loop: ∀(n p f:Nat) (xs:List Int),s.size-p≤n→n<f→xs.length≤p→F.fn_runes_l1 s f p xs=some (xs++(ckF n (s.data.toList.drop p)).map (·.2)):=by
  intro n
  induction n with
  |zero=>
   intro p f xs hp hf _
   obtain⟨f,rfl⟩: ∃f',f=f'+1:=⟨f-1,by omega⟩
   rw[F.fn_runes_l1,if_neg (by omega),ck_end (by omega)];simp
  |succ n ih=>
   intro p f xs hp hf hx
   obtain⟨f,rfl⟩: ∃f',f=f'+1:=⟨f-1,by omega⟩
   by_cases h:p<s.size
   ·have hd:=dec_fits h
    rw[F.fn_runes_l1,if_pos h,A.gd1 (by simp only[List.length_cons,List.length_nil];omega),ih _ _ _ (by omega) (by omega) (by simp only[List.length_append,List.length_cons,List.length_nil];omega),ck_step h]
    simp
   ·rw[F.fn_runes_l1,if_neg h,ck_end h];simp
 have:=loop s.size 0 A.FU [] (by omega) (by have:=FU_big;omega) (by simp)
 rw[F.fn_runes,this,cks_0];simp
theorem flat_append (a b:List Rn):flat (a++b)=flat a++flat b:=List.flatMap_append
theorem iter_F (s:ByteArray):F.rec_Runes_1_it s=some (ats 0 (cks s.data.toList))∨9223372036854775807<s.size:=by
 by_cases hs:s.size≤9223372036854775807
 ·left
  have loop: ∀(n p f:Nat),s.size-p≤n→n<f→F.rec_Runes_1_it_l1 s f p=some (ats p (ckF n (s.data.toList.drop p))):=by
   intro n
   induction n with
   |zero=>
    intro p f hp hf
    obtain⟨f,rfl⟩: ∃f',f=f'+1:=⟨f-1,by omega⟩
    rw[F.rec_Runes_1_it_l1,if_neg (by omega),ck_end (by omega)];rfl
   |succ n ih=>
    intro p f hp hf
    obtain⟨f,rfl⟩: ∃f',f=f'+1:=⟨f-1,by omega⟩
    by_cases h:p<s.size
    ·have hd:=dec_fits h
     rw[F.rec_Runes_1_it_l1,if_pos h,ih _ _ (by omega) (by omega),ck_step h,ats]
     have e2:((s.data.toList.drop p).take (Utf8.decode s p).2).length=(Utf8.decode s p).2:=by
      rw[List.length_take,List.length_drop,size_list];omega
     rw[e2]
     simp[A.cns]
    ·rw[F.rec_Runes_1_it_l1,if_neg h,ck_end h];rfl
  exact loop s.size 0 A.FU (by omega) (by have:=FU_big;omega)
 ·right;omega
theorem ext_all (s:ByteArray):s.extract 0 s.size=s:=by
 refine ba_eq ?_
 rw[ByteArray.data_extract,Array.toList_extract]
 simp[List.extract_eq_take_drop]
 exact List.take_of_length_le (Nat.le_of_eq (size_list s))
theorem rcut_l (s:ByteArray)(n:Nat): ∀(cs:List Rn) (p e:Nat),p+(flat cs).length=s.size→e≤s.size→F.rec_Cut_l1 s n (ats p cs) e=some (s.extract 0 (if p≤n then bd n p cs else e))
 | [],p,e,hp,he=>by
  simp only[List.flatMap_nil,List.length_nil,Nat.add_zero]at hp
  subst hp
  rw[ats,F.rec_Cut_l1,bd]
  by_cases h:s.size≤n
  ·rw[if_pos (by omega),if_pos h,ext_all]
  ·rw[if_neg (by omega),if_neg h,A.gd1 ⟨by omega,by omega⟩,Int.toNat_natCast]
 |c::cs,p,e,hp,he=>by
  rw[flat_cons,List.length_append]at hp
  rw[ats,F.rec_Cut_l1,bd]
  by_cases h:p≤n
  ·rw[if_neg (by simp;omega),if_pos h]
   have e1:(p:Int)+(c.1.length:Int)=((p+c.1.length:Nat):Int):=by omega
   show F.rec_Cut_l1 s n (ats ((p:Int)+(c.1.length:Int)) cs) (p:Int)=_
   rw[e1]
   exact rcut_l s n cs (p+c.1.length) p (by omega) (by omega)
  ·rw[if_pos (by simp;omega),if_neg h,A.gd1 ⟨by omega,by omega⟩,Int.toNat_natCast]
theorem rec_Cut_eq (s:ByteArray)(n:Nat)(hs:s.size≤9223372036854775807):F.rec_Cut s n=some (s.extract 0 (bd n 0 (cks s.data.toList))):=by
 rw[F.rec_Cut,F.rec_Runes,Option.bind_some]
 rcases iter_F s with h|h
 ·rw[h,Option.bind_some]
  have hf:(flat (cks s.data.toList)).length=s.size:=by
   have:flat (cks s.data.toList)=s.data.toList:=flat_ckF _ _ (Nat.le_refl _)
   rw[this,size_list]
  have:=rcut_l s n (cks s.data.toList) 0 0 (by omega) (by omega)
  rw[if_pos (Nat.zero_le _)]at this
  exact this
 ·omega
end Go.Proofs.YtfpemeeadiigcaaDoor
end
section
set_option maxRecDepth 20000
set_option linter.unusedVariables false
set_option linter.unusedSimpArgs false
namespace Go.Proofs.YtfpemeeadiigcaaDoor
open Go.RowKit Go.Graph Go.Utf
theorem Reverse_eq (l:List Int)(hl:l.length≤4611686018427387904):F.slices_Reverse_rune_rune l=some l.reverse:=by
 have loop: ∀(m f:Nat) (X0 M B:List Int),M.length≤m→m<f→X0.length+M.length≤4611686018427387904→F.slices_Reverse_rune_rune_l1 f (X0++M++B) (X0.length:Int) ((X0.length:Int)+(M.length:Int)-1)=some (X0++M.reverse++B):=by
  intro m
  induction m with
  |zero=>
   intro f X0 M B hm hf _
   obtain⟨f,rfl⟩: ∃f',f=f'+1:=⟨f-1,by omega⟩
   obtain rfl:M=[]:=List.eq_nil_of_length_eq_zero (by omega)
   rw[F.slices_Reverse_rune_rune_l1,if_neg (by simp only[List.length_nil];omega)];simp
  |succ m ih=>
   intro f X0 M B hm hf hlen
   obtain⟨f,rfl⟩: ∃f',f=f'+1:=⟨f-1,by omega⟩
   by_cases h2:M.length<2
   ·have hr:M.reverse=M:=by
     match M,h2 with
     | [],_=>rfl
     | [x],_=>rfl
    rw[F.slices_Reverse_rune_rune_l1,if_neg (by omega),hr]
   ·obtain⟨x,M1,rfl⟩: ∃x M1,M=x::M1:=by
     cases M with
     |nil=>simp at h2
     |cons x M1=>exact⟨x,M1,rfl⟩
    obtain⟨M2,y,rfl⟩: ∃M2 y,M1=M2++[y]:=by
     have hne:M1≠[]:=fun e=>by subst e;simp at h2
     exact⟨M1.dropLast,M1.getLast hne,(List.dropLast_concat_getLast hne).symm⟩
    simp only[List.length_cons,List.length_append,List.length_nil]at hm hlen h2 ⊢
    have ei:(X0.length:Int)+((M2.length+(0+1)+1:Nat):Int)-1=((X0.length+M2.length+1:Nat):Int):=by omega
    rw[ei]
    have hy:(X0++(x::(M2++[y]))++B)[X0.length+M2.length+1]?=some y:=by
     rw[List.append_assoc,List.getElem?_append_right (by omega),show X0.length+M2.length+1-X0.length=M2.length+1 by omega,List.cons_append,List.getElem?_cons_succ,List.append_assoc,List.getElem?_append_right (Nat.le_refl _)]
     simp
    have hx:(X0++(x::(M2++[y]))++B)[X0.length]?=some x:=by
     rw[List.append_assoc,List.getElem?_append_right (Nat.le_refl _)];simp
    have hs1:(X0++(x::(M2++[y]))++B).set X0.length y=X0++(y::(M2++[y]))++B:=by
     rw[List.append_assoc,List.set_append_right _ _ (Nat.le_refl _)];simp
    have hy2:(X0++(y::(M2++[y]))++B)[X0.length+M2.length+1]?=some y:=by
     rw[List.append_assoc,List.getElem?_append_right (by omega),show X0.length+M2.length+1-X0.length=M2.length+1 by omega,List.cons_append,List.getElem?_cons_succ,List.append_assoc,List.getElem?_append_right (Nat.le_refl _)]
     simp
    have hs2:(X0++(y::(M2++[y]))++B).set (X0.length+M2.length+1) x=(X0++[y])++M2++([x]++B):=by
     rw[List.append_assoc,List.set_append_right _ _ (by omega),show X0.length+M2.length+1-X0.length=M2.length+1 by omega,List.cons_append,List.set_cons_succ,List.append_assoc,List.set_append_right _ _ (Nat.le_refl _)]
     simp
    rw[F.slices_Reverse_rune_rune_l1,if_pos (by omega),A.ixn hy,Option.bind_some,A.ixn hx,Option.bind_some,Option.bind_some,Int.toNat_natCast,hs1,A.ixn hy2,Option.bind_some,A.gd1 ⟨⟨by omega,by omega⟩,by omega,by omega⟩,Int.toNat_natCast,hs2]
    have:=ih f (X0++[y]) M2 ([x]++B) (by omega) (by omega) (by simp only[List.length_append,List.length_cons,List.length_nil];omega)
    simp only[List.length_append,List.length_cons,List.length_nil]at this
    rw[show((X0.length:Nat):Int)+1=((X0.length+(0+1):Nat):Int) by omega,show((X0.length+M2.length+1:Nat):Int)-1=((X0.length+(0+1):Nat):Int)+(M2.length:Int)-1 by omega,this]
    simp
 have:=loop l.length A.FU [] l [] (Nat.le_refl _) (by have:=FU_big;omega) (by simp;omega)
 rw[F.slices_Reverse_rune_rune,A.gd1 ⟨by omega,by omega⟩]
 simpa using this
def upB (b:UInt8):UInt8:=if 97≤b.toNat∧b.toNat≤122 then UInt8.ofNat (b.toNat-32)else b
def upper (s:ByteArray):ByteArray:=⟨(s.data.toList.map upB).toArray⟩
theorem up_set {l:List UInt8}{k:Nat}{x:UInt8}(h:l[k]?=some x):((l.take k).map upB++l.drop k).set k (upB x)=(l.take (k+1)).map upB++l.drop (k+1):=by
 have hlt:=(List.getElem?_eq_some_iff.1 h).1
 have hk:((l.take k).map upB).length=k:=by rw[List.length_map,List.length_take];omega
 rw[List.set_append_right _ _ (by omega),hk,Nat.sub_self,A.dropx h,List.take_add_one,h]
 simp
theorem up_get {l:List UInt8}{k:Nat}{x:UInt8}(h:l[k]?=some x):((l.take k).map upB++l.drop k)[k]?=some x:=by
 have hlt:=(List.getElem?_eq_some_iff.1 h).1
 have hk:((l.take k).map upB).length=k:=by rw[List.length_map,List.length_take];omega
 rw[List.getElem?_append_right (by omega),hk,Nat.sub_self,A.dropx h];rfl
theorem up_same {l:List UInt8}{k:Nat}{x:UInt8}(h:l[k]?=some x)(hx:upB x=x):(l.take k).map upB++l.drop k=(l.take (k+1)).map upB++l.drop (k+1):=by
 rw[←up_set h,hx]
 refine(List.ext_getElem? fun i=>?_)
 rw[List.getElem?_set]
 split
 ·rename_i e;subst e
  rw[up_get h]
  split
  ·rfl
  ·rename_i h2
   have:=up_get h
   rw[List.getElem?_eq_none (by omega)]at this;cases this
 ·rfl
theorem b8_up {x:UInt8}(h:97≤x.toNat∧x.toNat≤122):A.b8 ((x.toNat:Int)-32)=upB x:=by
 unfold A.b8 upB
 rw[if_pos h]
 congr 1;omega
theorem wrap8 {x:Int}(h0:0≤x)(h1:x<256):IntKind.u8.wrap x=x:=by
 simp[IntKind.wrap,IntKind.bits,IntKind.signed];omega
theorem upper_F (s:ByteArray)(hs:s.size≤9223372036854775806):F.fn_upper s=some (upper s):=by
 have:=A.lp s.data.toList (fun f (xs:List UInt8) y=>F.fn_upper_l2 s f xs y) (fun _ _ _=>some (upper s)) (fun k xs=>xs=(s.data.toList.take k).map upB++s.data.toList.drop k)
  (fun f xs hp=>by
   show F.fn_upper_l2 s (f+1) xs _=_
   rw[F.fn_upper_l2,if_neg (by omega),hp,List.take_length,List.drop_length,List.append_nil];rfl)
  (fun f xs k x hx hk hp ih=>by
   subst hp
   have hkz:k<s.size:=by rw[←size_list];exact hk
   show F.fn_upper_l2 s (f+1) _ _=_
   rw[F.fn_upper_l2,if_pos (by omega),A.ixn (up_get hx),Option.bind_some]
   simp only[A.ba]
   by_cases h:97≤x.toNat∧x.toNat≤122
   ·rw[if_pos (by simp;omega),Option.bind_some,F.fn_upper_j1,A.gd1 ⟨by omega,by omega⟩,wrap8 (by omega) (by omega),show(x.toNat:Int)-97+65=(x.toNat:Int)-32 by omega,b8_up h,Int.toNat_natCast,up_set hx]
    exact ih _ rfl
   ·have hx2:upB x=x:=by unfold upB;rw[if_neg h]
    rw[if_neg (by simp;omega),F.fn_upper_j1,A.gd1 ⟨by omega,by omega⟩,up_same hx hx2]
    exact ih _ rfl)
  (by have:=FU_big;rw[size_list];omega) s.data.toList (by simp)
 rw[F.fn_upper];exact this
abbrev pos (cs:List Rn) (k:Nat):Nat:=(flat (cs.take k)).length
theorem pos_le (cs:List Rn){a b:Nat}(h:a≤b):pos cs a≤pos cs b:=by
 have:cs.take b=cs.take a++(cs.take b).drop a:=by
  rw[List.drop_take]
  have:=List.take_append_drop a (cs.take b)
  rw[List.take_take,Nat.min_eq_left h,List.drop_take]at this
  exact this.symm
 show(flat _).length≤(flat _).length
 rw[this,flat_append,List.length_append];omega
theorem ext_flat {s:ByteArray}{cs:List Rn}(hf:flat cs=s.data.toList)(a b:Nat):(s.extract (pos cs a) (pos cs b)).data.toList=flat ((cs.take b).drop a):=by
 rw[ByteArray.data_extract,Array.toList_extract,List.extract_eq_take_drop,←hf]
 by_cases h:a≤b
 ·have e1:cs.take b=cs.take a++(cs.take b).drop a:=by
   have:=List.take_append_drop a (cs.take b)
   rw[List.take_take,Nat.min_eq_left h]at this
   exact this.symm
  have e2:flat (cs.take b)=flat (cs.take a)++flat ((cs.take b).drop a):=by rw[←flat_append,←e1]
  have e3:flat cs=flat (cs.take a)++(flat ((cs.take b).drop a)++flat (cs.drop b)):=by
   rw[←List.append_assoc,←e2,←flat_append,List.take_append_drop]
  have e4:pos cs b-pos cs a=(flat ((cs.take b).drop a)).length:=by
   show(flat (cs.take b)).length -(flat (cs.take a)).length=_
   rw[e2,List.length_append];omega
  rw[e3,show pos cs a=(flat (cs.take a)).length from rfl,List.drop_left]
  rw[show(flat (cs.take b)).length -(flat (cs.take a)).length=(flat ((cs.take b).drop a)).length from e4,List.take_left]
 ·have h1:=pos_le cs (show b≤a by omega)
  have h2:(cs.take b).drop a=[]:=List.drop_eq_nil_of_le (by rw[List.length_take];omega)
  rw[show pos cs b-pos cs a=0 by omega,h2,List.take_zero];rfl
end Go.Proofs.YtfpemeeadiigcaaDoor
end
section
set_option maxRecDepth 20000
set_option linter.unusedVariables false
set_option linter.unusedSimpArgs false
namespace Go.Proofs.YtfpemeeadiigcaaDoor
open Go.RowKit Go.Graph Go.Utf
abbrev Rec:=Int×ByteArray
def okT (s:ByteArray):Bool:=decide (s.size≤64)&&vld s s.size 0
theorem rec_Check_eq (r:Rec):F.rec_Check r=some (if okT r.2=true then 0 else 50):=by
 rw[F.rec_Check]
 unfold okT
 by_cases h:r.2.size≤64
 ·rw[if_neg (by omega),F.utf8_ValidString,validD_eq,Option.bind_some,F.rec_Check_j1,decide_eq_true h,Bool.true_and]
  cases vld r.2 r.2.size 0<;>rfl
 ·rw[if_pos (by omega),F.rec_Check_j1,if_pos rfl,decide_eq_false h];rfl
theorem okT_iff {s:ByteArray}:okT s=true↔s.size≤64∧vld s s.size 0=true:=by unfold okT;simp
theorem vld_cks {s:ByteArray}(h:vld s s.size 0=true):flat (cks s.data.toList)=s.data.toList∧∀c,c∈cks s.data.toList→Ck c:=valid_cks (by rw[validD_eq];exact h)
theorem vld_of {s:ByteArray}{cs:List Rn}(h:s.data.toList=flat cs)(hc: ∀c,c∈cs→Ck c):vld s s.size 0=true:=by
 rw[←validD_eq,h];exact valid_flat hc
theorem cks_of {s:ByteArray}{cs:List Rn}(h:s.data.toList=flat cs)(hc: ∀c,c∈cs→Ck c):cks s.data.toList=cs:=by rw[h];exact cks_flat hc
theorem app_list (s t:ByteArray):(s++t).data.toList=s.data.toList++t.data.toList:=by rw[ByteArray.data_append,Array.toList_append]
theorem vld_app {s t:ByteArray}(hs:vld s s.size 0=true)(ht:vld t t.size 0=true):vld (s++t) (s++t).size 0=true∧cks (s++t).data.toList=cks s.data.toList++cks t.data.toList:=by
 obtain⟨h1,h2⟩:=vld_cks hs
 obtain⟨h3,h4⟩:=vld_cks ht
 have e:(s++t).data.toList=flat (cks s.data.toList++cks t.data.toList):=by rw[flat_append,h1,h3,app_list]
 have hc: ∀c,c∈cks s.data.toList++cks t.data.toList→Ck c:=fun c hc=>(List.mem_append.1 hc).elim (h2 c) (h4 c)
 exact⟨vld_of e hc,cks_of e hc⟩
theorem cks_len (s:ByteArray):(cks s.data.toList).length≤s.size:=by
 have: ∀(n:Nat) (l:List UInt8),(ckF n l).length≤n:=by
  intro n
  induction n with
  |zero=>intro l;simp[ckF]
  |succ n ih=>intro l;unfold ckF;split<;>simp;exact ih _
 exact this _ _
def mapK (f:Fun)(r:Rec):Rec:=
 if f.1=2 then(r.1,upper r.2)else if f.1=3 then(r.1,⟨(flat ((cks r.2.data.toList).take f.2.1.toNat)).toArray⟩)else if f.1=4 then(r.1,⟨(flat (cks r.2.data.toList).reverse).toArray⟩)
 else if f.1=5 then(r.1,(r.2++f.2.2).extract 0 (bd 64 0 (cks (r.2++f.2.2).data.toList)))else if f.1=6 then(Int.tmod (Int.tmod r.1 f.2.1+f.2.1) f.2.1,r.2)
 else if f.1=7 then(((cks r.2.data.toList).length:Int),r.2)else if f.1=8 then((((cks r.2.data.toList).map (·.2))[0]?).getD 0,r.2)else r
def mapP (f:Fun)(r:Rec):Rec×Int:=if chk 2 f≠0 then((0,ByteArray.mk #[]),chk 2 f)else if okT r.2=true then(mapK f r,0)else((0,ByteArray.mk #[]),50)
theorem chk_map {f:Fun}(h:chk 2 f=0):(1≤f.1∧f.1≤8)∧numberF f=true∧textP f=true:=by
 have hk:chk 2 f=anyF f [1,2,3,4,5,6,7,8]:=rfl
 rw[hk]at h
 unfold anyF at h
 split at h
 ·rename_i h1
  rw[List.any_eq_true]at h1
  obtain⟨y,hy,h2⟩:=h1
  simp only[Bool.and_eq_true,decide_eq_true_eq]at h2
  obtain⟨rfl,h3,h4⟩:=h2
  refine⟨?_,h3,h4⟩
  simp only[List.mem_cons,List.mem_nil_iff,or_false]at hy
  omega
 ·cases h
theorem num_cut {f:Fun}(h:chk 2 f=0)(h3:f.1=3):0≤f.2.1∧f.2.1≤64:=by
 have:=(chk_map h).2.1
 unfold numberF at this
 rw[if_pos (.inl h3)]at this
 simpa using this
theorem num_mod {f:Fun}(h:chk 2 f=0)(h3:f.1=6):1≤f.2.1∧f.2.1≤1048576:=by
 have:=(chk_map h).2.1
 unfold numberF at this
 rw[if_neg (by omega),if_pos (.inl h3)]at this
 simpa using this
theorem txt_behind {f:Fun}(h:chk 2 f=0)(h3:f.1=5):f.2.2.size≤16∧vld f.2.2 f.2.2.size 0=true:=by
 have:=(chk_map h).2.2
 unfold textP at this
 rw[if_pos h3]at this
 simp only[Bool.and_eq_true,decide_eq_true_eq]at this
 exact⟨by omega,this.2⟩
theorem runes_mk {cs:List Rn}(h: ∀c,c∈cs→Ck c):runesBytes (cs.map (·.2))=⟨(flat cs).toArray⟩:=ba_eq (by rw[runes_flat h])
theorem mk_size (l:List UInt8):(ByteArray.mk l.toArray).size=l.length:=by show l.toArray.size=_;simp
theorem flat_sub {cs:List Rn}(k:Nat):(flat (cs.take k)).length≤(flat cs).length:=by
 have:=congrArg List.length (flat_take cs k)
 rw[List.length_take]at this;omega
theorem flat_rev (cs:List Rn):(flat cs.reverse).length=(flat cs).length:=by
 show(cs.reverse.flatMap (·.1)).length=(cs.flatMap (·.1)).length
 simp only[List.length_flatMap]
 rw[List.map_reverse,List.sum_reverse]
theorem rest_eq {n b:Int}(h1:1≤b)(h2:b≤1048576):F.fn_rest n b=some (Int.tmod (Int.tmod n b+b) b):=by
 have t1:Int.tmod n b<b:=Int.tmod_lt_of_pos n (by omega)
 have t2: -b<Int.tmod n b:=by
  have:=Int.tmod_lt_of_pos (-n) (show 0<b by omega)
  rw[Int.neg_tmod]at this;omega
 rw[F.fn_rest,A.gd1 (by omega)]
 by_cases h:Int.tmod n b<0
 ·rw[if_pos h,A.gd1 ⟨by omega,by omega⟩,F.fn_rest_j1,Int.tmod_eq_of_lt (a:=Int.tmod n b+b) (by omega) (by omega)]
 ·rw[if_neg h,F.fn_rest_j1]
  congr 1
  rw[Int.tmod_eq_emod_of_nonneg (a:=Int.tmod n b+b) (by omega),Int.add_emod_right,Int.emod_eq_of_lt (by omega) t1]
theorem rune_fits {cs:List Rn}(h: ∀c,c∈cs→Ck c){x:Int}(hx:(cs.map (·.2))[0]?=some x):0≤x∧x≤1114111:=by
 rw[List.getElem?_map,Option.map_eq_some_iff]at hx
 obtain⟨c,hc,rfl⟩:=hx
 have:=h c (List.mem_of_getElem? hc)
 exact⟨this.nn,this.top⟩
theorem fn_both_eq (f:Fun)(r:Rec)(hs:f.2.2.size≤9223372036854775807):F.fn_both 2 f r=some (if chk 2 f≠0 then chk 2 f else if okT r.2=true then 0 else 50):=by
 rw[F.fn_both]
 show(F.fn_Check 2 f).bind _=_
 rw[fn_Check_eq 2 f hs,Option.bind_some]
 by_cases h:chk 2 f=0
 ·rw[if_neg (fun h2=>h2 h),if_neg (fun h2=>h2 h)]
  show(F.rec_Check r).bind _=_
  rw[rec_Check_eq];rfl
 ·rw[if_pos h,if_pos h]
theorem fn_Map_eq (f:Fun)(r:Rec)(hs:f.2.2.size≤9223372036854775807):F.fn_Map f r=some (mapP f r):=by
 rw[F.fn_Map]
 show(F.fn_both 2 f r).bind _=_
 rw[fn_both_eq f r hs,Option.bind_some]
 unfold mapP
 by_cases h:chk 2 f=0
 case neg=>rw[show(if chk 2 f≠0 then chk 2 f else if okT r.2=true then 0 else 50)=chk 2 f from if_pos h,if_pos h,if_pos h]
 rw[show(if chk 2 f≠0 then chk 2 f else if okT r.2=true then 0 else 50)=if okT r.2=true then 0 else 50 from if_neg (fun h2=>h2 h),if_neg (show ¬(chk 2 f≠0)from fun h2=>h2 h)]
 by_cases ho:okT r.2=true
 case neg=>rw[show(if okT r.2=true then(0:Int)else 50)=50 from if_neg ho,if_neg ho];rfl
 rw[show(if okT r.2=true then(0:Int)else 50)=0 from if_pos ho,if_pos ho,if_neg (show ¬((0:Int)≠0)from fun h2=>h2 rfl)]
 obtain⟨h64,hv⟩:=okT_iff.1 ho
 obtain⟨hf,hc⟩:=vld_cks hv
 have hfl:(flat (cks r.2.data.toList)).length=r.2.size:=by rw[hf,size_list]
 have hcl:=cks_len r.2
 rw[runes_F _ (by omega),Option.bind_some]
 unfold mapK
 by_cases e2:f.1=2
 ·rw[if_pos e2,if_pos e2,upper_F _ (by omega)];rfl
 rw[if_neg e2,if_neg e2]
 by_cases e3:f.1=3
 ·obtain⟨n1,n2⟩:=num_cut h e3
  have e:List.take (min (((cks r.2.data.toList).map (·.2)).length:Int) f.2.1).toNat ((cks r.2.data.toList).map (·.2))=((cks r.2.data.toList).take f.2.1.toNat).map (·.2):=by
   rw[List.map_take,List.length_map]
   by_cases hm:((cks r.2.data.toList).length:Int)≤f.2.1
   ·rw[Int.min_eq_left hm,Int.toNat_natCast,List.take_of_length_le (by rw[List.length_map];omega),List.take_of_length_le (by rw[List.length_map];omega)]
   ·rw[Int.min_eq_right (by omega)]
  have hsub:=flat_sub (cs:=cks r.2.data.toList) f.2.1.toNat
  rw[if_pos e3,if_pos e3,A.gd1 ⟨by omega,by rw[List.length_map];omega⟩,e,runes_mk fun c hcm=>hc c (List.mem_of_mem_take hcm),A.gd1 (by rw[mk_size];omega)]
  rfl
 rw[if_neg e3,if_neg e3]
 by_cases e4:f.1=4
 ·have hr:=flat_rev (cks r.2.data.toList)
  rw[if_pos e4,if_pos e4,Reverse_eq _ (by rw[List.length_map];omega),Option.bind_some,←List.map_reverse,runes_mk fun c hcm=>hc c (List.mem_reverse.1 hcm),A.gd1 (by rw[mk_size];omega)]
  rfl
 rw[if_neg e4,if_neg e4]
 by_cases e5:f.1=5
 ·obtain⟨n1,n2⟩:=txt_behind h e5
  have:=rec_Cut_eq (r.2++f.2.2) 64 (by rw[ByteArray.size_append];omega)
  rw[if_pos e5,if_pos e5,A.gd1 (by omega),show(64:Int)=((64:Nat):Int)from rfl,this]
  rfl
 rw[if_neg e5,if_neg e5]
 by_cases e6:f.1=6
 ·obtain⟨n1,n2⟩:=num_mod h e6
  rw[if_pos e6,if_pos e6,rest_eq n1 n2];rfl
 rw[if_neg e6,if_neg e6]
 by_cases e7:f.1=7
 ·rw[if_pos e7,if_pos e7,List.length_map];rfl
 rw[if_neg e7,if_neg e7]
 by_cases e8:f.1=8
 ·rw[if_pos e8,if_pos e8]
  cases hx:((cks r.2.data.toList).map (·.2))[0]? with
  |none=>
   have:((cks r.2.data.toList).map (·.2)).length=0:=by
    have:=List.getElem?_eq_none_iff.1 hx;omega
   rw[if_neg (by omega)];rfl
  |some x=>
   have hlt:=(List.getElem?_eq_some_iff.1 hx).1
   have hr:=rune_fits hc hx
   rw[if_pos (by omega),show A.ix ((cks r.2.data.toList).map (·.2)) 0=some x from A.ixn (k:=0) hx,Option.bind_some,A.gd1 ⟨by omega,by omega⟩];rfl
 rw[if_neg e8,if_neg e8];rfl
theorem Ck.one {b:UInt8}(h:b.toNat<128):Ck ([b],(b.toNat:Int)):=by
 have hd:Lib.decodeL [b]=(b.toNat,1):=by
  rw[Lib.decodeL_N]
  unfold Lib.decodeN
  rw[if_pos (by simpa using h)];rfl
 have:=Ck.of (l:=[b]) (by simp) (by rw[hd];intro h2;have:=h2.1;simp only at this;omega)
 rw[hd]at this
 exact this
theorem Ck.kinds {c:Rn}(h:Ck c):(∃b:UInt8,b.toNat<128∧c=([b],(b.toNat:Int)))∨∀b,b∈c.1→128≤b.toNat:=by
 have hd:=h.dec []
 rw[List.append_nil]at hd
 have hok:=h.ok
 have hlen:=h.len
 rw[Lib.decodeL_N]at hd
 have k0:=(c.1.getD 0 0).toNat_lt
 rcases Lib.decodeN_shape c.1.length (c.1.getD 0 0).toNat (c.1.getD 1 0).toNat (c.1.getD 2 0).toNat (c.1.getD 3 0).toNat with⟨q,e⟩|⟨c1,c2,c3,cv,e⟩|⟨c1,c2,c3,c4,cv,cs,e⟩|⟨c1,c2,c3,c4,c5,cv,cw,e⟩|e
 ·left
  rw[e]at hd
  injection hd with h1 h2
  have hc1:=Lib.takeA c.1 (by omega)
  rw[List.take_of_length_le (by omega)]at hc1
  refine⟨c.1.getD 0 0,q,?_⟩
  have hnn:=h.nn
  refine Prod.ext hc1 ?_
  show c.2=_
  rw[h1];omega
 ·right
  rw[e]at hd
  injection hd with h1 h2
  have hc1:=Lib.takeB c.1 (by omega)
  rw[List.take_of_length_le (by omega)]at hc1
  intro b hb
  rw[hc1]at hb
  simp only[List.mem_cons,List.mem_nil_iff,or_false]at hb
  rcases hb with rfl|rfl<;>omega
 ·right
  rw[e]at hd
  injection hd with h1 h2
  have hc1:=Lib.takeC c.1 (by omega)
  rw[List.take_of_length_le (by omega)]at hc1
  intro b hb
  rw[hc1]at hb
  simp only[List.mem_cons,List.mem_nil_iff,or_false]at hb
  rcases hb with rfl|rfl|rfl<;>omega
 ·right
  rw[e]at hd
  injection hd with h1 h2
  have hc1:=Lib.takeD c.1 (by omega)
  rw[List.take_of_length_le (by omega)]at hc1
  intro b hb
  rw[hc1]at hb
  simp only[List.mem_cons,List.mem_nil_iff,or_false]at hb
  rcases hb with rfl|rfl|rfl|rfl<;>omega
 ·rw[e]at hd
  injection hd with h1 h2
  exact absurd ⟨h1.symm,h2.symm⟩ hok
theorem upB_lt {b:UInt8}(h:b.toNat<128):(upB b).toNat <128:=by
 unfold upB
 split
 ·rename_i h2
  have e:(UInt8.ofNat (b.toNat-32)).toNat=b.toNat-32:=by
   rw[UInt8.toNat_ofNat'];omega
  rw[e];omega
 ·exact h
theorem upB_ge {b:UInt8}(h:128≤b.toNat):upB b=b:=by unfold upB;rw[if_neg (by omega)]
theorem up_ck {cs:List Rn}(h: ∀c,c∈cs→Ck c): ∃cs',(∀c,c∈cs'→Ck c)∧flat cs'=(flat cs).map upB:=by
 induction cs with
 |nil=>exact⟨[],by simp,rfl⟩
 |cons c cs ih=>
  obtain⟨cs',h1,h2⟩:=ih fun x hx=>h x (List.mem_cons_of_mem _ hx)
  have hc:=h c (List.mem_cons_self ..)
  rcases Ck.kinds hc with⟨b,hb,rfl⟩|hb
  ·exact⟨([upB b],((upB b).toNat:Int))::cs',fun x hx=>(List.mem_cons.1 hx).elim (fun e=>e▸Ck.one (upB_lt hb)) (h1 x),by rw[flat_cons,flat_cons,h2];simp⟩
  ·refine⟨c::cs',fun x hx=>(List.mem_cons.1 hx).elim (fun e=>e▸hc) (h1 x),?_⟩
   rw[flat_cons,flat_cons,h2,List.map_append]
   congr 1
   refine((List.map_congr_left fun b hbm=>upB_ge (hb b hbm)).trans ?_).symm
   simp
theorem mapK_ok {f:Fun}{r:Rec}(h:chk 2 f=0)(ho:okT r.2=true):okT (mapK f r).2=true:=by
 obtain⟨h64,hv⟩:=okT_iff.1 ho
 obtain⟨hf,hc⟩:=vld_cks hv
 have hfl:(flat (cks r.2.data.toList)).length=r.2.size:=by rw[hf,size_list]
 unfold mapK
 by_cases e2:f.1=2
 ·rw[if_pos e2]
  obtain⟨cs',h1,h2⟩:=up_ck hc
  rw[hf]at h2
  refine okT_iff.2 ⟨?_,vld_of (cs:=cs') (by rw[h2];rfl) h1⟩
  show(upper r.2).size≤64
  unfold upper
  rw[mk_size,List.length_map,size_list];exact h64
 rw[if_neg e2]
 by_cases e3:f.1=3
 ·rw[if_pos e3]
  have hsub:=flat_sub (cs:=cks r.2.data.toList) f.2.1.toNat
  exact okT_iff.2 ⟨by show(ByteArray.mk _).size≤64;rw[mk_size];omega,vld_of (cs:=(cks r.2.data.toList).take f.2.1.toNat) rfl fun c hcm=>hc c (List.mem_of_mem_take hcm)⟩
 rw[if_neg e3]
 by_cases e4:f.1=4
 ·rw[if_pos e4]
  have hr:=flat_rev (cks r.2.data.toList)
  exact okT_iff.2 ⟨by show(ByteArray.mk _).size≤64;rw[mk_size];omega,vld_of (cs:=(cks r.2.data.toList).reverse) rfl fun c hcm=>hc c (List.mem_reverse.1 hcm)⟩
 rw[if_neg e4]
 by_cases e5:f.1=5
 ·rw[if_pos e5]
  obtain⟨n1,n2⟩:=txt_behind h e5
  obtain⟨v1,v2⟩:=vld_app hv n2
  obtain⟨g1,g2⟩:=vld_cks v1
  obtain⟨k,b1,b2⟩:=bd_pre 64 (cks (r.2++f.2.2).data.toList) 0 (Nat.zero_le _)
  have e:((r.2++f.2.2).extract 0 (bd 64 0 (cks (r.2++f.2.2).data.toList))).data.toList=flat ((cks (r.2++f.2.2).data.toList).take k):=by
   have:=ext_flat g1 0 k
   rw[List.drop_zero]at this
   rw[b1,Nat.zero_add]
   exact this
  refine okT_iff.2 ⟨?_,vld_of e fun c hcm=>g2 c (List.mem_of_mem_take hcm)⟩
  show((r.2++f.2.2).extract 0 _).size≤64
  rw[ByteArray.size_extract];omega
 rw[if_neg e5]
 by_cases e6:f.1=6
 ·rw[if_pos e6];exact ho
 rw[if_neg e6]
 by_cases e7:f.1=7
 ·rw[if_pos e7];exact ho
 rw[if_neg e7]
 by_cases e8:f.1=8
 ·rw[if_pos e8];exact ho
 rw[if_neg e8];exact ho
end Go.Proofs.YtfpemeeadiigcaaDoor
end
section
set_option linter.unusedVariables false
set_option linter.unusedSimpArgs false
namespace Go.Ent
open Go.Utf
abbrev En:=Int×Int×ByteArray×Int
abbrev Ky:=Int×Int×ByteArray
abbrev key (e:En):Ky:=(e.1,e.2.1,e.2.2.1)
abbrev num (e:En):Int:=e.2.2.2
theorem bL_irr: ∀a:List UInt8,Op.bytesLess a a=false
 | []=>rfl
 |x::a=>by unfold Op.bytesLess;rw[bL_irr a];simp
theorem bL_tr: ∀{a b c:List UInt8},Op.bytesLess a b=true→Op.bytesLess b c=true→Op.bytesLess a c=true
 |_,_,[],_,h=>by cases h':(‹List UInt8›)<;>simp_all [Op.bytesLess]
 |_,[],_::_,h,_=>by simp_all [Op.bytesLess]
 | [],_::_,_::_,_,_=>rfl
 |x::a,y::b,z::c,h1,h2=>by
  unfold Op.bytesLess at h1 h2 ⊢
  simp only[Bool.or_eq_true,Bool.and_eq_true,decide_eq_true_eq,beq_iff_eq]at h1 h2 ⊢
  rcases h1 with h1|⟨rfl,h1⟩
  ·rcases h2 with h2|⟨rfl,h2⟩
   ·exact .inl (UInt8.lt_trans h1 h2)
   ·exact .inl h1
  ·rcases h2 with h2|⟨rfl,h2⟩
   ·exact .inl h2
   ·exact .inr ⟨rfl,bL_tr h1 h2⟩
theorem bL_tri: ∀{a b:List UInt8},Op.bytesLess a b=false→Op.bytesLess b a=false→a=b
 | [],[],_,_=>rfl
 | [],_::_,h,_=>by simp[Op.bytesLess]at h
 |_::_,[],_,h=>by simp[Op.bytesLess]at h
 |x::a,y::b,h1,h2=>by
  unfold Op.bytesLess at h1 h2
  simp only[Bool.or_eq_false_iff,decide_eq_false_iff_not,Bool.and_eq_false_iff]at h1 h2
  have e:x=y:=UInt8.le_antisymm (UInt8.not_lt.1 h2.1) (UInt8.not_lt.1 h1.1)
  subst e
  have h3:Op.bytesLess a b=false:=by rcases h1.2 with h|h;simp at h;exact h
  have h4:Op.bytesLess b a=false:=by rcases h2.2 with h|h;simp at h;exact h
  rw[bL_tri h3 h4]
def bl (s t:ByteArray):Bool:=Op.bytesLess s.toList t.toList
theorem bl_irr (s:ByteArray):bl s s=false:=bL_irr _
theorem bl_tr {s t u:ByteArray}(h1:bl s t=true)(h2:bl t u=true):bl s u=true:=bL_tr h1 h2
theorem bl_tri {s t:ByteArray}(h1:bl s t=false)(h2:bl t s=false):s=t:=by
 have:=bL_tri h1 h2
 rw[Lib.toList_data,Lib.toList_data]at this
 exact ba_eq this
def rl (a b:Int×ByteArray):Bool:=decide (a.1<b.1)||(decide (a.1=b.1)&&bl a.2 b.2)
theorem rl_irr (a:Int×ByteArray):rl a a=false:=by unfold rl;rw[bl_irr];simp
theorem rl_tr {a b c:Int×ByteArray}(h1:rl a b=true)(h2:rl b c=true):rl a c=true:=by
 unfold rl at h1 h2 ⊢
 simp only[Bool.or_eq_true,Bool.and_eq_true,decide_eq_true_eq]at h1 h2 ⊢
 rcases h1 with h1|⟨h1,h1'⟩
 ·rcases h2 with h2|⟨h2,h2'⟩
  ·left;omega
  ·left;omega
 ·rcases h2 with h2|⟨h2,h2'⟩
  ·left;omega
  ·exact .inr ⟨h1.trans h2,bl_tr h1' h2'⟩
theorem rl_tri {a b:Int×ByteArray}(h1:rl a b=false)(h2:rl b a=false):a=b:=by
 unfold rl at h1 h2
 simp only[Bool.or_eq_false_iff,decide_eq_false_iff_not,Bool.and_eq_false_iff]at h1 h2
 have e:a.1=b.1:=by omega
 have h3:bl a.2 b.2=false:=by rcases h1.2 with h|h;exact absurd e h;exact h
 have h4:bl b.2 a.2=false:=by rcases h2.2 with h|h;exact absurd e.symm h;exact h
 exact Prod.ext e (bl_tri h3 h4)
def kl (a b:Ky):Bool:=decide (a.1<b.1)||(decide (a.1=b.1)&&rl a.2 b.2)
theorem kl_irr (a:Ky):kl a a=false:=by unfold kl;rw[rl_irr];simp
theorem kl_tr {a b c:Ky}(h1:kl a b=true)(h2:kl b c=true):kl a c=true:=by
 unfold kl at h1 h2 ⊢
 simp only[Bool.or_eq_true,Bool.and_eq_true,decide_eq_true_eq]at h1 h2 ⊢
 rcases h1 with h1|⟨h1,h1'⟩
 ·rcases h2 with h2|⟨h2,h2'⟩
  ·left;omega
  ·left;omega
 ·rcases h2 with h2|⟨h2,h2'⟩
  ·left;omega
  ·exact .inr ⟨h1.trans h2,rl_tr h1' h2'⟩
theorem kl_tri {a b:Ky}(h1:kl a b=false)(h2:kl b a=false):a=b:=by
 unfold kl at h1 h2
 simp only[Bool.or_eq_false_iff,decide_eq_false_iff_not,Bool.and_eq_false_iff]at h1 h2
 have e:a.1=b.1:=by omega
 have h3:rl a.2 b.2=false:=by rcases h1.2 with h|h;exact absurd e h;exact h
 have h4:rl b.2 a.2=false:=by rcases h2.2 with h|h;exact absurd e.symm h;exact h
 exact Prod.ext e (rl_tri h3 h4)
theorem kl_ne {a b:Ky}(h:kl a b=true):a≠b:=fun e=>by subst e;rw[kl_irr]at h;cases h
theorem kl_asy {a b:Ky}(h:kl a b=true):kl b a=false:=by
 cases h2:kl b a with
 |false=>rfl
 |true=>have:=kl_tr h h2;rw[kl_irr]at this;cases this
abbrev Srt (l:List En):Prop:=l.Pairwise fun a b=>kl (key a) (key b)=true
def gv:List En→Ky→Int
 | [],_=>0
 |e::l,k=>if key e=k then num e else gv l k
theorem gv_none: ∀{l:List En} {k:Ky},(∀e,e∈l→key e≠k)→gv l k=0
 | [],_,_=>rfl
 |e::l,k,h=>by unfold gv;rw[if_neg (h e (List.mem_cons_self ..))];exact gv_none fun x hx=>h x (List.mem_cons_of_mem _ hx)
theorem gv_mem: ∀{l:List En} {e:En},Srt l→e∈l→gv l (key e)=num e
 |x::l,e,h,hm=>by
  unfold gv
  rcases List.mem_cons.1 hm with rfl|hm
  ·rw[if_pos rfl]
  ·rw[if_neg (kl_ne ((List.pairwise_cons.1 h).1 e hm))];exact gv_mem (List.pairwise_cons.1 h).2 hm
theorem gv_at {l:List En}{k:Ky}(h:gv l k≠0): ∃e,e∈l∧key e=k∧num e=gv l k:=by
 induction l with
 |nil=>exact absurd rfl h
 |cons x l ih=>
  unfold gv at h ⊢
  by_cases hx:key x=k
  ·rw[if_pos hx];exact⟨x,List.mem_cons_self ..,hx,rfl⟩
  ·rw[if_neg hx]at h ⊢
   obtain⟨e,h1,h2⟩:=ih h
   exact⟨e,List.mem_cons_of_mem _ h1,h2⟩
theorem en_ext {a b:En}(h:key a=key b)(hn:num a=num b):a=b:=by
 obtain⟨a1,a2,a3,a4⟩:=a
 obtain⟨b1,b2,b3,b4⟩:=b
 simp only[key,num,Prod.mk.injEq]at h hn
 obtain⟨rfl,rfl,rfl⟩:=h
 subst hn;rfl
theorem srt_ext: ∀{l m:List En},Srt l→Srt m→(∀e,e∈l↔e∈m)→l=m
 | [],[],_,_,_=>rfl
 | [],y::m,_,_,h=>by have:=(h y).2 (List.mem_cons_self ..);cases this
 |x::l,[],_,_,h=>by have:=(h x).1 (List.mem_cons_self ..);cases this
 |x::l,y::m,hl,hm,h=>by
  have e:x=y:=by
   rcases List.mem_cons.1 ((h x).1 (List.mem_cons_self ..))with e|hx
   ·exact e
   ·rcases List.mem_cons.1 ((h y).2 (List.mem_cons_self ..))with e|hy
    ·exact e.symm
    ·have h1:=(List.pairwise_cons.1 hm).1 x hx
     have h2:=(List.pairwise_cons.1 hl).1 y hy
     rw[kl_asy h1]at h2;cases h2
  subst e
  congr 1
  refine srt_ext (List.pairwise_cons.1 hl).2 (List.pairwise_cons.1 hm).2 fun e=>?_
  have nl: ∀z,z∈l→z≠x:=fun z hz e=>by subst e;have:=(List.pairwise_cons.1 hl).1 z hz;rw[kl_irr]at this;cases this
  have nm: ∀z,z∈m→z≠x:=fun z hz e=>by subst e;have:=(List.pairwise_cons.1 hm).1 z hz;rw[kl_irr]at this;cases this
  exact⟨fun he=>((List.mem_cons.1 ((h e).1 (List.mem_cons_of_mem _ he))).resolve_left (nl e he)),fun he=>((List.mem_cons.1 ((h e).2 (List.mem_cons_of_mem _ he))).resolve_left (nm e he))⟩
structure Nf (l:List En):Prop where
 srt:Srt l
 nz: ∀e,e∈l→num e≠0
theorem nf_mem {l m:List En}(hl:Nf l)(hm:Nf m)(h: ∀k,gv l k=gv m k){e:En}(he:e∈l):e∈m:=by
 have h1:=gv_mem hl.srt he
 rw[h]at h1
 obtain⟨e',h2,h3,h4⟩:=gv_at (l:=m) (k:=key e) (by rw[h1];exact hl.nz e he)
 rw[h1]at h4
 rw[←en_ext h3 h4];exact h2
theorem nf_ext {l m:List En}(hl:Nf l)(hm:Nf m)(h: ∀k,gv l k=gv m k):l=m:=
 srt_ext hl.srt hm.srt fun e=>⟨nf_mem hl hm h,nf_mem hm hl fun k=>(h k).symm⟩
def upd (x e:En)(one:Bool):En:=(x.1,x.2.1,x.2.2.1,if one=true then 1 else min (num x+num e) 1099511627776)
def insP (e:En)(one:Bool):List En→List En
 | []=>[e]
 |x::l=>if key x=key e then upd x e one::l else if kl (key e) (key x)=true then e::x::l else x::insP e one l
def putP (e:En)(one:Bool)(l:List En):List En:=if num e=0 then l else insP e one l
abbrev cap (one:Bool):Int:=if one=true then 1 else 1099511627776
structure Bd (one:Bool) (l:List En):Prop where
 srt:Srt l
 b: ∀e,e∈l→1≤num e∧num e≤cap one
theorem Bd.nf {one:Bool}{l:List En}(h:Bd one l):Nf l:=⟨h.srt,fun e he=>by have:=(h.b e he).1;omega⟩
theorem Bd.gv {one:Bool}{l:List En}(h:Bd one l)(k:Ky):0≤gv l k∧gv l k≤cap one:=by
 by_cases h0:Ent.gv l k=0
 ·rw[h0];cases one<;>decide
 ·obtain⟨e,h1,_,h2⟩:=gv_at h0
  have:=h.b e h1
  rw[h2]at this
  exact⟨by omega,this.2⟩
theorem insP_mem {e:En}{one:Bool}: ∀{l:List En} {x:En},x∈insP e one l→x=e∨x∈l∨∃y,y∈l∧key y=key e∧x=upd y e one
 | [],x,h=>by simp only[insP,List.mem_singleton]at h;exact .inl h
 |y::l,x,h=>by
  unfold insP at h
  split at h
  ·rename_i hk
   rcases List.mem_cons.1 h with rfl|h
   ·exact .inr (.inr ⟨y,List.mem_cons_self ..,hk,rfl⟩)
   ·exact .inr (.inl (List.mem_cons_of_mem _ h))
  ·split at h
   ·rcases List.mem_cons.1 h with rfl|h
    ·exact .inl rfl
    ·exact .inr (.inl h)
   ·rcases List.mem_cons.1 h with rfl|h
    ·exact .inr (.inl (List.mem_cons_self ..))
    ·rcases insP_mem h with h1|h1|⟨z,h1,h2⟩
     ·exact .inl h1
     ·exact .inr (.inl (List.mem_cons_of_mem _ h1))
     ·exact .inr (.inr ⟨z,List.mem_cons_of_mem _ h1,h2⟩)
theorem insP_key {e:En}{one:Bool}{l:List En}{x:En}(h:x∈insP e one l):key x=key e∨∃y,y∈l∧key x=key y:=by
 rcases insP_mem h with rfl|h|⟨y,h1,h2,rfl⟩
 ·exact .inl rfl
 ·exact .inr ⟨x,h,rfl⟩
 ·exact .inr ⟨y,h1,rfl⟩
theorem insP_srt {e:En}{one:Bool}: ∀{l:List En},Srt l→Srt (insP e one l)
 | [],_=>by simp[insP]
 |x::l,h=>by
  obtain⟨h1,h2⟩:=List.pairwise_cons.1 h
  unfold insP
  split
  ·rename_i hk
   exact List.pairwise_cons.2 ⟨fun y hy=>h1 y hy,h2⟩
  ·rename_i hk
   split
   ·rename_i hlt
    exact List.pairwise_cons.2 ⟨fun y hy=>(List.mem_cons.1 hy).elim (fun e=>e▸hlt) fun hy=>kl_tr hlt (h1 y hy),h⟩
   ·rename_i hlt
    refine List.pairwise_cons.2 ⟨fun y hy=>?_,insP_srt h2⟩
    rcases insP_key hy with hye|⟨z,hz,hye⟩
    ·rw[hye]
     cases hxe:kl (key x) (key e)with
     |true=>rfl
     |false=>exact absurd (kl_tri hxe (by simpa using hlt)) hk
    ·rw[hye];exact h1 z hz
theorem insP_gv {e:En}{one:Bool}{k:Ky}: ∀{l:List En},Bd one l→1≤num e→num e≤cap one→gv (insP e one l) k=if k=key e then min (cap one) (gv l k+num e)else gv l k
 | [],_,h1,h2=>by
  unfold insP gv gv
  by_cases hk:k=key e
  ·rw[if_pos hk.symm,if_pos hk];omega
  ·rw[if_neg (fun h=>hk h.symm),if_neg hk]
 |x::l,h,h1,h2=>by
  obtain⟨s1,s2⟩:=List.pairwise_cons.1 h.srt
  have hb:Bd one l:=⟨s2,fun y hy=>h.b y (List.mem_cons_of_mem _ hy)⟩
  have hx:=h.b x (List.mem_cons_self ..)
  unfold insP
  split
  ·rename_i hke
   unfold gv
   by_cases hk:k=key e
   ·rw[if_pos (show key (upd x e one)=k from hke.trans hk.symm),if_pos hk,if_pos (hke.trans hk.symm)]
    unfold num at h1 h2 hx
    unfold upd num
    cases one with
    |true=>simp only[if_true];simp only[cap,if_true]at h2 hx ⊢;omega
    |false=>simp only[Bool.false_eq_true,if_false];simp only[cap,Bool.false_eq_true,if_false];omega
   ·rw[if_neg (show key (upd x e one)≠k from fun h=>hk (h.symm.trans hke)),if_neg hk,if_neg (fun h=>hk (h.symm.trans hke))]
  ·rename_i hke
   split
   ·rename_i hlt
    by_cases hk:k=key e
    ·have h0:gv (x::l) k=0:=gv_none fun y hy he=>by
      have:kl (key e) (key y)=true:=(List.mem_cons.1 hy).elim (fun e=>e▸hlt) fun hy=>kl_tr hlt (s1 y hy)
      exact kl_ne this (he.trans hk).symm
     rw[if_pos hk,h0]
     conv=>lhs;unfold gv
     rw[if_pos hk.symm];omega
    ·conv=>lhs;unfold gv
     rw[if_neg (fun h=>hk h.symm),if_neg hk]
   ·unfold gv
    by_cases hk:key x=k
    ·rw[if_pos hk,if_pos hk,if_neg (fun h=>hke (hk.trans h))]
    ·rw[if_neg hk,if_neg hk];exact insP_gv hb h1 h2
theorem putP_bd {e:En}{one:Bool}{l:List En}(h:Bd one l)(h1:0≤num e)(h2:num e≤cap one):Bd one (putP e one l):=by
 unfold putP
 split
 ·exact h
 ·rename_i h0
  refine⟨insP_srt h.srt,fun x hx=>?_⟩
  rcases insP_mem hx with rfl|hx|⟨y,hy,_,rfl⟩
  ·exact⟨by omega,h2⟩
  ·exact h.b x hx
  ·have:=h.b y hy
   unfold num at this h1 h2
   unfold upd num
   cases one with
   |true=>simp[cap]
   |false=>simp only[Bool.false_eq_true,if_false];simp only[cap,Bool.false_eq_true,if_false];omega
theorem putP_gv {e:En}{one:Bool}{l:List En}(h:Bd one l)(h1:0≤num e)(h2:num e≤cap one)(k:Ky):gv (putP e one l) k=if key e=k then min (cap one) (gv l k+num e)else gv l k:=by
 have:=h.gv k
 unfold putP
 split
 ·rename_i h0
  rw[h0,Int.add_zero]
  split
  ·omega
  ·rfl
 ·rw[insP_gv h (by omega) h2]
  by_cases hk:k=key e
  ·rw[if_pos hk,if_pos hk.symm]
  ·rw[if_neg hk,if_neg (fun h=>hk h.symm)]
def cs (C:Int)(l:List En)(k:Ky):Int:=l.foldl (fun a e=>if key e=k then min C (a+num e)else a) 0
theorem cs_snoc (C:Int)(l:List En)(e:En)(k:Ky):cs C (l++[e]) k=if key e=k then min C (cs C l k+num e)else cs C l k:=by
 unfold cs;rw[List.foldl_append];rfl
def sm:List En→Ky→Int
 | [],_=>0
 |e::l,k=>(if key e=k then num e else 0)+sm l k
theorem sm_nn {l:List En}(h: ∀e,e∈l→0≤num e)(k:Ky):0≤sm l k:=by
 induction l with
 |nil=>simp[sm]
 |cons x l ih=>
  have h1:=ih fun e he=>h e (List.mem_cons_of_mem _ he)
  have h2:=h x (List.mem_cons_self ..)
  unfold sm
  split<;>omega
theorem cs_sm {C:Int}(hC:0≤C): ∀(l:List En),(∀e,e∈l→0≤num e)→∀k,cs C l k=min C (sm l k):=by
 intro l h k
 have main: ∀(l:List En) (a:Int),(∀e,e∈l→0≤num e)→0≤a→a≤C→l.foldl (fun a e=>if key e=k then min C (a+num e)else a) a=min C (a+sm l k):=by
  intro l
  induction l with
  |nil=>intro a _ h1 h2;simp[sm];omega
  |cons x l ih=>
   intro a h h1 h2
   have hx:=h x (List.mem_cons_self ..)
   have hl:=sm_nn (fun e he=>h e (List.mem_cons_of_mem _ he)) k
   rw[List.foldl_cons,sm]
   split
   ·rw[ih _ (fun e he=>h e (List.mem_cons_of_mem _ he)) (by omega) (by omega)];omega
   ·rw[ih _ (fun e he=>h e (List.mem_cons_of_mem _ he)) h1 h2];omega
 have:=main l 0 h (Int.le_refl _) hC
 rw[Int.zero_add]at this
 exact this
theorem sm_gv: ∀{l:List En},Srt l→∀k,sm l k=gv l k
 | [],_,_=>rfl
 |x::l,h,k=>by
  obtain⟨h1,h2⟩:=List.pairwise_cons.1 h
  unfold sm gv
  by_cases hk:key x=k
  ·rw[if_pos hk,if_pos hk,sm_gv h2,gv_none (fun e he h3=>kl_ne (h1 e he) (hk.trans h3.symm))];omega
  ·rw[if_neg hk,if_neg hk,sm_gv h2];omega
theorem Bd.cs {one:Bool}{l:List En}(h:Bd one l)(k:Ky):cs (cap one) l k=Ent.gv l k:=by
 rw[cs_sm (by cases one<;>decide) l (fun e he=>by have:=(h.b e he).1;omega),sm_gv h.srt]
 have:=h.gv k
 omega
def foldP (one:Bool)(l:List En)(a:List En):List En:=l.foldl (fun a e=>putP e one a) a
theorem foldP_ok {one:Bool}: ∀(l a:List En),Bd one a→(∀e,e∈l→0≤num e∧num e≤cap one)→Bd one (foldP one l a)∧∀k,gv (foldP one l a) k=l.foldl (fun v e=>if key e=k then min (cap one) (v+num e)else v) (gv a k)
 | [],a,h,_=>⟨h,fun _=>rfl⟩
 |e::l,a,h,hl=>by
  have he:=hl e (List.mem_cons_self ..)
  obtain⟨i1,i2⟩:=foldP_ok l (putP e one a) (putP_bd h he.1 he.2) fun x hx=>hl x (List.mem_cons_of_mem _ hx)
  refine⟨i1,fun k=>?_⟩
  have:=i2 k
  rw[putP_gv h he.1 he.2]at this
  exact this
theorem foldP_nil {one:Bool}(l:List En)(hl: ∀e,e∈l→0≤num e∧num e≤cap one):Bd one (foldP one l [])∧∀k,gv (foldP one l []) k=cs (cap one) l k:=
 foldP_ok l [] ⟨List.Pairwise.nil,by simp⟩ hl
end Go.Ent
end
section
set_option maxRecDepth 20000
set_option linter.unusedVariables false
set_option linter.unusedSimpArgs false
namespace Go.Proofs.YtfpemeeadiigcaaDoor
open Go.RowKit Go.Graph Go.Utf Go.Ent
def cI (a b:Int):Int:=if a<b then-1 else if b<a then 1 else 0
theorem cmp64_eq (a b:Int):F.cmp_Compare_int64 a b=some (cI a b):=by
 rw[F.cmp_Compare_int64]
 simp only[F.cmp_isNaN_int64,Option.bind_some,ne_eq,not_true,decide_false,Bool.false_eq_true,if_false]
 unfold cI
 by_cases h1:a<b
 ·rw[if_pos h1,if_pos h1]
 ·rw[if_neg h1,if_neg h1]
  by_cases h2:b<a
  ·rw[if_pos h2,if_pos h2]
  ·rw[if_neg h2,if_neg h2]
theorem cmpi_eq (a b:Int):F.cmp_Compare_int a b=some (cI a b):=cmp64_eq a b
def cS (a b:ByteArray):Int:=if bl a b=true then-1 else if a=b then 0 else 1
theorem tl_eq {a b:ByteArray}:(a.toList==b.toList)=decide (a=b):=by
 rw[Lib.toList_data,Lib.toList_data]
 by_cases h:a=b
 ·subst h;simp
 ·rw[decide_eq_false h]
  exact beq_eq_false_iff_ne.2 fun e=>h (ba_eq e)
theorem cmps_eq (a b:ByteArray):F.cmp_Compare_string a b=some (cS a b):=by
 rw[F.cmp_Compare_string]
 simp only[F.cmp_isNaN_string,Option.bind_some,ne_eq,not_true,decide_false,Bool.false_eq_true,if_false,tl_eq]
 unfold cS bl
 by_cases h1:Op.bytesLess a.toList b.toList=true
 ·rw[if_pos h1,if_pos h1]
 ·rw[if_neg h1,if_neg h1]
  rw[Bool.not_eq_true]at h1
  by_cases h2:a=b
  ·subst h2;rw[h1];simp
  ·rw[h1,decide_eq_false h2];simp[h2]
theorem cB_eq: ∀a b:List UInt8,Lib.compareBytes a b=if Op.bytesLess a b=true then-1 else if a=b then 0 else 1
 | [],[]=>rfl
 | [],_::_=>rfl
 |_::_,[]=>by simp[Lib.compareBytes,Op.bytesLess]
 |x::a,y::b=>by
  unfold Lib.compareBytes Op.bytesLess
  by_cases h1:x<y
  ·simp[h1]
  ·by_cases h2:y<x
   ·have hne:x≠y:=fun e=>by subst e;exact h1 h2
    simp[h1,h2,hne]
   ·have e:x=y:=UInt8.le_antisymm (UInt8.not_lt.1 h2) (UInt8.not_lt.1 h1)
    subst e
    rw[if_neg h1,if_neg h1,cB_eq a b]
    simp[h1]
theorem scmp_eq (a b:ByteArray):F.strings_Compare a b=some (cS a b):=by
 rw[F.strings_Compare,cB_eq]
 unfold cS bl
 rw[Lib.toList_data,Lib.toList_data]
 by_cases h:a=b
 ·subst h;simp
 ·have:a.data.toList≠b.data.toList:=fun e=>h (ba_eq e)
  simp[h,this]
theorem or_eq (l:List Int)(hl:l.length≤100):F.cmp_Or_int l=some ((l.find? fun x=>decide (x≠0)).getD 0):=
 A.lp0 l (fun f y=>F.cmp_Or_int_l1 l f y) (fun _ r=>some ((r.find? fun x=>decide (x≠0)).getD 0))
  (fun f=>by rw[F.cmp_Or_int_l1,if_neg (by omega)];rfl)
  (fun f k x hx hk ih=>by
   rw[F.cmp_Or_int_l1,if_pos (by omega),A.ixn hx,Option.bind_some,List.find?_cons]
   by_cases h:x=0
   ·rw[if_neg (fun h2=>h2 h),A.gd1 ⟨by omega,by omega⟩,ih,decide_eq_false (fun h2=>h2 h)]
   ·rw[if_pos h,decide_eq_true h];rfl)
  (by have:=FU_big;omega)
theorem or2 (a b:Int):F.cmp_Or_int [a,b]=some (if a≠0 then a else b):=by
 rw[or_eq _ (by simp)]
 by_cases h:a=0
 ·subst h
  by_cases h2:b=0
  ·subst h2;rfl
  ·simp[h2]
 ·simp[h]
theorem or3 (a b c:Int):F.cmp_Or_int [a,b,c]=some (if a≠0 then a else if b≠0 then b else c):=by
 rw[or_eq _ (by simp)]
 by_cases h:a=0
 ·subst h
  by_cases h2:b=0
  ·subst h2
   by_cases h3:c=0
   ·subst h3;rfl
   ·simp[h3]
  ·simp[h2]
 ·simp[h]
abbrev rec (e:En):Int×ByteArray:=(e.2.1,e.2.2.1)
theorem cS_cases (a b:ByteArray):(bl a b=true∧cS a b= -1)∨(a=b∧bl a b=false∧cS a b=0)∨(a≠b∧bl a b=false∧bl b a=true∧cS a b=1):=by
 unfold cS
 cases h:bl a b with
 |true=>exact .inl ⟨rfl,by simp⟩
 |false=>
  by_cases h2:a=b
  ·exact .inr (.inl ⟨h2,rfl,by simp[h2]⟩)
  ·refine .inr (.inr ⟨h2,rfl,?_,by simp[h2]⟩)
   cases h3:bl b a with
   |true=>rfl
   |false=>exact absurd (bl_tri h h3) h2
theorem cI_cases (a b:Int):(a<b∧cI a b= -1)∨(a=b∧cI a b=0)∨(b<a∧cI a b=1):=by
 unfold cI
 by_cases h:a<b
 ·exact .inl ⟨h,if_pos h⟩
 ·by_cases h2:b<a
  ·exact .inr (.inr ⟨h2,by rw[if_neg h,if_pos h2]⟩)
  ·exact .inr (.inl ⟨by omega,by rw[if_neg h,if_neg h2]⟩)
def cR (a b:Int×ByteArray):Int:=if cI a.1 b.1≠0 then cI a.1 b.1 else cS a.2 b.2
theorem cR_lt (a b:Int×ByteArray):decide (cR a b<0)=rl a b:=by
 unfold cR rl
 rcases cI_cases a.1 b.1 with⟨h,e⟩|⟨h,e⟩|⟨h,e⟩
 ·rw[e];simp[h]
 ·rw[e,h]
  simp only[ne_eq,not_true,if_false,Int.lt_irrefl,decide_false,Bool.false_or,decide_true,Bool.true_and]
  rcases cS_cases a.2 b.2 with⟨h2,e2⟩|⟨h2,h3,e2⟩|⟨h2,h3,h4,e2⟩
  ·rw[e2,h2];rfl
  ·rw[e2,h3];rfl
  ·rw[e2,h3];rfl
 ·rw[e]
  have h1: ¬a.1<b.1:=by omega
  have h2: ¬a.1=b.1:=by omega
  simp[h1,h2]
theorem ahead_eq (a b:En):F.oper_ahead a b=some (rl (rec a) (rec b)):=by
 rw[F.oper_ahead,cmp64_eq,Option.bind_some,scmp_eq,Option.bind_some,or2,Option.bind_some]
 exact congrArg some (cR_lt (rec a) (rec b))
theorem list1_eq (a b:En): ∃c,F.schema_state_list_1 a b=some c∧decide (c<0)=kl (key a) (key b):=by
 rw[F.schema_state_list_1,cmpi_eq,Option.bind_some,cmp64_eq,Option.bind_some,cmps_eq,Option.bind_some,or3,Option.bind_some]
 refine⟨_,rfl,?_⟩
 unfold kl
 have:=cR_lt (rec a) (rec b)
 unfold cR at this
 rcases cI_cases a.1 b.1 with⟨h,e⟩|⟨h,e⟩|⟨h,e⟩
 ·rw[e];simp[h]
 ·rw[e,if_neg (by omega),this];simp[h]
 ·rw[e]
  have h1: ¬a.1<b.1:=by omega
  have h2: ¬a.1=b.1:=by omega
  simp[h1,h2]
theorem cl0_eq:A.cl0 (fun x y=>F.schema_state_list_1 x y)=fun x y=>kl (key x) (key y):=by
 funext x y
 obtain⟨c,h1,h2⟩:=list1_eq x y
 show(match F.schema_state_list_1 x y with|some c=>decide (c<0)|none=>false)=_
 rw[h1];exact h2
def entOk (n:Nd)(x:En):Bool:=
 if x.1≠n.1 then false else if n.2.1=11 then decide (x.2.2.1=ByteArray.mk #[])&&decide (0≤x.2.2.2)&&decide (x.2.2.2≤1099511627776)else if n.2.1=16 then decide (x.2.2.2=1)&&okT x.2.2.1 else false
def stF (n:Nd):Option En→List En→Bool
 |_,[]=>true
 |none,e::l=>entOk n e&&stF n (some e) l
 |some p,e::l=>entOk n e&&rl (rec p) (rec e)&&stF n (some e) l
def stP (n:Nd)(l:List En):Bool:=stF n none l
theorem entry_eq (n:Nd)(x:En):F.oper_entry n x=some (entOk n x):=by
 rw[F.oper_entry]
 unfold entOk
 by_cases h0:x.1=n.1
 ·have h0': ¬(x.1≠n.1):=fun h=>h h0
  rw[if_neg h0',if_neg h0']
  by_cases h1:n.2.1=11
  ·rw[if_pos h1,if_pos h1]
   congr 1
   by_cases a1:x.2.2.1=ByteArray.mk #[]<;>by_cases a2:(0:Int)≤x.2.2.2<;>by_cases a3:x.2.2.2≤1099511627776<;>simp[a1,a2,a3]
  ·rw[if_neg h1,if_neg h1]
   by_cases h2:n.2.1=16
   ·rw[if_pos h2,if_pos h2]
    by_cases h3:x.2.2.2=1
    ·rw[if_pos h3]
     show(F.rec_Check (rec x)).bind _=_
     rw[rec_Check_eq,Option.bind_some,F.oper_entry_j1,decide_eq_true h3,Bool.true_and]
     show some (decide ((if okT x.2.2.1=true then(0:Int)else 50)=0))=_
     cases okT x.2.2.1<;>rfl
    ·rw[if_neg h3,F.oper_entry_j1,decide_eq_false h3];rfl
   ·rw[if_neg h2,if_neg h2]
 ·rw[if_pos h0,if_pos h0]
abbrev prv (l:List En) (k:Nat):Option En:=if k=0 then none else l[k-1]?
theorem prv_s (l:List En)(k:Nat){x:En}(h:l[k]?=some x):prv l (k+1)=some x:=by unfold prv;rw[if_neg (by omega)];exact h
theorem CheckState_eq (n:Nd)(l:List En)(hl:l.length≤9223372036854775807):F.oper_CheckState n l=some (if stP n l=true then 0 else 171):=
 A.lp0 l (fun f y=>F.oper_CheckState_l2 n l f y) (fun k r=>some (if stF n (prv l k) r=true then 0 else 171))
  (fun f=>by
   rw[F.oper_CheckState_l2,if_neg (by omega)]
   cases prv l l.length<;>rfl)
  (fun f k x hx hk ih=>by
   rw[F.oper_CheckState_l2,if_pos (by omega),A.ixn hx,Option.bind_some]
   show(F.oper_entry n x).bind _=_
   rw[prv_s l k hx]at ih
   have nx: ∀b:Bool,F.oper_CheckState_j1 (F.oper_CheckState_l2 n l f) (k:Int) b=some (if(!b&&stF n (some x) (l.drop (k+1)))=true then 0 else 171):=fun b=>by
    rw[F.oper_CheckState_j1]
    cases b with
    |true=>rw[if_pos rfl];rfl
    |false=>rw[if_neg (by simp),A.gd1 ⟨by omega,by omega⟩,ih];rfl
   rw[entry_eq,Option.bind_some]
   by_cases hk0:k=0
   ·subst hk0
    show _=some (if(entOk n x&&stF n (some x) (l.drop (0+1)))=true then 0 else 171)
    cases he:entOk n x with
    |false=>rw[Bool.not_false,if_pos rfl,nx];rfl
    |true=>rw[Bool.not_true,if_neg (by simp),if_neg (by omega),nx];rfl
   ·have hp:prv l k=l[k-1]?:=by unfold prv;rw[if_neg hk0]
    obtain⟨p,hpp⟩: ∃p,l[k-1]?=some p:=⟨_,List.getElem?_eq_getElem (by omega)⟩
    rw[hp,hpp]
    show _=some (if(entOk n x&&rl (rec p) (rec x)&&stF n (some x) (l.drop (k+1)))=true then 0 else 171)
    cases he:entOk n x with
    |false=>rw[Bool.not_false,if_pos rfl,nx];rfl
    |true=>
     rw[Bool.not_true,if_neg (by simp),if_pos (by omega),A.gd1 ⟨by omega,by omega⟩,show(k:Int)-1=((k-1:Nat):Int) by omega,A.ixn hpp,Option.bind_some]
     show(F.oper_ahead p x).bind _=_
     rw[ahead_eq,Option.bind_some,nx,Bool.not_not,Bool.true_and])
  (by have:=FU_big;omega)
theorem stF_all {n:Nd}: ∀{p:Option En} {l:List En},stF n p l=true→∀e,e∈l→entOk n e=true
 |_,[],_,e,h=>by cases h
 |none,x::l,h,e,he=>by
  unfold stF at h
  rw[Bool.and_eq_true]at h
  exact(List.mem_cons.1 he).elim (fun e=>e▸h.1) (stF_all h.2 e)
 |some p,x::l,h,e,he=>by
  unfold stF at h
  rw[Bool.and_eq_true,Bool.and_eq_true]at h
  exact(List.mem_cons.1 he).elim (fun e=>e▸h.1.1) (stF_all h.2 e)
theorem stF_pw {n:Nd}: ∀{p:En} {l:List En},stF n (some p) l=true→(p::l).Pairwise fun a b=>rl (rec a) (rec b)=true
 |p,[],_=>by simp
 |p,x::l,h=>by
  unfold stF at h
  rw[Bool.and_eq_true,Bool.and_eq_true]at h
  have ih:=stF_pw h.2
  exact List.pairwise_cons.2 ⟨fun y hy=>(List.mem_cons.1 hy).elim (fun e=>e▸h.1.2) fun hy=>rl_tr h.1.2 ((List.pairwise_cons.1 ih).1 y hy),ih⟩
theorem stP_iff {n:Nd}{l:List En}:stP n l=true↔(∀e,e∈l→entOk n e=true)∧l.Pairwise fun a b=>rl (rec a) (rec b)=true:=by
 constructor
 ·intro h
  refine⟨stF_all h,?_⟩
  cases l with
  |nil=>exact List.Pairwise.nil
  |cons x l=>
   unfold stP stF at h
   rw[Bool.and_eq_true]at h
   exact stF_pw h.2
 ·rintro⟨h1,h2⟩
  have main: ∀(l:List En) (p:En),(∀e,e∈l→entOk n e=true)→(p::l).Pairwise (fun a b=>rl (rec a) (rec b)=true)→stF n (some p) l=true:=by
   intro l
   induction l with
   |nil=>intro p _ _;rfl
   |cons x l ih=>
    intro p h1 h2
    unfold stF
    rw[h1 x (List.mem_cons_self ..),(List.pairwise_cons.1 h2).1 x (List.mem_cons_self ..),ih x (fun e he=>h1 e (List.mem_cons_of_mem _ he)) (List.pairwise_cons.1 h2).2];rfl
  cases l with
  |nil=>rfl
  |cons x l=>
   unfold stP stF
   rw[h1 x (List.mem_cons_self ..),main l x (fun e he=>h1 e (List.mem_cons_of_mem _ he)) h2];rfl
end Go.Proofs.YtfpemeeadiigcaaDoor
end
section
set_option maxRecDepth 20000
set_option linter.unusedVariables false
set_option linter.unusedSimpArgs false
namespace Go.A
theorem dem_of {α β:Type}[DecidableEq β]{m:List α}{sn:List Nat}{e:Option β}{g:Nat→α→Option β}{r:β}(h1:(∀i,i<m.length→i∈sn)→e=some r)(h2: ∀i p,m[i]?=some p→i∉sn→g i p=some r):dem m sn e g=some r:=by
 have hmem: ∀i,i∈(List.range m.length).filter (fun i=> !(sn.contains i))↔i<m.length∧i∉sn:=fun i=>by
  rw[List.mem_filter,List.mem_range];simp
 unfold dem
 split
 ·rename_i hl
  rw[hl]at hmem
  refine h1 fun i hi=>?_
  cases hd:decide (i∈sn)with
  |true=>exact of_decide_eq_true hd
  |false=>exact absurd ((hmem i).2 ⟨hi,of_decide_eq_false hd⟩) (by simp)
 ·rename_i i js hl
  rw[hl]at hmem
  obtain⟨hi,hn⟩:=(hmem i).1 (List.mem_cons_self ..)
  rw[List.getElem?_eq_getElem hi,Option.bind_some,if_pos]
  ·exact h2 i _ (List.getElem?_eq_getElem hi) hn
  ·rw[List.all_eq_true]
   intro j hj
   obtain⟨hj1,hj2⟩:=(hmem j).1 (List.mem_cons_of_mem _ hj)
   rw[List.getElem?_eq_getElem hj1,Option.bind_some,h2 j _ (List.getElem?_eq_getElem hj1) hj2,h2 i _ (List.getElem?_eq_getElem hi) hn]
   exact decide_eq_true rfl
end Go.A
namespace Go.Proofs.YtfpemeeadiigcaaDoor
open Go.RowKit Go.Graph Go.Utf Go.Ent
abbrev Mv:=Int×Int×Int×Int×Fun
def entOf (p:Ky×Int):Option En:=if p.2≠0 then some (p.1.1,p.1.2.1,p.1.2.2,p.2)else none
theorem entOf_some {p:Ky×Int}{e:En}(h:entOf p=some e):key e=p.1∧num e=p.2∧p.2≠0:=by
 unfold entOf at h
 split at h
 ·rename_i h0
  injection h with h;subst h;exact⟨rfl,rfl,h0⟩
 ·cases h
abbrev hasK (k:Ky):Prop:=IntKind.i64.has k.1∧IntKind.i64.has k.2.1∧k.2.2.size≤maxLen
theorem list_eq (m:List (Ky×Int))(hn:(m.map Prod.fst).Nodup)(hk: ∀p,p∈m→hasK p.1)(hlen:m.length*40≤140737488355328): ∃L,F.schema_state_list m=some L∧Nf L∧∀k,gv L k=Z.mget 0 m k:=by
 have hinj: ∀{i j:Nat} {p q:Ky×Int},m[i]?=some p→m[j]?=some q→p.1=q.1→i=j:=fun {i j p q} hi hj e=>by
  have h1:(m.map Prod.fst)[i]?=some p.1:=by rw[List.getElem?_map,hi];rfl
  have h2:(m.map Prod.fst)[j]?=some p.1:=by rw[List.getElem?_map,hj,e];rfl
  exact(List.getElem?_inj (by rw[List.length_map];exact(List.getElem?_eq_some_iff.1 hi).1) hn).1 (h1.trans h2.symm)
 have strict: ∀l:List En,(l.map key).Nodup→Srt (A.srtL (fun x y=>kl (key x) (key y)) l):=fun l hnd=>by
  have O:A.OrdOn (fun x y:En=>kl (key x) (key y)) l:=⟨fun x _ y _ h=>kl_asy h,fun x hx y hy h1 h2=>by
   have he:=kl_tri h1 h2
   obtain⟨i,hi⟩:=List.getElem?_of_mem hx
   obtain⟨j,hj⟩:=List.getElem?_of_mem hy
   have h3:(l.map key)[i]?=some (key x):=by rw[List.getElem?_map,hi];rfl
   have h4:(l.map key)[j]?=some (key x):=by rw[List.getElem?_map,hj];exact congrArg some he.symm
   have:=(List.getElem?_inj (by rw[List.length_map];exact(List.getElem?_eq_some_iff.1 hi).1) hnd).1 (h3.trans h4.symm)
   subst this
   rw[hi]at hj;exact Option.some.inj hj,fun x _ y _ z _ h1 h2=>kl_tr h1 h2⟩
  have h1:=A.srtL_pw O l fun a h=>h
  have h2:((A.srtL (fun x y:En=>kl (key x) (key y)) l).map key).Nodup:=((A.srtL_perm _ l).map key).nodup_iff.2 hnd
  have h3:(A.srtL (fun x y:En=>kl (key x) (key y)) l).Pairwise fun a b=>key a≠key b:=List.pairwise_map.1 h2
  exact(h1.and h3).imp fun {a b} ⟨h4,h5⟩=>by
   cases h6:kl (key a) (key b)with
   |true=>rfl
   |false=>exact absurd (kl_tri h6 h4) h5
 have ordB: ∀l:List En,(l.map key).Nodup→A.ordB (fun x y=>F.schema_state_list_1 x y) l=true:=fun l hnd=>by
  unfold A.ordB
  rw[List.all_eq_true]
  intro x hx
  rw[List.all_eq_true]
  intro y hy
  rw[cl0_eq,Bool.and_eq_true,Bool.and_eq_true]
  obtain⟨c,hc,_⟩:=list1_eq x y
  refine⟨⟨by show(F.schema_state_list_1 x y).isSome=true;rw[hc];rfl,?_⟩,?_⟩
  ·show(bif kl (key x) (key y)then !kl (key y) (key x)else kl (key y) (key x)||decide (x=y))=true
   cases h1:kl (key x) (key y)with
   |true=>rw[kl_asy h1];rfl
   |false=>
    cases h2:kl (key y) (key x)with
    |true=>rfl
    |false=>
     have he:=kl_tri h1 h2
     obtain⟨i,hi⟩:=List.getElem?_of_mem hx
     obtain⟨j,hj⟩:=List.getElem?_of_mem hy
     have h3:(l.map key)[i]?=some (key x):=by rw[List.getElem?_map,hi];rfl
     have h4:(l.map key)[j]?=some (key x):=by rw[List.getElem?_map,hj];exact congrArg some he.symm
     have:=(List.getElem?_inj (by rw[List.length_map];exact(List.getElem?_eq_some_iff.1 hi).1) hnd).1 (h3.trans h4.symm)
     subst this
     rw[hi]at hj
     rw[decide_eq_true (Option.some.inj hj)];rfl
  ·rw[List.all_eq_true]
   intro z hz
   show(!(kl (key x) (key y)&&kl (key y) (key z))||kl (key x) (key z))=true
   cases h1:kl (key x) (key y)with
   |false=>rfl
   |true=>
    cases h2:kl (key y) (key z)with
    |false=>rfl
    |true=>rw[kl_tr h1 h2];rfl
 obtain⟨es,hes⟩: ∃es,es=m.filterMap entOf:=⟨_,rfl⟩
 have hes_mem: ∀e,e∈es↔∃(i:Nat) (p:Ky×Int),m[i]?=some p∧entOf p=some e:=fun e=>by
  rw[hes,List.mem_filterMap]
  exact⟨fun⟨p,h1,h2⟩=>by obtain⟨i,hi⟩:=List.getElem?_of_mem h1;exact⟨i,p,hi,h2⟩,fun⟨i,p,h1,h2⟩=>⟨p,List.mem_of_getElem? h1,h2⟩⟩
 have hes_nd:(es.map key).Nodup:=by
  rw[hes]
  have: ∀(l:List (Ky×Int)),(l.map Prod.fst).Nodup→((l.filterMap entOf).map key).Nodup:=by
   intro l
   induction l with
   |nil=>intro _;simp
   |cons p l ih=>
    intro hnd
    rw[List.map_cons,List.nodup_cons]at hnd
    rw[List.filterMap_cons]
    cases hp:entOf p with
    |none=>exact ih hnd.2
    |some e=>
     simp only[List.map_cons]
     refine List.nodup_cons.2 ⟨fun hm=>?_,ih hnd.2⟩
     obtain⟨e2,h1,h2⟩:=List.mem_map.1 hm
     obtain⟨q,h3,h4⟩:=List.mem_filterMap.1 h1
     refine hnd.1 (List.mem_map.2 ⟨q,h3,?_⟩)
     rw[←(entOf_some h4).1,h2,(entOf_some hp).1]
  exact this m hn
 obtain⟨L,hL⟩: ∃L,L=A.srtL (fun x y:En=>kl (key x) (key y)) es:=⟨_,rfl⟩
 have hLs:Srt L:=hL▸strict es hes_nd
 have hLm: ∀e,e∈L↔e∈es:=fun e=>by rw[hL];exact(A.srtL_perm _ es).mem_iff
 have main: ∀(f:Nat) (sn:List Nat) (xs:List En),sn.Nodup→(∀i,i∈sn→i<m.length)→m.length<f+sn.length→xs.length≤sn.length→(∀e,e∈xs↔∃(i:Nat) (p:Ky×Int),i∈sn∧m[i]?=some p∧entOf p=some e)→(xs.map key).Nodup→F.schema_state_list_l1 m f sn xs=some L:=by
  intro f
  induction f with
  |zero=>intro sn xs h1 h2 h3;have:=A.seen_lt h1 h2;omega
  |succ f ih=>
   intro sn xs h1 h2 h3 h4 h5 h6
   have hsl:=A.seen_lt h1 h2
   rw[F.schema_state_list_l1]
   refine A.dem_of (fun hall=>?_) fun i p hp hi=>?_
   ·have hm: ∀e,e∈xs↔e∈es:=fun e=>by
     rw[h5,hes_mem]
     exact⟨fun⟨i,p,_,h⟩=>⟨i,p,h⟩,fun⟨i,p,ha,hb⟩=>⟨i,p,hall i (List.getElem?_eq_some_iff.1 ha).1,ha,hb⟩⟩
    rw[F.slices_SortFunc_api_Entry_api_Entry_schema_state_list_1,A.gd1 (by omega),A.srtF,if_pos (ordB xs h6),Option.bind_some,cl0_eq]
    congr 1
    refine srt_ext (strict xs h6) hLs fun e=>?_
    rw[hLm,←hm]
    exact(A.srtL_perm _ xs).mem_iff
   ·have hk1:=hk p (List.mem_of_getElem? hp)
    have hlt:=(List.getElem?_eq_some_iff.1 hp).1
    have hsn:(i::sn).Nodup:=List.nodup_cons.2 ⟨hi,h1⟩
    have hsb: ∀j,j∈i::sn→j<m.length:=fun j hj=>(List.mem_cons.1 hj).elim (fun e=>e▸hlt) (h2 j)
    have hsl2:=A.seen_lt hsn hsb
    rw[List.length_cons]at hsl2
    rw[A.gd1 ⟨decide_eq_true hk1.1,decide_eq_true hk1.2.1,hk1.2.2⟩]
    by_cases h0:p.2=0
    ·rw[if_neg (fun h=>h h0)]
     refine ih _ _ hsn hsb (by rw[List.length_cons];omega) (by rw[List.length_cons];omega) (fun e=>?_) h6
     rw[h5]
     refine⟨fun⟨j,q,ha,hb⟩=>⟨j,q,List.mem_cons_of_mem _ ha,hb⟩,fun⟨j,q,ha,hb,hc⟩=>⟨j,q,?_,hb,hc⟩⟩
     rcases List.mem_cons.1 ha with rfl|ha
     ·rw[hp]at hb;injection hb with hb;subst hb
      exact absurd h0 (entOf_some hc).2.2
     ·exact ha
    ·have hent:entOf p=some (p.1.1,p.1.2.1,p.1.2.2,p.2):=by unfold entOf;rw[if_pos h0]
     rw[if_pos h0,A.gd1 (by simp only[List.length_cons,List.length_nil];omega)]
     refine ih _ _ hsn hsb (by rw[List.length_cons];omega) (by simp only[List.length_append,List.length_cons,List.length_nil];omega) (fun e=>?_) ?_
     ·rw[List.mem_append,h5,List.mem_singleton]
      constructor
      ·rintro(⟨j,q,ha,hb⟩|rfl)
       ·exact⟨j,q,List.mem_cons_of_mem _ ha,hb⟩
       ·exact⟨i,p,List.mem_cons_self ..,hp,hent⟩
      ·rintro⟨j,q,ha,hb,hc⟩
       rcases List.mem_cons.1 ha with rfl|ha
       ·rw[hp]at hb;injection hb with hb;subst hb
        rw[hent]at hc;exact .inr (Option.some.inj hc).symm
       ·exact .inl ⟨j,q,ha,hb,hc⟩
     ·rw[List.map_append,List.map_cons,List.map_nil]
      refine List.nodup_append.2 ⟨h6,by simp,fun a ha b hb=>?_⟩
      rw[List.mem_singleton]at hb
      subst hb
      intro e
      subst e
      obtain⟨e2,h7,h8⟩:=List.mem_map.1 ha
      obtain⟨j,q,h9,h10,h11⟩:=(h5 e2).1 h7
      have:j=i:=hinj h10 hp (by rw[←(entOf_some h11).1,h8])
      subst this
      exact hi h9
 refine⟨L,?_,⟨hLs,fun e he=>?_⟩,fun k=>?_⟩
 ·exact main A.FU [] [] List.nodup_nil (by simp) (by have:=FU_big;simp;omega) (by simp) (by simp) (by simp)
 ·obtain⟨i,p,h1,h2⟩:=(hes_mem e).1 ((hLm e).1 he)
  rw[(entOf_some h2).2.1];exact(entOf_some h2).2.2
 ·by_cases hm:Z.mget 0 m k=0
  ·rw[hm]
   by_cases hg:gv L k=0
   ·exact hg
   ·obtain⟨e,h1,h2,h3⟩:=gv_at hg
    obtain⟨i,p,h4,h5⟩:=(hes_mem e).1 ((hLm e).1 h1)
    have h6:=(Z.mget_get (z:=0) hn h4).1
    obtain⟨a1,a2,a3⟩:=entOf_some h5
    rw[←a1,h2,hm]at h6
    exact absurd h6.symm a3
  ·have hh:Z.mhas m k=true:=by
    cases h:Z.mhas m k with
    |true=>rfl
    |false=>exact absurd (Z.mget_none h) hm
   have hmem:=Z.mget_mem (z:=0) hh
   have h1:entOf (k,Z.mget 0 m k)=some (k.1,k.2.1,k.2.2,Z.mget 0 m k):=by unfold entOf;rw[if_pos hm]
   obtain⟨i,hi⟩:=List.getElem?_of_mem hmem
   have h2:=gv_mem hLs ((hLm _).2 ((hes_mem _).2 ⟨i,_,hi,h1⟩))
   exact h2
end Go.Proofs.YtfpemeeadiigcaaDoor
end
section
set_option maxRecDepth 20000
set_option linter.unusedVariables false
set_option linter.unusedSimpArgs false
namespace Go.Proofs.YtfpemeeadiigcaaDoor
open Go.RowKit Go.Graph Go.Utf Go.Ent
abbrev MX:Int:=1099511627776
theorem scaled_eq {n a:Int}(h1:0≤n)(h2:n≤MX)(h3:0≤a)(h4:a≤1048576):F.schema_scaled n a=some (min MX (n*a)):=by
 have hm0:0≤n*a:=Int.mul_nonneg h1 h3
 have hm1:n*a≤MX*1048576:=Int.mul_le_mul h2 h4 h3 (by decide)
 have hr:Z.R64 (n*a):=⟨by omega,by simp only[MX]at hm1;omega⟩
 rw[F.schema_scaled]
 by_cases hn:0<n
 ·have e:Int.tdiv 1099511627776 n=1099511627776 / n:=Int.tdiv_eq_ediv_of_nonneg (by decide)
  have b1:0≤1099511627776 / n:=Int.ediv_nonneg (by decide) h1
  have b2:1099511627776 / n≤1099511627776:=Int.ediv_le_self _ (by decide)
  have hlt:(1099511627776 / n<a)↔(1099511627776<n*a):=by
   rw[Int.ediv_lt_iff_lt_mul hn,Int.mul_comm]
  rw[A.gd1 ⟨fun _=>by omega,fun _=>by rw[e];exact⟨by omega,by omega⟩⟩,A.ba,e]
  by_cases h:1099511627776<n*a
  ·rw[if_pos (decide_eq_true ⟨hn,hlt.2 h⟩),Int.min_eq_left (by simp only[MX];omega)]
  ·rw[if_neg (by simp only[decide_eq_true_eq];exact fun h2=>h (hlt.1 h2.2)),A.gd1 hr,Int.min_eq_right (by simp only[MX];omega)]
 ·have hn0:n=0:=by omega
  subst hn0
  rw[A.gd1 ⟨fun h=>absurd (of_decide_eq_true h) (by decide),fun h=>absurd (of_decide_eq_true h) (by decide)⟩,A.ba,if_neg (by simp),A.gd1 hr,Int.zero_mul];rfl
def z0F:Fun:=(0,0,ByteArray.mk #[])
def formP (m:Mv):Bool:=if m.2.2.1=1 then decide (m.2.2.2.1=0∧m.2.2.2.2=z0F)else if m.2.2.1=2 then decide ((0≤m.2.2.2.1∧m.2.2.2.1≤1048576)∧m.2.2.2.2=z0F)else if m.2.2.1=3 then decide (m.2.2.2.1=0∧chk 2 m.2.2.2.2=0)else false
theorem formed_eq (m:Mv)(hs:m.2.2.2.2.2.2.size≤9223372036854775807):F.schema_formed m=some (formP m):=by
 rw[F.schema_formed]
 unfold formP
 by_cases h1:m.2.2.1=1
 ·rw[if_pos h1,if_pos h1]
  by_cases h2:m.2.2.2.1=0
  ·rw[if_pos h2,F.schema_formed_j1];simp only[h2,true_and];rfl
  ·rw[if_neg h2,F.schema_formed_j1];simp[h2]
 rw[if_neg h1,if_neg h1]
 by_cases h2:m.2.2.1=2
 ·rw[if_pos h2,if_pos h2,A.ba]
  by_cases h3:0≤m.2.2.2.1∧m.2.2.2.1≤1048576
  ·rw[if_pos (decide_eq_true h3),F.schema_formed_j2];simp only[h3,true_and];rfl
  ·rw[if_neg (by simpa using h3),F.schema_formed_j2];simp only[h3,false_and];rfl
 rw[if_neg h2,if_neg h2]
 by_cases h3:m.2.2.1=3
 ·rw[if_pos h3,if_pos h3]
  by_cases h4:m.2.2.2.1=0
  ·rw[if_pos h4]
   show(F.fn_Check 2 m.2.2.2.2).bind _=_
   rw[fn_Check_eq _ _ hs,Option.bind_some,F.schema_formed_j3];simp only[h4,true_and]
  ·rw[if_neg h4,F.schema_formed_j3];simp[h4]
 rw[if_neg h3,if_neg h3]
def fresh:ByteArray:=ByteArray.mk #[102,114,101,115,104]
def tagP (n:Nd):ByteArray×Bool:=if n.2.1=16 then(fresh,true)else if n.2.1=11∧n.2.2.2.1.1=41 then(ByteArray.mk #[116,111,116,97,108,47,111,110,101],true)else if n.2.1=11∧n.2.2.2.1.1=42 then(ByteArray.mk #[116,111,116,97,108,47,115,105,122,101],true)else(ByteArray.mk #[],false)
theorem Tag_eq (n:Nd):F.schema_Tag n=some (tagP n):=by
 rw[F.schema_Tag]
 unfold tagP
 simp only[A.ba,decide_eq_true_eq]
 by_cases h1:n.2.1=16
 ·rw[if_pos h1,if_pos h1];rfl
 rw[if_neg h1,if_neg h1]
 by_cases h2:n.2.1=11∧n.2.2.2.1.1=41
 ·rw[if_pos h2,if_pos h2]
 rw[if_neg h2,if_neg h2]
 by_cases h3:n.2.1=11∧n.2.2.2.1.1=42
 ·rw[if_pos h3,if_pos h3]
 rw[if_neg h3,if_neg h3]
def fitsP (a b:Nd)(m:Mv):Int:=if m.1≠a.1∨m.2.1≠b.1∨formP m=false then 180 else if(tagP a).2=false∨(tagP b).2=false∨(tagP a).1≠(tagP b).1∨(m.2.2.1=2∧(tagP a).1=fresh)then 181 else 0
theorem Fits_eq (a b:Nd)(m:Mv)(hs:m.2.2.2.2.2.2.size≤9223372036854775807):F.schema_Fits a b m=some (fitsP a b m):=by
 have j1: ∀y:Bool,F.schema_Fits_j1 a b m y=some (if y=true then 180 else if(tagP a).2=false∨(tagP b).2=false∨(tagP a).1≠(tagP b).1∨(m.2.2.1=2∧(tagP a).1=fresh)then 181 else 0):=fun y=>by
  rw[F.schema_Fits_j1]
  cases y with
  |true=>rfl
  |false=>
   rw[if_neg (show ¬(false=true) by simp),if_neg (show ¬(false=true) by simp)]
   show(F.schema_Tag a).bind _=_
   rw[Tag_eq,Option.bind_some]
   show(F.schema_Tag b).bind _=_
   rw[Tag_eq,Option.bind_some]
   cases hA:(tagP a).2 with
   |false=>simp
   |true=>
    cases hB:(tagP b).2 with
    |false=>simp
    |true=>
     by_cases h:(tagP a).1=(tagP b).1
     ·by_cases h2:m.2.2.1=2
      ·by_cases h3:(tagP a).1=fresh
       ·have h3':(tagP b).1=fresh:=h.symm.trans h3
        have h3'':(tagP b).1=ByteArray.mk #[102,114,101,115,104]:=h3'
        simp[h,h2,h3',h3'']
        rfl
       ·have h3': ¬(tagP b).1=fresh:=fun e=>h3 (h.trans e)
        have h3'': ¬(tagP b).1=ByteArray.mk #[102,114,101,115,104]:=h3'
        simp[h,h2,h3',h3'']
      ·simp[h,h2]
     ·simp[h]
 rw[F.schema_Fits,A.bo]
 unfold fitsP
 by_cases h:m.1≠a.1∨m.2.1≠b.1
 ·rw[if_pos (decide_eq_true h),j1,if_pos rfl,if_pos (by rcases h with h|h;exact .inl h;exact .inr (.inl h))]
 ·rw[if_neg (by simpa using h)]
  show(F.schema_formed m).bind _=_
  rw[formed_eq m hs,Option.bind_some,j1]
  cases hfm:formP m with
  |false=>rw[if_pos (show(!false)=true from rfl),if_pos (.inr (.inr rfl))]
  |true=>rw[if_neg (show ¬((!true)=true) by simp),if_neg (show ¬(m.1≠a.1∨m.2.1≠b.1∨true=false)from fun h2=>h (by rcases h2 with h2|h2|h2;exact .inl h2;exact .inr h2;cases h2))]
def mvE (tn:Nd)(m:Mv)(e:En):En:=
 if m.2.2.1=2 then(tn.1,e.2.1,e.2.2.1,min MX (e.2.2.2*m.2.2.2.1))else if m.2.2.1=3 then(tn.1,(mapK m.2.2.2.2 (rec e)).1,if tn.2.1=16 then(mapK m.2.2.2.2 (rec e)).2 else e.2.2.1,e.2.2.2)else(tn.1,e.2.1,e.2.2.1,e.2.2.2)
structure Mok (tn:Nd) (m:Mv):Prop where
 kind:m.2.2.1=1∨m.2.2.1=2∨m.2.2.1=3
 sc:m.2.2.1=2→(0≤m.2.2.2.1∧m.2.2.2.1≤1048576)∧tn.2.1=11
 ks:m.2.2.1=3→chk 2 m.2.2.2.2=0
 tn:tn.2.1=11∨tn.2.1=16
theorem tag_kind {n:Nd}(h:(tagP n).2=true):n.2.1=16∧(tagP n).1=fresh∨n.2.1=11:=by
 unfold tagP at h ⊢
 by_cases h1:n.2.1=16
 ·rw[if_pos h1];exact .inl ⟨h1,rfl⟩
 ·rw[if_neg h1]at h ⊢
  split at h
  ·rename_i h2;exact .inr h2.1
  ·split at h
   ·rename_i h2;exact .inr h2.1
   ·cases h
theorem Mok.of {a b:Nd}{m:Mv}(hk:a.2.1=b.2.1)(h:fitsP a b m=0):Mok b m:=by
 unfold fitsP at h
 split at h
 ·cases h
 ·rename_i h1
  split at h
  ·cases h
  ·rename_i h2
   have hf:formP m=true:=by
    cases hh:formP m with
    |true=>rfl
    |false=>exact absurd (.inr (.inr hh)) h1
   have ta:(tagP a).2=true:=by
    cases hh:(tagP a).2 with
    |true=>rfl
    |false=>exact absurd (.inl hh) h2
   have tb:(tagP b).2=true:=by
    cases hh:(tagP b).2 with
    |true=>rfl
    |false=>exact absurd (.inr (.inl hh)) h2
   unfold formP at hf
   by_cases k1:m.2.2.1=1
   ·exact⟨.inl k1,fun h=>by omega,fun h=>by omega,(tag_kind tb).elim (fun h=>.inr h.1) .inl⟩
   rw[if_neg k1]at hf
   by_cases k2:m.2.2.1=2
   ·rw[if_pos k2]at hf
    have hf:=of_decide_eq_true hf
    refine⟨.inr (.inl k2),fun _=>⟨hf.1,?_⟩,fun h=>by omega,(tag_kind tb).elim (fun h=>.inr h.1) .inl⟩
    rcases tag_kind ta with⟨h3,h4⟩|h3
    ·exact absurd (.inr (.inr (.inr ⟨k2,h4⟩))) h2
    ·rw[←hk];exact h3
   rw[if_neg k2]at hf
   by_cases k3:m.2.2.1=3
   ·rw[if_pos k3]at hf
    exact⟨.inr (.inr k3),fun h=>by omega,fun _=>(of_decide_eq_true hf).2,(tag_kind tb).elim (fun h=>.inr h.1) .inl⟩
   ·rw[if_neg k3]at hf;cases hf
structure Eok (tn:Nd) (e:En):Prop where
 t:tn.2.1=11→e.2.2.1=ByteArray.mk #[]∧0≤e.2.2.2∧e.2.2.2≤MX
 f:tn.2.1=16→e.2.2.2=1∧okT e.2.2.1=true
theorem Eok.of {a b:Nd}(hk:a.2.1=b.2.1){e:En}(h:entOk a e=true):Eok b e:=by
 unfold entOk at h
 split at h
 ·cases h
 ·constructor
  ·intro h1
   rw[if_pos (hk.trans h1)]at h
   simp only[Bool.and_eq_true,decide_eq_true_eq]at h
   exact⟨h.1.1,h.1.2,h.2⟩
  ·intro h1
   rw[if_neg (by omega),if_pos (hk.trans h1)]at h
   simp only[Bool.and_eq_true,decide_eq_true_eq]at h
   exact h
theorem okT_nil:okT (ByteArray.mk #[])=true:=by decide
theorem Eok.txt {tn:Nd}{e:En}(h:Eok tn e)(ht:tn.2.1=11∨tn.2.1=16):okT e.2.2.1=true:=by
 rcases ht with ht|ht
 ·rw[(h.t ht).1];exact okT_nil
 ·exact(h.f ht).2
theorem mapP_ok {f:Fun}{r:Rec}(h:chk 2 f=0)(ho:okT r.2=true):mapP f r=(mapK f r,0):=by
 unfold mapP
 rw[if_neg (fun h2=>h2 h),if_pos ho]
theorem moved_eq (tn:Nd)(m:Mv)(e:En)(hm:Mok tn m)(he:Eok tn e)(hs:m.2.2.2.2.2.2.size≤9223372036854775807):F.schema_moved tn m e=some (mvE tn m e):=by
 rw[F.schema_moved]
 unfold mvE
 by_cases k2:m.2.2.1=2
 ·obtain⟨h1,h2⟩:=hm.sc k2
  obtain⟨_,h3,h4⟩:=he.t h2
  rw[if_pos k2,if_pos k2,scaled_eq h3 h4 h1.1 h1.2];rfl
 rw[if_neg k2,if_neg k2]
 by_cases k3:m.2.2.1=3
 ·rw[if_pos k3,if_pos k3]
  show(F.fn_Map m.2.2.2.2 (rec e)).bind _=_
  rw[fn_Map_eq _ _ hs,Option.bind_some,mapP_ok (hm.ks k3) (he.txt hm.tn)]
  by_cases h16:tn.2.1=16
  ·rw[if_pos h16,if_pos h16];rfl
  ·rw[if_neg h16,if_neg h16];rfl
 rw[if_neg k3,if_neg k3];rfl
abbrev oneK (tn:Nd):Bool:=decide (tn.2.1=16)
theorem mv_num {tn:Nd}{m:Mv}{e:En}(hm:Mok tn m)(he:Eok tn e):0≤num (mvE tn m e)∧num (mvE tn m e)≤Ent.cap (oneK tn):=by
 rcases hm.tn with ht|ht
 ·obtain⟨_,h1,h2⟩:=he.t ht
  have hc:Ent.cap (oneK tn)=MX:=by unfold oneK;rw[ht];rfl
  rw[hc]
  unfold mvE
  split
  ·rename_i k2
   have:=(hm.sc k2).1
   have h3:0≤e.2.2.2*m.2.2.2.1:=Int.mul_nonneg h1 this.1
   show 0≤min MX (e.2.2.2*m.2.2.2.1)∧min MX (e.2.2.2*m.2.2.2.1)≤MX
   simp only[MX];omega
  ·(split)
   ·exact⟨h1,h2⟩
   ·exact⟨h1,h2⟩
 ·obtain⟨h1,_⟩:=he.f ht
  have hc:Ent.cap (oneK tn)=1:=by unfold oneK;rw[ht];rfl
  rw[hc]
  unfold mvE
  split
  ·rename_i k2
   have:=(hm.sc k2).2;omega
  ·(split)
   ·show 0≤e.2.2.2∧e.2.2.2≤1;omega
   ·show 0≤e.2.2.2∧e.2.2.2≤1;omega
theorem fresh_num {tn:Nd}{m:Mv}{e:En}(hm:Mok tn m)(he:Eok tn e)(ht:tn.2.1=16):num (mvE tn m e)=1:=by
 obtain⟨h1,_⟩:=he.f ht
 unfold mvE
 split
 ·rename_i k2
  have:=(hm.sc k2).2;omega
 ·(split)
  ·exact h1
  ·exact h1
theorem i64h {x:Int}(h1: -9223372036854775808≤x)(h2:x≤9223372036854775807):IntKind.i64.has x:=Z.i64_has ⟨h1,h2⟩
theorem mapK_has {f:Fun}{r:Rec}(h:chk 2 f=0)(ho:okT r.2=true)(hr:IntKind.i64.has r.1):IntKind.i64.has (mapK f r).1:=by
 obtain⟨h64,hv⟩:=okT_iff.1 ho
 obtain⟨hf,hc⟩:=vld_cks hv
 have hcl:=cks_len r.2
 unfold mapK
 by_cases e2:f.1=2
 ·rw[if_pos e2];exact hr
 rw[if_neg e2]
 by_cases e3:f.1=3
 ·rw[if_pos e3];exact hr
 rw[if_neg e3]
 by_cases e4:f.1=4
 ·rw[if_pos e4];exact hr
 rw[if_neg e4]
 by_cases e5:f.1=5
 ·rw[if_pos e5];exact hr
 rw[if_neg e5]
 by_cases e6:f.1=6
 ·rw[if_pos e6]
  obtain⟨n1,n2⟩:=num_mod h e6
  have t1:Int.tmod (Int.tmod r.1 f.2.1+f.2.1) f.2.1<f.2.1:=Int.tmod_lt_of_pos _ (by omega)
  have t2: -f.2.1<Int.tmod (Int.tmod r.1 f.2.1+f.2.1) f.2.1:=by
   have:=Int.tmod_lt_of_pos (-(Int.tmod r.1 f.2.1+f.2.1)) (show 0<f.2.1 by omega)
   rw[Int.neg_tmod]at this;omega
  exact i64h (by show _≤Int.tmod _ _;omega) (by show Int.tmod _ _≤_;omega)
 rw[if_neg e6]
 by_cases e7:f.1=7
 ·rw[if_pos e7];exact i64h (by show _≤((cks r.2.data.toList).length:Int);omega) (by show((cks r.2.data.toList).length:Int)≤_;omega)
 rw[if_neg e7]
 by_cases e8:f.1=8
 ·rw[if_pos e8]
  cases hx:((cks r.2.data.toList).map (·.2))[0]? with
  |none=>exact i64h (show(-9223372036854775808:Int)≤0 by decide) (show(0:Int)≤9223372036854775807 by decide)
  |some x=>have:=rune_fits hc hx;exact i64h (by show _≤x;omega) (by show x≤_;omega)
 rw[if_neg e8];exact hr
theorem mv_has {tn:Nd}{m:Mv}{e:En}(hm:Mok tn m)(he:Eok tn e)(ht:IntKind.i64.has tn.1)(h:hasK (key e)):hasK (key (mvE tn m e)):=by
 have hot:=he.txt hm.tn
 have hsz: ∀s:ByteArray,okT s=true→s.size≤maxLen:=fun s h=>by
  have:=(okT_iff.1 h).1
  simp only[maxLen];omega
 unfold mvE
 split
 ·exact⟨ht,h.2⟩
 ·(split)
  ·rename_i k3
   refine⟨ht,mapK_has (hm.ks k3) hot h.2.1,?_⟩
   show(if tn.2.1=16 then(mapK m.2.2.2.2 (rec e)).2 else e.2.2.1).size≤maxLen
   split
   ·exact hsz _ (mapK_ok (hm.ks k3) hot)
   ·exact h.2.2
  ·exact⟨ht,h.2⟩
abbrev frm (tn:Nd) (m:Mv):Nd:=(m.1,tn.2)
def migP (tn:Nd)(m:Mv)(l:List En):List En×Int:=
 if m.2.1≠tn.1 then([],180)else if fitsP (frm tn m) tn m≠0 then([],180)else if stP (frm tn m) l=true then(foldP (oneK tn) (l.map (mvE tn m)) [],0)else([],171)
theorem st_eok {tn:Nd}{m:Mv}{l:List En}(h:stP (frm tn m) l=true): ∀e,e∈l→Eok tn e:=fun e he=>Eok.of (a:=frm tn m) (b:=tn) rfl ((stP_iff.1 h).1 e he)
theorem Migrate_eq (tn:Nd)(m:Mv)(l:List En)(hs:m.2.2.2.2.2.2.size≤9223372036854775807)(hl:l.length*40≤140737488355328)(ht:IntKind.i64.has tn.1)(hk: ∀e,e∈l→hasK (key e)):F.schema_Migrate tn m l=some (migP tn m l):=by
 rw[F.schema_Migrate]
 unfold migP
 by_cases h1:m.2.1=tn.1
 case neg=>rw[if_pos h1,if_pos h1]
 rw[if_neg (fun h=>h h1),if_neg (show ¬(m.2.1≠tn.1)from fun h=>h h1)]
 show(F.schema_Fits (frm tn m) tn m).bind _=_
 rw[Fits_eq _ _ _ hs,Option.bind_some]
 by_cases h2:fitsP (frm tn m) tn m=0
 case neg=>rw[if_pos h2,if_pos h2]
 rw[if_neg (show ¬(fitsP (frm tn m) tn m≠0)from fun h=>h h2),if_neg (show ¬(fitsP (frm tn m) tn m≠0)from fun h=>h h2)]
 show(F.oper_CheckState (frm tn m) l).bind _=_
 rw[CheckState_eq _ _ (by omega),Option.bind_some]
 have hm:Mok tn m:=Mok.of (a:=frm tn m) (b:=tn) rfl h2
 by_cases h3:stP (frm tn m) l=true
 case neg=>rw[if_neg h3,if_neg h3];rfl
 rw[if_pos h3,if_pos h3,if_neg (show ¬((0:Int)≠0)from fun h=>h rfl)]
 have hE:=st_eok h3
 have hC:0≤Ent.cap (oneK tn):=by cases oneK tn<;>decide
 have hC2:Ent.cap (oneK tn)≤MX:=by cases oneK tn<;>decide
 have hnum: ∀e,e∈l.map (mvE tn m)→0≤num e∧num e≤Ent.cap (oneK tn):=fun e he=>by
  obtain⟨x,hx,rfl⟩:=List.mem_map.1 he
  exact mv_num hm (hE x hx)
 have csb: ∀(q:List En),(∀e,e∈q→0≤num e)→∀k,0≤cs (Ent.cap (oneK tn)) q k∧cs (Ent.cap (oneK tn)) q k≤Ent.cap (oneK tn):=fun q hq k=>by
  rw[cs_sm hC q hq]
  have:=sm_nn hq k
  omega
 have:=A.lp l (fun f (mm:List (Ky×Int)) y=>F.schema_Migrate_l1 tn m l f mm y) (fun _ _ _=>some (foldP (oneK tn) (l.map (mvE tn m)) [],0)) (fun k mm=>(mm.map Prod.fst).Nodup∧(∀q,Z.mget 0 mm q=cs (Ent.cap (oneK tn)) ((l.take k).map (mvE tn m)) q)∧(∀p,p∈mm→hasK p.1)∧mm.length≤k)
  (fun f mm hp=>by
   show F.schema_Migrate_l1 tn m l (f+1) mm _=_
   obtain⟨p1,p2,p3,p4⟩:=hp
   obtain⟨L,e1,e2,e3⟩:=list_eq mm p1 p3 (by omega)
   rw[F.schema_Migrate_l1,if_neg (by omega),e1,Option.bind_some]
   obtain⟨f1,f2⟩:=foldP_nil (one:=oneK tn) (l.map (mvE tn m)) hnum
   rw[List.take_length]at p2
   rw[nf_ext e2 f1.nf fun k=>by rw[e3,p2,f2]])
  (fun f mm k x hx hk2 hp ih=>by
   show F.schema_Migrate_l1 tn m l (f+1) mm _=_
   obtain⟨p1,p2,p3,p4⟩:=hp
   have hxl:=List.mem_of_getElem? hx
   have hxE:=hE x hxl
   have hn:=mv_num hm hxE
   have hq: ∀e,e∈(l.take k).map (mvE tn m)→0≤num e:=fun e he=>by
    obtain⟨z,hz,rfl⟩:=List.mem_map.1 he
    exact(mv_num hm (hE z (List.mem_of_mem_take hz))).1
   have hb:=csb _ hq (key (mvE tn m x))
   have hr:Z.R64 ((k:Int)+1):=⟨by omega,by omega⟩
   have htk:(l.take (k+1)).map (mvE tn m)=(l.take k).map (mvE tn m)++[mvE tn m x]:=by rw[List.take_add_one,hx];simp
   rw[F.schema_Migrate_l1,if_pos (by omega),A.ixn hx,Option.bind_some]
   show(F.schema_moved tn m x).bind _=_
   rw[moved_eq tn m x hm hxE hs,Option.bind_some]
   show(F.schema_state_add mm tn.2.1 (mvE tn m x)).bind _=_
   have goal: ∀v:Int,v=min (Ent.cap (oneK tn)) (cs (Ent.cap (oneK tn)) ((l.take k).map (mvE tn m)) (key (mvE tn m x))+num (mvE tn m x))→A.gd (Z.R64 ((k:Int)+1)) (F.schema_Migrate_l1 tn m l f (Z.mins mm (key (mvE tn m x)) v) ((k:Int)+1))=some (foldP (oneK tn) (l.map (mvE tn m)) [],0):=fun v hv=>by
    rw[A.gd1 hr]
    refine ih _ ⟨Z.mins_nodup p1 _ _,fun q=>?_,fun p hp2=>?_,?_⟩
    ·rw[Z.mget_ins,htk,cs_snoc]
     by_cases hqk:q=key (mvE tn m x)
     ·rw[if_pos hqk,if_pos hqk.symm,hqk];exact hv
     ·rw[if_neg hqk,if_neg (fun h=>hqk h.symm)];exact p2 q
    ·have h5:p.1∈(Z.mins mm (key (mvE tn m x)) v).map Prod.fst:=List.mem_map.2 ⟨p,hp2,rfl⟩
     rw[Z.mins_keys]at h5
     have hxk:=mv_has hm hxE ht (hk x hxl)
     split at h5
     ·obtain⟨p',h6,h7⟩:=List.mem_map.1 h5
      rw[←h7];exact p3 p' h6
     ·rcases List.mem_append.1 h5 with h5|h5
      ·obtain⟨p',h6,h7⟩:=List.mem_map.1 h5
       rw[←h7];exact p3 p' h6
      ·rw[List.mem_singleton]at h5;rw[h5];exact hxk
    ·have h5:=congrArg List.length (Z.mins_keys mm (key (mvE tn m x)) v)
     rw[List.length_map]at h5
     split at h5
     ·rw[List.length_map]at h5;omega
     ·rw[List.length_append,List.length_map]at h5
      simp only[List.length_cons,List.length_nil]at h5
      omega
   rw[F.schema_state_add]
   rcases hm.tn with h11|h16
   ·have hc:Ent.cap (oneK tn)=MX:=by unfold oneK;rw[h11];rfl
    rw[hc]at hn hb goal
    have hg:Z.mget 0 mm (key (mvE tn m x))=cs MX ((l.take k).map (mvE tn m)) (key (mvE tn m x)):=by rw[p2,hc]
    rw[if_pos h11]
    show(A.gd (Z.R64 (Z.mget 0 mm (key (mvE tn m x))+num (mvE tn m x))) (some (Z.mins mm (key (mvE tn m x)) (min 1099511627776 (Z.mget 0 mm (key (mvE tn m x))+num (mvE tn m x)))))).bind _=_
    rw[hg,A.gd1 ⟨by omega,by simp only[MX]at hn hb ⊢;omega⟩,Option.bind_some]
    exact goal _ rfl
   ·have hc:Ent.cap (oneK tn)=1:=by unfold oneK;rw[h16];rfl
    have h1n:=fresh_num hm hxE h16
    rw[if_neg (by omega)]
    show(some (Z.mins mm (key (mvE tn m x)) (num (mvE tn m x)))).bind _=_
    rw[Option.bind_some]
    exact goal _ (by rw[hc,h1n];rw[hc]at hb;omega))
  (by have:=FU_big;omega) [] ⟨List.nodup_nil,fun q=>rfl,(fun p hp=>(List.not_mem_nil hp).elim),Nat.le_refl _⟩
 exact this
end Go.Proofs.YtfpemeeadiigcaaDoor
end
section
set_option maxRecDepth 20000
set_option linter.unusedVariables false
set_option linter.unusedSimpArgs false
namespace Go.Proofs.YtfpemeeadiigcaaDoor
open Go.RowKit Go.Graph Go.Utf Go.Ent
theorem begun_eq:F.L18_begun=some true:=by kernel_rfl
def finN:Int→List En→Int
 |y,[]=>y
 |y,x::r=>finN (min (y+min (x.2.2.1.size:Int) 1048576) 1048576) r
theorem few_ok (l:List En)(hl:l.length≤maxLen): ∃b,F.L18_few l=some b∧(b=true→l.length≤200):=by
 have hl':l.length≤9223372036854775807:=by simpa[maxLen] using hl
 have hm:(min (l.length:Int) 300).toNat≤l.length:=by omega
 refine⟨bif decide ((l.length:Int)≤200)then decide (finN 0 (List.take (min (l.length:Int) 300).toNat l)≤9000)else false,?_,fun h=>?_⟩
 ·have:=A.lp (List.take (min (l.length:Int) 300).toNat l) (fun f (y:Int) k=>F.L18_few_l1 l f y k) (fun _ r y=>some (bif decide ((l.length:Int)≤200)then decide (finN y r≤9000)else false)) (fun _ y=>0≤y∧y≤1048576)
   (fun f y hp=>by
    show F.L18_few_l1 l (f+1) y _=_
    rw[F.L18_few_l1,if_neg (by omega)];rfl)
   (fun f y k x hx hk hp ih=>by
    show F.L18_few_l1 l (f+1) y _=_
    have h2:k<300:=by rw[List.length_take]at hk;omega
    have hn:(0:Int)≤(x.2.2.1.size:Int):=by omega
    rw[F.L18_few_l1,if_pos (by omega),A.ixn hx,Option.bind_some,A.gd1 ⟨by omega,by omega⟩,A.gd1 ⟨by omega,by omega⟩]
    exact ih _ ⟨by omega,by omega⟩)
   (by have:=FU_big;rw[List.length_take];omega) 0 ⟨by omega,by omega⟩
  rw[F.L18_few,A.gd1 ⟨by omega,hm⟩]
  exact this
 ·by_cases h2:(l.length:Int)≤200
  ·omega
  ·rw[decide_eq_false h2]at h;cases h
theorem hasK_of {l:List En}(h:(Z.Ty.slice T38).ok l): ∀e,e∈l→hasK (key e):=fun e he=>by
 have:=h.2 e he
 exact⟨this.1,this.2.1,this.2.2.1⟩
theorem mv_nums {tn:Nd}{m:Mv}{l:List En}(hm:Mok tn m)(hE: ∀e,e∈l→Eok tn e): ∀e,e∈l.map (mvE tn m)→0≤num e∧num e≤Ent.cap (oneK tn):=fun e he=>by
 obtain⟨x,hx,rfl⟩:=List.mem_map.1 he
 exact mv_num hm (hE x hx)
theorem hasZero_eq (l:List En)(hl:l.length≤9223372036854775806):F.slices_ContainsFunc_api_Entry_api_Entry_L18_SchemaAsWas_1 l=some (l.any fun e=>decide (num e=0)):=by
 have:=A.lp0 l (fun f y=>F.slices_IndexFunc_api_Entry_api_Entry_L18_SchemaAsWas_1_l1 l f y) (fun k r=>some (match r.findIdx? (fun e=>decide (num e=0))with|some j=>((k+j:Nat):Int)|none=> -1))
  (fun f=>by rw[F.slices_IndexFunc_api_Entry_api_Entry_L18_SchemaAsWas_1_l1,if_neg (by omega)];rfl)
  (fun f k x hx hk ih=>by
   rw[F.slices_IndexFunc_api_Entry_api_Entry_L18_SchemaAsWas_1_l1,if_pos (by omega),A.ixn hx,Option.bind_some,F.L18_SchemaAsWas_1,Option.bind_some,List.findIdx?_cons]
   by_cases h:num x=0
   ·have h':x.2.2.2=0:=h
    simp only[h',decide_true,if_true,Nat.add_zero]
   ·have h': ¬x.2.2.2=0:=h
    simp only[h',decide_false,Bool.false_eq_true,if_false]
    rw[A.gd1 ⟨by omega,by omega⟩,ih]
    cases List.findIdx? (fun e:En=>decide (num e=0)) (l.drop (k+1))with
    |none=>rfl
    |some j=>simp only[Option.map_some];congr 1;omega)
  (by have:=FU_big;omega)
 rw[F.slices_ContainsFunc_api_Entry_api_Entry_L18_SchemaAsWas_1,F.slices_IndexFunc_api_Entry_api_Entry_L18_SchemaAsWas_1,this,Option.bind_some]
 congr 1
 cases h:List.findIdx? (fun e:En=>decide (num e=0)) l with
 |none=>
  have h2:=List.findIdx?_eq_none_iff.1 h
  have:(l.any fun e=>decide (num e=0))=false:=List.any_eq_false.2 fun x hx=>by rw[h2 x hx];simp
  rw[this];rfl
 |some j=>
  obtain⟨hj,h2,_⟩:=List.findIdx?_eq_some_iff_getElem.1 h
  have:(l.any fun e=>decide (num e=0))=true:=List.any_eq_true.2 ⟨l[j],List.getElem_mem hj,h2⟩
  rw[this]
  exact decide_eq_true (by show(0:Int)≤((0+j:Nat):Int);omega)
def atN (n:Int)(e:En):En:=(n,e.2.1,e.2.2.1,e.2.2.2)
theorem asWas_mv {tn:Nd}{m:Mv}{l:List En}(hm:Mok tn m)(hE: ∀e,e∈l→Eok tn e)(hst:stP (frm tn m) l=true)(hmv: ∀e,e∈l→mvE tn m e=atN tn.1 e)(hz: ∀e,e∈l→num e≠0):foldP (oneK tn) (l.map (mvE tn m)) []=l.map (atN tn.1):=by
 have hmap:l.map (mvE tn m)=l.map (atN tn.1):=List.map_congr_left hmv
 obtain⟨f1,f2⟩:=foldP_nil (one:=oneK tn) (l.map (mvE tn m)) (mv_nums hm hE)
 have hb:Bd (oneK tn) (l.map (atN tn.1)):=by
  refine⟨List.pairwise_map.2 ((stP_iff.1 hst).2.imp fun {a b} h=>?_),fun e he=>?_⟩
  ·show kl (tn.1,a.2.1,a.2.2.1) (tn.1,b.2.1,b.2.2.1)=true
   unfold kl
   have h2:rl (a.2.1,a.2.2.1) (b.2.1,b.2.2.1)=true:=h
   rw[h2];simp
  ·rw[←hmap]at he
   have h1:=mv_nums hm hE e he
   rw[hmap]at he
   obtain⟨x,hx,rfl⟩:=List.mem_map.1 he
   have h2:num (atN tn.1 x)≠0:=hz x hx
   exact⟨by omega,h1.2⟩
 refine nf_ext f1.nf hb.nf fun k=>?_
 rw[f2,hmap,Bd.cs hb]
theorem schemaAsWas_plain (a0:Nd)(a1:Int)(a2:List En)(a3:UInt8)(h0:T25.ok a0)(h1:IntKind.i64.has a1)(h2:(Z.Ty.slice T38).ok a2)(_:True)(hsz:a2.length*40≤140737488351232):F.L18_SchemaAsWas a0 a1 a2 a3=some true:=by
 have hl:a2.length≤9223372036854775806:=by omega
 have main: ∀(k A fk:Int),(k=1∧A=0∧fk=0)∨(k=2∧A=1∧fk=0)∨(k=3∧A=0∧fk=1)→F.L18_SchemaAsWas_j3 a0 a1 a2 k A fk=some true:=by
  intro k A0 fk hway
  obtain⟨m,hmd⟩: ∃m:Mv,m=(a1,a0.1,k,A0,(fk,0,ByteArray.mk #[])):=⟨_,rfl⟩
  rw[F.L18_SchemaAsWas_j3]
  show(F.schema_Migrate a0 (a1,a0.1,k,A0,(fk,0,ByteArray.mk #[])) a2).bind _=_
  rw[←hmd]
  have hms:m.2.2.2.2.2.2.size=0:=by rw[hmd];rfl
  rw[Migrate_eq a0 m a2 (by omega) (by omega) h0.1 (hasK_of h2),Option.bind_some,begun_eq,Option.bind_some,if_neg (by simp)]
  have hb: ∀(r:List En×Int) y,y=true→F.L18_SchemaAsWas_j2 a0 a2 r y=some true:=fun r y hy=>by rw[F.L18_SchemaAsWas_j2,if_pos hy,begun_eq];rfl
  obtain⟨b,hf,hfl⟩:=few_ok a2 h2.1
  rw[hf,Option.bind_some]
  cases b with
  |false=>rw[if_pos (show(bif !false then true else _)=true from rfl)];exact hb _ _ rfl
  |true=>
   show(if decide ((migP a0 m a2).2≠0)=true then _ else _)=_
   by_cases he:(migP a0 m a2).2=0
   case neg=>rw[if_pos (decide_eq_true he)];exact hb _ _ rfl
   rw[if_neg (by simp[he]),hasZero_eq _ hl,Option.bind_some]
   cases hz:(a2.any fun e=>decide (num e=0))with
   |true=>exact hb _ _ rfl
   |false=>
    have hz': ∀e,e∈a2→num e≠0:=fun e hem h=>by
     have:=List.any_eq_false.1 hz e hem
     exact this (decide_eq_true h)
    have hres:(migP a0 m a2).1=a2.map (atN a0.1):=by
     unfold migP at he ⊢
     split at he
     ·cases he
     ·rename_i e1
      rw[if_neg e1]
      split at he
      ·cases he
      ·rename_i e2
       rw[if_neg e2]
       have e2':fitsP (frm a0 m) a0 m=0:=by
        by_cases h:fitsP (frm a0 m) a0 m=0
        ·exact h
        ·exact absurd h e2
       split at he
       ·rename_i e3
        rw[if_pos e3]
        have hm:Mok a0 m:=Mok.of (a:=frm a0 m) (b:=a0) rfl e2'
        have hE:=st_eok e3
        refine asWas_mv hm hE e3 (fun e hem=>?_) hz'
        have hEe:=hE e hem
        unfold mvE
        rcases hway with⟨rfl,rfl,rfl⟩|⟨rfl,rfl,rfl⟩|⟨rfl,rfl,rfl⟩
        ·subst hmd
         rw[if_neg (show ¬((1:Int)=2) by decide),if_neg (show ¬((1:Int)=3) by decide)];rfl
        ·have hk2:m.2.2.1=2:=by rw[hmd]
         obtain⟨_,t1,t2⟩:=hEe.t (hm.sc hk2).2
         subst hmd
         rw[if_pos rfl]
         show(a0.1,e.2.1,e.2.2.1,min MX (e.2.2.2*1))=_
         rw[Int.mul_one,Int.min_eq_right t2];rfl
        ·subst hmd
         rw[if_neg (show ¬((3:Int)=2) by decide),if_pos rfl]
         have hK:mapK (1,0,ByteArray.mk #[]) (rec e)=rec e:=rfl
         show(a0.1,(mapK (1,0,ByteArray.mk #[]) (rec e)).1,if a0.2.1=16 then(mapK (1,0,ByteArray.mk #[]) (rec e)).2 else e.2.2.1,e.2.2.2)=_
         rw[hK]
         split<;>rfl
       ·cases he
    rw[F.L18_SchemaAsWas_j2,if_neg (by simp),hres,if_neg (by rw[List.length_map];omega)]
    exact A.lp0 a2 (fun f y=>F.L18_SchemaAsWas_l1 a0 a2 (migP a0 m a2) f y) (fun _ _=>some true)
     (fun f=>by rw[F.L18_SchemaAsWas_l1,if_neg (by omega)])
     (fun f k x hx hk ih=>by
      have hx2:(migP a0 m a2).1[k]?=some (atN a0.1 x):=by rw[hres,List.getElem?_map,hx];rfl
      rw[F.L18_SchemaAsWas_l1,if_pos (by omega),A.ixn hx,Option.bind_some,A.ixn hx2,Option.bind_some]
      show(if atN a0.1 x≠atN a0.1 x then _ else _)=_
      rw[if_neg (fun h=>h rfl),A.gd1 ⟨by omega,by omega⟩];exact ih)
     (by have:=FU_big;omega)
 rw[F.L18_SchemaAsWas,A.gd1 (by decide)]
 by_cases w1:Int.tmod (a3.toNat:Int) 3=1
 ·rw[if_pos w1];exact main 2 1 0 (.inr (.inl ⟨rfl,rfl,rfl⟩))
 ·rw[if_neg w1]
  by_cases w2:Int.tmod (a3.toNat:Int) 3=2
  ·rw[if_pos w2];exact main 3 0 1 (.inr (.inr ⟨rfl,rfl,rfl⟩))
  ·rw[if_neg w2];exact main 1 0 0 (.inl ⟨rfl,rfl,rfl⟩)
end Go.Proofs.YtfpemeeadiigcaaDoor
end
section
set_option linter.unusedVariables false
namespace Go.A
open Go.RowKit Go.Z
theorem mapM_len {α β:Type}{f:α→Option β}: ∀{l:List α} {r:List β},l.mapM f=some r→r.length=l.length
 | [],r,h=>by rw[List.mapM_nil]at h;injection h with h;subst h;rfl
 |x::l,r,h=>by
  rw[List.mapM_cons]at h
  cases hx:f x with
  |none=>rw[hx]at h;cases h
  |some y=>
   rw[hx]at h
   cases hl:l.mapM f with
   |none=>simp only[Option.bind_eq_bind,Option.bind_some,hl]at h;cases h
   |some ys=>
    simp only[Option.bind_eq_bind,Option.bind_some,hl]at h
    injection h with h;subst h
    rw[List.length_cons,List.length_cons,mapM_len hl]
theorem trod_len {H:Type}{enc:TypeId×Value→H}{P:Program}{w:World}{base fu:Nat}{sp:Nat→Bool}{held:Bool}{t e:TypeId}{a:Option Addr}{n c:Nat}{d:DataW H}{p:List MemPlace}
  (h:DataW.trod enc P w base sp held fu t [.slice a n c]=some (d,p)) (hu:P.underlying t=some (.slice e)):n=0∨∃elems spare,d=.slice elems spare∧elems.length=n:=by
 cases fu with
 |zero=>cases h
 |succ fu=>
  unfold DataW.trod at h
  rw[hu]at h
  cases a with
  |none=>
   cases n with
   |zero=>exact .inl rfl
   |succ n=>simp at h
  |some ad=>
   simp only at h
   split at h
   ·cases hm:(List.range n).mapM fun i=>(w.cells? base (ad.add (i*P.cellsOf e)) (P.cellsOf e)).bind (DataW.trod enc P w base sp held fu e)with
    |none=>rw[hm]at h;cases h
    |some elems=>
     rw[hm,Option.bind_some,Option.map_eq_some_iff]at h
     obtain⟨rest,_,h2⟩:=h
     injection h2 with h2 _
     have:=mapM_len hm
     rw[List.length_range]at this
     exact .inr ⟨_,_,h2.symm,by rw[List.length_map];exact this⟩
   ·cases h
end Go.A
end
section
namespace Go.Z
open Go.RowKit
def OpenT (P:Program)(T:TypeId)(t:Ty):Prop:=
 P.cellsOf T=t.size∧∀(H:Type) (enc:TypeId×Value→H) (w:World) (base:Nat) (spare:Nat→Bool) (held:Bool) (fuel:Nat) (cs:List Value) (x:DataW H×List MemPlace),
  DataW.trod enc P w base spare held fuel T cs=some x→∃y:t.den,t.rep w (nt []) cs y
section
variable {P:Program}{T e:TypeId}
theorem ot_int {k:IntKind}(hc:P.cellsOf T=1)(ht:P.underlying T=some (.int k)):OpenT P T (.int k):=⟨hc,fun H enc w base spare held fuel cs x h=>by
 obtain⟨n,rfl,_,hw⟩:=DataW.trod_int ht h
 refine⟨n,rfl,?_⟩
 simp only[Lit.wf,Bool.and_eq_true,decide_eq_true_eq]at hw
 exact hw⟩
theorem ot_byte (hc:P.cellsOf T=1)(ht:P.underlying T=some (.int .u8)):OpenT P T .byte:=⟨hc,fun H enc w base spare held fuel cs x h=>by
 obtain⟨n,rfl,_,hw⟩:=DataW.trod_int ht h
 simp[Lit.wf,IntKind.min,IntKind.max,IntKind.signed,IntKind.bits]at hw
 exact⟨UInt8.ofNat n.toNat,congrArg (fun z=>[Value.int .u8 z]) (u8_of (by omega))⟩⟩
theorem ot_str (hc:P.cellsOf T=1)(ht:P.underlying T=some .string):OpenT P T .str:=⟨hc,fun H enc w base spare held fuel cs x h=>by
 obtain⟨s,rfl,_,hs⟩:=DataW.trod_string ht h
 exact⟨s,rfl,hs⟩⟩
def OpenPs (P:Program):List (TypeId×Nat)→Nat→Ty→Prop
 | [],_,_=>False
 | [(T,o')],o,t=>o'=o∧OpenT P T t
 |(T,o')::p::ps,o,.pair a b=>o'=o∧OpenT P T a∧OpenPs P (p::ps) (o+a.size) b
 |_::_::_,_,_=>False
theorem open_ps {H:Type}{enc:TypeId×Value→H}{w:World}{base:Nat}{spare:Nat→Bool}{held:Bool}{fuel:Nat}{cs:List Value}:
  ∀(ps:List (TypeId×Nat)) (o:Nat) (t:Ty),OpenPs P ps o t→(∀p∈ps,∃x,DataW.trod enc P w base spare held fuel p.1 ((cs.drop p.2).take (P.cellsOf p.1))=some x)→∃y:t.den,t.rep w (nt []) ((cs.drop o).take t.size) y
 | [],_,_,h,_=>h.elim
 | [(T,o')],o,t,h,hx=>by
  obtain⟨rfl,⟨hc,ho⟩⟩:=h
  obtain⟨x,hx⟩:=hx (T,o') (List.mem_singleton.2 rfl)
  rw[←hc];exact ho _ _ _ _ _ _ _ _ _ hx
 |(T,o')::p::ps,o,.pair a b,h,hx=>by
  obtain⟨rfl,⟨hc,ho⟩,hr⟩:=h
  obtain⟨x,h1⟩:=hx (T,o') (List.mem_cons_self ..)
  obtain⟨ya,hya⟩:=ho _ _ _ _ _ _ _ _ _ h1
  obtain⟨yb,hyb⟩:=open_ps (p::ps) _ b hr fun q hq=>hx q (List.mem_cons_of_mem _ hq)
  refine⟨(ya,yb),_,_,?_,hya,hyb⟩
  show(cs.drop o').take (a.size+b.size)=_
  rw[hc,List.take_add,List.drop_drop]
 |_::_::_,_,.int _,h,_=>h.elim
 |_::_::_,_,.byte,h,_=>h.elim
 |_::_::_,_,.bool,h,_=>h.elim
 |_::_::_,_,.str,h,_=>h.elim
 |_::_::_,_,.slice _,h,_=>h.elim
theorem ot_struct {fs:List Field}{t:Ty}(hc:P.cellsOf T=t.size)(ht:P.underlying T=some (.struct fs.toArray))(h:OpenPs P (fs.map fun f=>(f.type,f.offset)) 0 t):OpenT P T t:=⟨hc,fun H enc w base spare held fuel cs x hx=>by
 obtain⟨xs,n,_,_,hl,hs,hf⟩:=DataW.trod_struct ht hx
 have hcs:cs=(cs.drop 0).take t.size:=by rw[List.drop_zero,List.take_of_length_le (by omega)]
 rw[hcs]
 refine open_ps (fuel:=n) (enc:=enc) (base:=base) (spare:=spare) (held:=held) _ 0 t h fun p hp=>?_
 obtain⟨f,hf1,rfl⟩:=List.mem_map.1 hp
 obtain⟨i,hi,he⟩:=List.getElem_of_mem hf1
 have h1:=hf i f (by rw[List.getElem?_toArray,List.getElem?_eq_getElem hi,he])
 rw[h1,List.getElem?_eq_getElem (by rw[hs];simpa using hi)]
 exact⟨_,rfl⟩⟩
theorem rows_of {t:Ty}{w:World}{g:Addr}: ∀(n:Nat),(∀i,i<n→∃(cs:List Value) (y:t.den),cs.length=t.size∧(∀j u,cs[j]?=some u→w.cell? (g.add (i*t.size+j))=some u)∧t.rep w (nt []) cs y)→
  ∃(cells:List Value) (ys:List t.den),ys.length=n∧cells.length=n*t.size∧(∀j u,cells[j]?=some u→w.cell? (g.add j)=some u)∧∀(i:Nat) (y:t.den),ys[i]?=some y→t.rep w (nt []) ((cells.drop (i*t.size)).take t.size) y
 |0,_=>⟨[],[],rfl,by simp,by simp,by simp⟩
 |n+1,h=>by
  obtain⟨cells,ys,h1,h2,h3,h4⟩:=rows_of n fun i hi=>h i (by omega)
  obtain⟨cs,y,c1,c2,c3⟩:=h n (by omega)
  refine⟨cells++cs,ys++[y],by simp[h1],by rw[List.length_append,h2,c1,Nat.succ_mul],fun j u hj=>?_,?_⟩
  ·by_cases hlt:j<cells.length
   ·rw[List.getElem?_append_left hlt]at hj;exact h3 j u hj
   ·rw[List.getElem?_append_right (by omega)]at hj
    have:=c2 _ u hj
    rwa[h2,show n*t.size+(j-n*t.size)=j by omega]at this
  ·refine rep_append (xs:=ys) (ys:=[y]) (by rw[h2,h1]) h4 fun i y' hi=>?_
   have:i=0:=by have:=(List.getElem?_eq_some_iff.1 hi).1;simp at this;omega
   subst this
   simp at hi;subst hi
   rw[Nat.zero_mul,List.drop_zero,List.take_of_length_le (by omega)];exact c3
theorem ot_slice {t:Ty}(hc:P.cellsOf T=1)(ht:P.underlying T=some (.slice e))(h:OpenT P e t):OpenT P T (.slice t):=⟨hc,fun H enc w base spare held fuel cs x hx=>by
 rcases DataW.trod_slice ht hx with⟨rfl,_⟩|⟨ad,len,cap,elems,rest,n,_,rfl,_,hb,hl,hm,hlen,hel,_,_⟩
 ·exact⟨[],rep_nil _⟩
 ·have each: ∀i,i<len→∃(cs:List Value) (y:t.den),cs.length=t.size∧(∀j u,cs[j]?=some u→w.cell? (ad.add (i*t.size+j))=some u)∧t.rep w (nt []) cs y:=fun i hi=>by
   have h1:=hel i hi
   rw[List.getElem?_eq_getElem (by omega),Option.bind_eq_some_iff]at h1
   obtain⟨cs',h2,h3⟩:=h1
   obtain⟨_,h4,h5⟩:=World.cells?_some h2
   obtain⟨y,hy⟩:=h.2 _ _ _ _ _ _ _ _ _ h3
   rw[h.1]at h4 h5
   refine⟨cs',y,h4,fun j u hj=>?_,hy⟩
   have hlt:=(List.getElem?_eq_some_iff.1 hj).1
   have:=h5 j (by omega)
   rw[add_add]at this
   rw[this,hj]
  obtain⟨cells,ys,h1,h2,h3,h4⟩:=rows_of len each
  by_cases hz:len=0
  ·subst hz
   have:ys=[]:=List.eq_nil_of_length_eq_zero h1
   subst this
   exact⟨[],some ad,cap,[],rfl,by simp,hm,by simp,.inl rfl,by simp⟩
  ·have hp:=pos_size t
   have hlt:0<cells.length:=by rw[h2];exact Nat.mul_pos (by omega) hp
   have h0:=h3 0 _ (List.getElem?_eq_getElem hlt)
   have hspot:=World.cell?_spot h0
   obtain⟨b,off,spot⟩:=ad
   simp only[Addr.add]at hspot
   subst hspot
   refine⟨ys,some ⟨b,off,none⟩,cap,cells,by rw[h1],by omega,hm,by rw[h1];exact h2,.inr ⟨b,off,rfl,by simp[nt],fun j u hj=>?_⟩,h4⟩
   have:=h3 j u hj
   rwa[Addr.add_lit]at this⟩
end
end Go.Z
end
section
namespace Go.Proofs.YtfpemeeadiigcaaDoor.schemaAsWasDone
open Go.ChangeShapes Go.WideShapes Go.ChangeAt Go.RowKit
set_option linter.unusedVariables false
theorem own:ownKnob Tryd.prog.godebug=none:=by kernel_rfl
theorem laidOut:laidOutB Tryd.prog=true:=by kernel_rfl
theorem ot3:Z.OpenT Tryd.prog 3 (Z.Ty.int .i64):=Z.ot_int (by kernel_rfl) Tryd.underlying3
theorem ot22:Z.OpenT Tryd.prog 22 (Z.Ty.slice (Z.Ty.int .i64)):=Z.ot_slice (by kernel_rfl) Tryd.underlying22 ot3
theorem ot2:Z.OpenT Tryd.prog 2 (Z.Ty.int .i64):=Z.ot_int (by kernel_rfl) Tryd.underlying2
theorem ot9:Z.OpenT Tryd.prog 9 Z.Ty.str:=Z.ot_str (by kernel_rfl) Tryd.underlying9
theorem ot24:Z.OpenT Tryd.prog 24 T23:=Z.ot_struct (by kernel_rfl) Tryd.underlying24 ⟨rfl,ot3,rfl,ot2,rfl,ot9⟩
theorem ot26:Z.OpenT Tryd.prog 26 T25:=Z.ot_struct (by kernel_rfl) Tryd.underlying26 ⟨rfl,ot3,rfl,ot3,rfl,ot22,rfl,ot24,rfl,ot9,rfl,ot2,rfl,ot3⟩
theorem ot39:Z.OpenT Tryd.prog 39 T38:=Z.ot_struct (by kernel_rfl) Tryd.underlying39 ⟨rfl,ot3,rfl,ot2,rfl,ot9,rfl,ot2⟩
theorem ot29:Z.OpenT Tryd.prog 29 (Z.Ty.slice T38):=Z.ot_slice (by kernel_rfl) Tryd.underlying29 ot39
theorem ot5:Z.OpenT Tryd.prog 5 Z.Ty.byte:=Z.ot_byte (by kernel_rfl) Tryd.underlying5
set_option maxRecDepth 100000 in
theorem laid_met (os:Os)(args:Array Value):laidMetH Tryd.prog Rows.schemaAsWasRow.laid (({World.holding Tryd.prog os ⟨#[],#[],[]⟩with heap:=((World.holding Tryd.prog os ⟨#[],#[],[]⟩).heap.modify 0 (A.putCells A.tabF)).modify 1 (A.putCells A.tabA)}:World).forCall (fun _ _=>0) ⟨#[],args,[]⟩).memory:=by
 rw[MakeChecks.laidMetH_plain _ _ _ (by kernel_rfl)]
 exact(LaidIn.of_run (l:=Rows.schemaAsWasRow.laid) [1,0] 8 (by kernel_rfl) (by kernel_rfl) (by kernel_rfl) (by kernel_rfl)).met
theorem of_laid {W:World}(h:laidMetH Tryd.prog Rows.schemaAsWasRow.laid W):Lib.Utf8Tabs 0 1 W:=by
 rw[MakeChecks.laidMetH_plain _ _ _ (by kernel_rfl)]at h
 have h1:=Lib.laidMet.reads h (.tail _ (.head _))
 rw[show Rows.laid_unicode_utf8_first=Lib.firstData from Pinned.utf8First_eq]at h1
 have h2:=Lib.laidMet.reads h (.head _)
 rw[show(Rows.laid_unicode_utf8_acceptRanges:DataW Unit)=Lib.acceptData by kernel_rfl]at h2
 exact utf8Tabs_of_readsT (U8Types.of196 Tryd.laysValid) ⟨by kernel_rfl,by kernel_rfl,by kernel_rfl,by kernel_rfl,by kernel_rfl,by kernel_rfl,by kernel_rfl⟩ h1 h2
set_option maxHeartbeats 1000000 in
set_option maxRecDepth 100000 in
theorem lifted (os:Os)(started:os.Started)(H:Type)(enc:TypeId×Value→H):
  ReturnsInHanded {} Tryd.checked os 6 .any (fun w args=>(Rows.schemaAsWasSpec.pre enc Tryd.prog Tryd.f6 [] false w args∧laidMetH Tryd.prog Rows.schemaAsWasRow.laid w)∧sizedMet enc Tryd.prog Tryd.f6 (OpenSpec.ofChange Rows.schemaAsWasSpec) false w args) (Rows.schemaAsWasSpec.post enc Tryd.prog Tryd.f6 false true false false):=by
 refine returnsInHanded_of_change_and (C:=Tryd.checked) (X:=fun w _=>laidMetH Tryd.prog Rows.schemaAsWasRow.laid w) (fun _ _ _ hh h=>h.of_heap hh) own started (by kernel_rfl) Tryd.func6
  (ChangeSpec.witness_shaped (enc:=enc) (C:=Tryd.checked) (os:=os) (X:=fun w _=>laidMetH Tryd.prog Rows.schemaAsWasRow.laid w) false ({World.holding Tryd.prog os ⟨#[],#[],[]⟩with heap:=((World.holding Tryd.prog os ⟨#[],#[],[]⟩).heap.modify 0 (A.putCells A.tabF)).modify 1 (A.putCells A.tabA)}) #[.agg #[.int .i64 0,.int .i64 0,.slice none 0 0,.int .i64 0,.int .i64 0,.string (ByteArray.mk #[]),.string (ByteArray.mk #[]),.int .i64 0,.int .i64 0],.int .i64 0,.slice none 0 0,.int .u8 0] 16 rfl (World.shaped_of_RefB (by kernel_rfl) (by kernel_rfl)) (by kernel_rfl) (by kernel_rfl) (by kernel_rfl) (laid_met os _)) ?_
 intro W base args ds gs before hval0 hW hcnd hsz0 hL _
 have hval: ∀(j:Nat) t v,Tryd.f6.params[j]?=some t→args[j]?=some v→Value.okWide Tryd.prog W .any base t v:=hval0
 have hW':=hW
 obtain⟨p,q,hA0,hV,rfl,hfz,hnd⟩:=hW
 have hA:DataW.TrodAll enc Tryd.prog W 0 (fun _=>true) true Tryd.f6.params.toList args.toList ds p:=hA0
 rw[Tryd.params6]at hA hval
 obtain⟨v0,vs0,d0,ds0,p0,q0,hargs,rfl,rfl,h0,r0⟩:=trodAll_cons hA
 obtain⟨v1,vs1,d1,ds1,p1,q1,rfl,rfl,rfl,h1,r1⟩:=trodAll_cons r0
 obtain⟨v2,vs2,d2,ds2,p2,q2,rfl,rfl,rfl,h2,r2⟩:=trodAll_cons r1
 obtain⟨v3,vs3,d3,ds3,p3,q3,rfl,rfl,rfl,h3,r3⟩:=trodAll_cons r2
 obtain⟨rfl,rfl,rfl⟩:=trodAll_nil r3
 obtain rfl:args=#[v0,v1,v2,v3]:=by cases args;simp_all
 obtain⟨rfl,rfl⟩:=trodVars_none hV
 have k0:=h0
 have lt0: ∀x∈p0,x.block<W.heap.size:=by obtain⟨m,hm⟩:=k0;exact DataW.trod_lt m _ _ _ hm
 obtain⟨fu0,hf0⟩:=h0
 obtain⟨x0,hx0⟩:=ot26.2 _ _ _ _ _ _ _ _ _ hf0
 obtain⟨cs0,rfl,_⟩:=okWide_struct Tryd.underlying26 (hval 0 26 v0 rfl rfl)
 replace hx0:T25.rep W (Z.nt []) cs0.toList x0:=hx0
 have hok0:=Z.rep_ok _ hx0
 obtain⟨ca1,cb2,he3,hr4,hr5⟩:=hx0
 have he6:=hr4.1
 obtain⟨ca7,cb8,he9,hr10,hr11⟩:=hr5
 have he12:=hr10.1
 obtain⟨ca13,cb14,he15,hr16,hr17⟩:=hr11
 obtain⟨A18,c19,he20,hn21,hn22⟩:=Z.rep_slice hr16
 rw[he20]at hr16
 have hle_A18:=Z.rep_le hr16
 obtain⟨ca23,cb24,he25,hr26,hr27⟩:=hr17
 obtain⟨ca28,cb29,he30,hr31,hr32⟩:=hr26
 have he33:=hr31.1
 obtain⟨ca34,cb35,he36,hr37,hr38⟩:=hr32
 have he39:=hr37.1
 have he40:=hr38.1
 obtain⟨ca41,cb42,he43,hr44,hr45⟩:=hr27
 have he46:=hr44.1
 obtain⟨ca47,cb48,he49,hr50,hr51⟩:=hr45
 have he52:=hr50.1
 have he53:=hr51.1
 have he0:cs0.toList=[.int .i64 x0.1,.int .i64 x0.2.1,.slice A18 x0.2.2.1.length c19,.int .i64 x0.2.2.2.1.1,.int .i64 x0.2.2.2.1.2.1,.string x0.2.2.2.1.2.2,.string x0.2.2.2.2.1,.int .i64 x0.2.2.2.2.2.1,.int .i64 x0.2.2.2.2.2.2]:=by simp only[he3,he6,he9,he12,he15,he20,he25,he30,he33,he36,he39,he40,he43,he46,he49,he52,he53,List.cons_append,List.nil_append]
 obtain rfl:cs0=#[.int .i64 x0.1,.int .i64 x0.2.1,.slice A18 x0.2.2.1.length c19,.int .i64 x0.2.2.2.1.1,.int .i64 x0.2.2.2.1.2.1,.string x0.2.2.2.1.2.2,.string x0.2.2.2.2.1,.int .i64 x0.2.2.2.2.2.1,.int .i64 x0.2.2.2.2.2.2]:=by rw[←Array.toArray_toList (xs:=cs0),he0]
 have k1:=h1
 have lt1: ∀x∈p1,x.block<W.heap.size:=by obtain⟨m,hm⟩:=k1;exact DataW.trod_lt m _ _ _ hm
 obtain⟨fu1,hf1⟩:=h1
 obtain⟨x1,hx1⟩:=ot3.2 _ _ _ _ _ _ _ _ _ hf1
 obtain⟨u1,rfl⟩:=okWide_int Tryd.underlying3 (hval 1 3 v1 rfl rfl)
 have he1:=hx1.1
 replace he1:u1=x1:=by simpa[Value.cells] using he1
 subst he1
 have hok1:=hx1.2
 have k2:=h2
 have lt2: ∀x∈p2,x.block<W.heap.size:=by obtain⟨m,hm⟩:=k2;exact DataW.trod_lt m _ _ _ hm
 obtain⟨fu2,hf2⟩:=h2
 obtain⟨x2,hx2⟩:=ot29.2 _ _ _ _ _ _ _ _ _ hf2
 obtain⟨a2,n2,c2,rfl⟩:=okWide_slice Tryd.underlying29 (hval 2 29 v2 rfl rfl)
 replace hx2:(Z.Ty.slice T38).rep W (Z.nt []) [.slice a2 n2 c2] x2:=hx2
 have hn2:=(Z.rep_slice_len hx2).1
 subst hn2
 have k3:=h3
 have lt3: ∀x∈p3,x.block<W.heap.size:=by obtain⟨m,hm⟩:=k3;exact DataW.trod_lt m _ _ _ hm
 obtain⟨fu3,hf3⟩:=h3
 obtain⟨x3,hx3⟩:=ot5.2 _ _ _ _ _ _ _ _ _ hf3
 obtain⟨u3,rfl⟩:=okWide_int Tryd.underlying5 (hval 3 5 v3 rfl rfl)
 have he3:=hx3
 replace he3:u3=(x3.toNat:Int):=by simpa[Value.cells,Z.Ty.rep] using he3
 subst he3
 clear hA0 hval0
 have hsz2:x2.length*40≤140737488351232:=by
  rcases A.trod_len hf2 Tryd.underlying29 with h0|⟨el,sp,h0,h1⟩
  ·omega
  ·have hq:=sized_slice hsz0 (j:=2) (t:=29) (e:=39) (elems:=el) (spare:=sp) rfl (by rw[h0];rfl) Tryd.underlying29
   rw[h1,show Tryd.checked.prog.bytesOf 39=40 by kernel_rfl]at hq
   exact Nat.le_trans (Nat.mul_le_mul_right _ (Nat.le_add_right _ _)) hq
 have htab:=of_laid hL
 have hF:F.L18_SchemaAsWas x0 u1 x2 x3=some true:=schemaAsWas_plain x0 u1 x2 x3 hok0 hok1 (Z.rep_ok _ hx2) trivial hsz2
 have hct:=L18_SchemaAsWas_ok x0 u1 x2 x3 A18 c19 a2 c2 hok0.1 hok0.2.1 hok0.2.2.2.1.1 hok0.2.2.2.1.2.1 hok0.2.2.2.1.2.2 hok0.2.2.2.2.1 hok0.2.2.2.2.2.1 hok0.2.2.2.2.2.2 hok1 true hF
 refine(hct W (fun _=>True) (A.Hp.start ⟨A.Hall.sh hr16,A.Hall.sh hx2,A.Hall.tabs htab⟩)).mono ?_
 rintro e W' ⟨v,H',rfl,⟨rfl,rfl⟩,hh⟩
 have bel:=hh.ch.below
 exact⟨_,rfl,_,_,_,[],_,[],hW',trodAll_mk1 (shut_bool Tryd.underlying4 _),(trodAll_cons_mk (Below.trod laidOut (by kernel_rfl) (of_decide_eq_true (by kernel_rfl)) k0 bel lt0) (trodAll_cons_mk (Below.trod laidOut (by kernel_rfl) (of_decide_eq_true (by kernel_rfl)) k1 bel lt1) (trodAll_cons_mk (Below.trod laidOut (by kernel_rfl) (of_decide_eq_true (by kernel_rfl)) k2 bel lt2) (trodAll_cons_mk (Below.trod laidOut (by kernel_rfl) (of_decide_eq_true (by kernel_rfl)) k3 bel lt3) trodAll_mk0)))),rfl,bel.frame _,fun h=>by cases h⟩
theorem over:Rows.schemaAsWasRow.holds Tryd.pinned (OpenSpec.ofChange Rows.schemaAsWasSpec):=
 OpenClaim.holds_of_wide 6 Tryd.f6 rfl rfl rfl rfl rfl rfl rfl ⟨rfl,rfl,rfl,rfl,rfl⟩ rfl rfl rfl rfl rfl (by kernel_rfl) Tryd.func6 (by kernel_rfl)
  (of_decide_eq_true (by kernel_rfl)) (by unfold Func.isWrapper;first|(rw[if_pos (by decide+kernel)];kernel_rfl)|(rw[if_neg (by decide+kernel)];exact⟨rfl,rfl⟩))
  (fun os started H enc _=>lifted os started H enc)
theorem proved:Rows.SchemaAsWasCardSaid:=
 Claim7.holds_tied_plain_at .later [] [.data,.pinned] true (true,"fa8acff36a242ea293fc14af267c9e684e8a4838917daf524b7bf8516b765854") false
  over (fun _ h=>by cases h) (by kernel_rfl) (fun _ h=>by cases h) schemaAsWas_row_tie rfl ⟨rfl,rfl⟩ (by kernel_rfl) rfl
  (fun f fn hf hfn=>by
   obtain rfl:f=6:=Option.some.inj ((show Tryd.prog.funcNamed Rows.schemaAsWasRow.func=some 6 by kernel_rfl).symm.trans hf) |>.symm
   obtain rfl:fn=Tryd.f6:=(Option.some.inj (Tryd.func6.symm.trans hfn)).symm
   exact⟨by kernel_rfl,fun j t ht=>by
    rw[Tryd.params6]at ht
    have hm:t∈[26,3,29,5]:=by simpa using Array.mem_of_getElem? ht
    have hall:([26,3,29,5].all fun u=> !Tryd.prog.wantsStandIn u)=true:=by kernel_rfl
    exact(show Tryd.prog.wantsStandIn t=false by simpa using List.all_eq_true.1 hall t hm)⟩)
  (by kernel_rfl)
#print axioms proved
end Go.Proofs.YtfpemeeadiigcaaDoor.schemaAsWasDone
end
