/- Plain: a text as runes, each with its bytes. No program in sight. * Plain: a text's runes by the program and by the reference; texts cut. * Plain: texts of records, by the program and by the reference. * Plain: a row turned round; a text in capitals; parts of a text. * Plain: what a function of records makes of one, by the program and by the reference. * Plain: entries in order, by node, key and text; what they add up to. No program in sight. * Plain: records and entries in order, groups by key, what a node that holds makes of them. No program in sight. * Plain: what a node that holds makes of all of a time: by keys, one time behind the other. No program in sight. * Plain: records and entries held against one another; states, by the program and by the reference. * Plain: two times one behind the other are one time that has both bags. No program in sight. * Plain: bags, their keys, numbers in digits, by the program. * Plain: counts, what keys come to, joins, by the program. * Plain: totals, new records, the state behind it; records sorted, each once: by the program. * Plain: what a node that holds makes of all of a time, by the program. * Plain: bags added, small arguments, states behind a time: what the laws of nodes that hold need. * Plain: a text that has a rune; a text in pieces between runes. No program in sight. * Plain: what comes at once of records, by the program. * Plain: what comes at once of records, by the reference; OperBatches, OperEach. * Plain: OperBatches, OperEach, OperStays. * Plain: what comes are records; the state behind is a state. * Plain: the reference's parts of what a node tells. * Plain: the reference's groups by key, and what it makes of a group's records. * Plain: what the reference tells of a group, and of all of a time. * Plain: what the reference tells of all of a time is what the program tells; the law. * A small logic over the model's walk, continued: arguments of a row, opened: what a reader treads reads as a datum. No program in sight. -/
import Derived.Test.YtbljnlkhebiniaaGreatDoorT0
import Derived.Lib.MapLaws
import Derived.Lib.ValidU
import Derived.Laws.Cover4
import Derived.Test.YtbljnlkhebiniaaGreatDoorT4
import Derived.Lib.IndexMore
import Derived.OpenShut
import Derived.ShutString
import Derived.ChangeOld
import Derived.ChangeArms
import Derived.DataReads
section
set_option linter.unusedVariables false
set_option linter.unusedSimpArgs false
namespace Go.Utf
open Go.Lib
abbrev Rn:=List UInt8×Int
theorem enc_eq (r:Int):(Utf8.encode r).data.toList=encodeRune r:=by
 unfold Utf8.encode encodeRune
 by_cases h1:0≤r∧r≤127
 ·rw[encodeRuneZ_one h1.1 h1.2]
  have hv:Utf8.valid r=true:=by simp[Utf8.valid];omega
  rw[if_pos hv]
  have hc:r.toNat<128:=by omega
  simp only[hc,if_true]
  simp
 by_cases h2:128≤r∧r≤2047
 ·rw[encodeRuneZ_two h2.1 h2.2]
  have hv:Utf8.valid r=true:=by simp[Utf8.valid];omega
  rw[if_pos hv]
  obtain⟨n,rfl⟩: ∃n:Nat,r=n:=⟨r.toNat,by omega⟩
  have hc: ¬(n<128):=by omega
  have hc2:n<2048:=by omega
  simp only[Int.toNat_natCast,hc,if_false,hc2,if_true,List.map_cons,List.map_nil]
  have e1:(192+(n:Int) / 64).toNat=192+n / 64:=by omega
  have e2:(128+(n:Int)%64).toNat=128+n%64:=by omega
  rw[e1,e2]
 by_cases h3:(2048≤r∧r<55296)∨(57343<r∧r≤65535)
 ·rw[encodeRuneZ_three h3]
  have hv:Utf8.valid r=true:=by simp[Utf8.valid];omega
  rw[if_pos hv]
  obtain⟨n,rfl⟩: ∃n:Nat,r=n:=⟨r.toNat,by omega⟩
  have hc: ¬(n<128):=by omega
  have hc2: ¬n<2048:=by omega
  have hc3:n<65536:=by omega
  simp only[Int.toNat_natCast,hc,if_false,hc2,hc3,if_true,List.map_cons,List.map_nil]
  have e1:(224+(n:Int) / 4096).toNat=224+n / 4096:=by omega
  have e2:(128+(n:Int) / 64%64).toNat=128+n / 64%64:=by omega
  have e3:(128+(n:Int)%64).toNat=128+n%64:=by omega
  rw[e1,e2,e3]
 by_cases h4:65536≤r∧r≤1114111
 ·rw[encodeRuneZ_four h4.1 h4.2]
  have hv:Utf8.valid r=true:=by simp[Utf8.valid];omega
  rw[if_pos hv]
  obtain⟨n,rfl⟩: ∃n:Nat,r=n:=⟨r.toNat,by omega⟩
  have hc: ¬(n<128):=by omega
  have hc2: ¬n<2048:=by omega
  have hc3: ¬n<65536:=by omega
  simp only[Int.toNat_natCast,hc,if_false,hc2,hc3,List.map_cons,List.map_nil]
  have e0:(240+(n:Int) / 262144).toNat=240+n / 262144:=by omega
  have e1:(128+(n:Int) / 4096%64).toNat=128+n / 4096%64:=by omega
  have e2:(128+(n:Int) / 64%64).toNat=128+n / 64%64:=by omega
  have e3:(128+(n:Int)%64).toNat=128+n%64:=by omega
  rw[e0,e1,e2,e3]
 ·rw[encodeRuneZ_bad (by omega)]
  have hv: ¬Utf8.valid r=true:=by simp[Utf8.valid];omega
  rw[if_neg hv]
  rfl
theorem decN_ext {n n' b0 b1 b2 b3 c1 c2 c3:Nat}{r k:Nat}(h:decodeN n b0 b1 b2 b3=(r,k))(hv: ¬(r=65533∧k=1))(hn:k≤n')(h1:1<k→c1=b1)(h2:2<k→c2=b2)(h3:3<k→c3=b3):decodeN n' b0 c1 c2 c3=(r,k):=by
 rcases decodeN_shape n b0 b1 b2 b3 with⟨q,e⟩|⟨q1,q2,q3,qv,e⟩|⟨q1,q2,q3,q4,qv,qs,e⟩|⟨q1,q2,q3,q4,q5,qv,qw,e⟩|e
 ·rw[e]at h;injection h with e1 e2;subst e1;subst e2
  unfold decodeN;rw[if_pos q]
 ·rw[e]at h;injection h with e1 e2;subst e1;subst e2
  obtain rfl:=h1 (by omega)
  unfold decodeN
  rw[if_neg (by omega),if_pos ⟨q1,by omega,q3⟩,if_pos qv]
 ·rw[e]at h;injection h with e1 e2;subst e1;subst e2
  obtain rfl:=h1 (by omega)
  obtain rfl:=h2 (by omega)
  unfold decodeN
  rw[if_neg (by omega),if_neg (by omega),if_pos ⟨q1,⟨by omega,q3⟩,by omega,q4⟩,if_pos ⟨qv,by omega⟩]
 ·rw[e]at h;injection h with e1 e2;subst e1;subst e2
  obtain rfl:=h1 (by omega)
  obtain rfl:=h2 (by omega)
  obtain rfl:=h3 (by omega)
  unfold decodeN
  rw[if_neg (by omega),if_neg (by omega),if_neg (by omega),if_pos ⟨q1,⟨by omega,q3⟩,⟨by omega,q4⟩,by omega,q5⟩,if_pos ⟨qv,.inr ⟨by omega,qw⟩⟩]
 ·rw[e]at h;injection h with e1 e2;subst e1;subst e2
  exact absurd ⟨rfl,rfl⟩ hv
structure Ck (c:Rn):Prop where
 ne:c.1≠[]
 four:c.1.length≤4
 enc:(Utf8.encode c.2).data.toList=c.1
 dec: ∀rest,decodeL (c.1++rest)=(c.2.toNat,c.1.length)
 nn:0≤c.2
 top:c.2≤1114111
 ok: ¬(c.2.toNat=65533∧c.1.length=1)
theorem decodeL_four (l:List UInt8):(decodeL l).2≤4:=by
 rw[decodeL_N]
 rcases decodeN_shape l.length (l.getD 0 0).toNat (l.getD 1 0).toNat (l.getD 2 0).toNat (l.getD 3 0).toNat with⟨c,e⟩|⟨c1,c2,c3,cv,e⟩|⟨c1,c2,c3,c4,cv,cs,e⟩|⟨c1,c2,c3,c4,c5,cv,cw,e⟩|e
 all_goals (rw[e];simp)
theorem Ck.of {l:List UInt8}(hne:l≠[])(hv: ¬((decodeL l).1=65533∧(decodeL l).2=1)):Ck (l.take (decodeL l).2,((decodeL l).1:Int)):=by
 have hw:=decodeL_width l
 have hle:=decodeL_le l hne
 have hlen:(l.take (decodeL l).2).length=(decodeL l).2:=by rw[List.length_take];omega
 refine⟨fun h=>?_,by show(l.take _).length≤4;rw[hlen];exact decodeL_four l,?_,fun rest=>?_,by simp,?_,?_⟩
 ·have:=congrArg List.length h
  simp only[List.length_nil]at this
  rw[hlen]at this;omega
 ·exact(enc_eq _).trans (encode_decode l hne hv)
 ·show decodeL (l.take (decodeL l).2++rest)=((((decodeL l).1:Nat):Int).toNat,(l.take (decodeL l).2).length)
  rw[hlen,Int.toNat_natCast]
  have e:decodeL l=decodeN l.length (l.getD 0 0).toNat (l.getD 1 0).toNat (l.getD 2 0).toNat (l.getD 3 0).toNat:=decodeL_N l
  obtain⟨r,k,hrk⟩: ∃r k,decodeL l=(r,k):=⟨_,_,rfl⟩
  rw[hrk]at hv hw hle hlen ⊢
  rw[hrk]at e
  simp only at hv hw hle hlen ⊢
  have hg: ∀i,i<k→(l.take k++rest).getD i 0=l.getD i 0:=fun i hi=>by
   simp only[List.getD]
   rw[List.getElem?_append_left (by rw[hlen];exact hi),List.getElem?_take_of_lt hi]
  rw[decodeL_N,hg 0 (by omega)]
  refine decN_ext e.symm hv (by rw[List.length_append,hlen];omega) (fun h=>by rw[hg 1 h]) (fun h=>by rw[hg 2 h]) (fun h=>by rw[hg 3 h])
 ·have:=decodeL_rune l
  show((decodeL l).1:Int)≤1114111
  omega
 ·show ¬((((decodeL l).1:Nat):Int).toNat=65533∧(l.take (decodeL l).2).length=1)
  rw[hlen,Int.toNat_natCast];exact hv
theorem Ck.len {c:Rn}(h:Ck c):1≤c.1.length:=by
 cases hc:c.1 with
 |nil=>exact absurd hc h.ne
 |cons a b=>simp
def ckF:Nat→List UInt8→List Rn
 |0,_=>[]
 |n+1,l=>if l=[]then []else(l.take (decodeL l).2,((decodeL l).1:Int))::ckF n (l.drop (decodeL l).2)
def cks (l:List UInt8):List Rn:=ckF l.length l
abbrev flat (cs:List Rn):List UInt8:=cs.flatMap (·.1)
theorem flat_cons (c:Rn)(cs:List Rn):flat (c::cs)=c.1++flat cs:=rfl
theorem flat_ckF: ∀(n:Nat) (l:List UInt8),l.length≤n→flat (ckF n l)=l
 |0,l,h=>by rw[List.eq_nil_of_length_eq_zero (Nat.le_zero.1 h)];rfl
 |n+1,l,h=>by
  unfold ckF
  by_cases hl:l=[]
  ·rw[if_pos hl,hl];rfl
  ·rw[if_neg hl,flat_cons,flat_ckF n _ (by have:=decodeL_width l;rw[List.length_drop];have:=List.length_pos_iff.2 hl;omega)]
   exact List.take_append_drop _ _
theorem valid_ckF: ∀(n:Nat) (l:List UInt8),l.length≤n→validGoD n l=true→∀c,c∈ckF n l→Ck c
 |0,l,h,_,c,hc=>by cases hc
 |n+1,l,h,hv,c,hc=>by
  unfold ckF at hc
  unfold validGoD at hv
  by_cases hl:l=[]
  ·rw[if_pos hl]at hc;cases hc
  ·rw[if_neg hl]at hc hv
   split at hv
   ·cases hv
   ·rename_i hb
    rcases List.mem_cons.1 hc with rfl|hc
    ·exact Ck.of hl hb
    ·exact valid_ckF n _ (by have:=decodeL_width l;rw[List.length_drop];have:=List.length_pos_iff.2 hl;omega) hv c hc
theorem ckF_flat: ∀(cs:List Rn) (n:Nat),(∀c,c∈cs→Ck c)→(flat cs).length≤n→ckF n (flat cs)=cs∧validGoD n (flat cs)=true
 | [],n,_,_=>by cases n with
  |zero=>exact⟨rfl,rfl⟩
  |succ n=>exact⟨by unfold ckF;rw[if_pos (show flat ([]:List Rn)=[]from rfl)],by unfold validGoD;rw[if_pos (show flat ([]:List Rn)=[]from rfl)]⟩
 |c::cs,n,h,hn=>by
  have hc:=h c (List.mem_cons_self ..)
  have h1:=hc.len
  rw[flat_cons]at hn ⊢
  rw[List.length_append]at hn
  obtain⟨n,rfl⟩: ∃m,n=m+1:=⟨n-1,by omega⟩
  have hne:c.1++flat cs≠[]:=fun e=>hc.ne (List.append_eq_nil_iff.1 e).1
  obtain⟨i1,i2⟩:=ckF_flat cs n (fun x hx=>h x (List.mem_cons_of_mem _ hx)) (by omega)
  unfold ckF validGoD
  rw[if_neg hne,if_neg hne,hc.dec]
  simp only[List.take_left,List.drop_left]
  rw[if_neg hc.ok,i1,Int.toNat_of_nonneg hc.nn]
  exact⟨rfl,i2⟩
theorem cks_flat {cs:List Rn}(h: ∀c,c∈cs→Ck c):cks (flat cs)=cs:=(ckF_flat cs _ h (Nat.le_refl _)).1
theorem valid_flat {cs:List Rn}(h: ∀c,c∈cs→Ck c):validD (flat cs)=true:=(ckF_flat cs _ h (Nat.le_refl _)).2
theorem valid_cks {l:List UInt8}(h:validD l=true):flat (cks l)=l∧∀c,c∈cks l→Ck c:=⟨flat_ckF _ _ (Nat.le_refl _),valid_ckF _ _ (Nat.le_refl _) h⟩
theorem ba_eq {s t:ByteArray}(h:s.data.toList=t.data.toList):s=t:=by
 cases s;cases t;congr;exact Array.toList_inj.1 h
def ats:Int→List Rn→List (Int×Int)
 |_,[]=>[]
 |p,c::cs=>(p,c.2)::ats (p+c.1.length) cs
theorem ats_len: ∀(p:Int) (cs:List Rn),(ats p cs).length=cs.length
 |_,[]=>rfl
 |p,c::cs=>by rw[ats,List.length_cons,ats_len _ cs,List.length_cons]
theorem ats_get: ∀(cs:List Rn) (p:Int) (k:Nat),(ats p cs)[k]?=(cs[k]?).map fun c=>(p+((flat (cs.take k)).length:Int),c.2)
 | [],p,k=>by simp[ats]
 |c::cs,p,0=>by simp[ats]
 |c::cs,p,k+1=>by
  rw[ats,List.getElem?_cons_succ,ats_get cs _ k,List.getElem?_cons_succ,List.take_succ_cons,flat_cons,List.length_append]
  congr;funext c';congr 1;omega
def bd (n:Nat):Nat→List Rn→Nat
 |p,[]=>p
 |p,c::cs=>if p+c.1.length≤n then bd n (p+c.1.length) cs else p
theorem flat_take (cs:List Rn)(k:Nat):(flat cs).take (flat (cs.take k)).length=flat (cs.take k):=by
 have:flat cs=flat (cs.take k)++flat (cs.drop k):=by rw[←List.flatMap_append,List.take_append_drop]
 rw[this,List.take_left]
end Go.Utf
end
section
set_option maxRecDepth 20000
set_option linter.unusedVariables false
set_option linter.unusedSimpArgs false
namespace Go.Proofs.YtbljnlkhebiniaaGreatDoor
open Go.RowKit Go.Graph Go.Utf
theorem drop_ne {s:ByteArray}{p:Nat}(h:p<s.size):s.data.toList.drop p≠[]:=fun e=>by
 have:=congrArg List.length e
 rw[List.length_drop,size_list]at this
 simp only[List.length_nil]at this;omega
theorem drop_nil {s:ByteArray}{p:Nat}(h: ¬p<s.size):s.data.toList.drop p=[]:=List.drop_eq_nil_of_le (by rw[size_list];omega)
theorem ck_step {s:ByteArray}{n p:Nat}(h:p<s.size):ckF (n+1) (s.data.toList.drop p)=((s.data.toList.drop p).take (Utf8.decode s p).2,((Utf8.decode s p).1:Int))::ckF n (s.data.toList.drop (p+(Utf8.decode s p).2)):=by
 rw[ckF,if_neg (drop_ne h),Lib.decodeL_drop,List.drop_drop]
theorem ck_end {s:ByteArray}{n p:Nat}(h: ¬p<s.size):ckF n (s.data.toList.drop p)=[]:=by
 rw[drop_nil h]
 cases n with
 |zero=>rfl
 |succ n=>rw[ckF,if_pos rfl]
theorem cks_0 (s:ByteArray):cks s.data.toList=ckF s.size (s.data.toList.drop 0):=rfl
theorem dec_fits {s:ByteArray}{p:Nat}(h:p<s.size):1≤(Utf8.decode s p).2∧p+(Utf8.decode s p).2≤s.size:=by
 rw[←Lib.decodeL_drop]
 have h1:=Lib.decodeL_width (s.data.toList.drop p)
 have h2:=Lib.decodeL_le _ (drop_ne h)
 rw[List.length_drop,size_list]at h2
 omega
theorem runes_F (s:ByteArray)(hs:s.size≤1099511627776):F.fn_runes s=some ((cks s.data.toList).map (·.2)):=by
 have loop: ∀(n p f:Nat) (xs:List Int),s.size-p≤n→n<f→xs.length≤p→F.fn_runes_l1 s f p xs=some (xs++(ckF n (s.data.toList.drop p)).map (·.2)):=by
  intro n
  induction n with
  |zero=>
   intro p f xs hp hf _
   obtain⟨f,rfl⟩: ∃f',f=f'+1:=⟨f-1,by omega⟩
   rw[F.fn_runes_l1,if_neg (by omega),ck_end (by omega)];simp
  |succ n ih=>
   intro p f xs hp hf hx
   obtain⟨f,rfl⟩: ∃f',f=f'+1:=⟨f-1,by omega⟩
   by_cases h:p<s.size
   ·have hd:=dec_fits h
    rw[F.fn_runes_l1,if_pos h,A.gd1 (by simp only[List.length_cons,List.length_nil];omega),ih _ _ _ (by omega) (by omega) (by simp only[List.length_append,List.length_cons,List.length_nil];omega),ck_step h]
    simp
   ·rw[F.fn_runes_l1,if_neg h,ck_end h];simp
 have:=loop s.size 0 A.FU [] (by omega) (by have:=FU_big;omega) (by simp)
 rw[F.fn_runes,this,cks_0];simp
theorem flat_append (a b:List Rn):flat (a++b)=flat a++flat b:=List.flatMap_append
theorem i32_small {x:Int}(h0:0≤x)(h1:x<2147483648):IntKind.i32.wrap x=x:=by
 simp[IntKind.wrap,IntKind.bits,IntKind.signed]
 omega
theorem dec_shape {s:ByteArray}{p:Nat}(hw:wid s p≠0):
  (wid s p=1∧(Utf8.decode s p).1=(Z.bat s p).toNat)∨
  (wid s p=2∧(Utf8.decode s p).1=(Z.bat s p).toNat%32*64+(Z.bat s (p+1)).toNat%64)∨
  (wid s p=3∧(Utf8.decode s p).1=(Z.bat s p).toNat%16*4096+(Z.bat s (p+1)).toNat%64*64+(Z.bat s (p+2)).toNat%64)∨
  (wid s p=4∧(Utf8.decode s p).1=(Z.bat s p).toNat%8*262144+(Z.bat s (p+1)).toNat%64*4096+(Z.bat s (p+2)).toNat%64*64+(Z.bat s (p+3)).toNat%64):=by
 have h2:=wid_dec hw
 have h3:Utf8.decode s p≠(65533,1):=fun e=>hw (by unfold wid;rw[if_pos e])
 rw[←h2]
 rw[dec_at]at h3 ⊢
 rcases Lib.decodeN_shape (s.size-p) (Z.bat s p).toNat (Z.bat s (p+1)).toNat (Z.bat s (p+2)).toNat (Z.bat s (p+3)).toNat with⟨c,e⟩|⟨c1,c2,c3,cv,e⟩|⟨c1,c2,c3,c4,cv,cs,e⟩|⟨c1,c2,c3,c4,c5,cv,cw,e⟩|e
 ·rw[e];exact .inl ⟨rfl,rfl⟩
 ·rw[e];exact .inr (.inl ⟨rfl,rfl⟩)
 ·rw[e];exact .inr (.inr (.inl ⟨rfl,rfl⟩))
 ·rw[e];exact .inr (.inr (.inr ⟨rfl,rfl⟩))
 ·exact absurd e h3
theorem Runes_ats (s:ByteArray)(hs:s.size≤5000)(hv:vld s s.size 0=true):F.R05_Runes s=some (ats 0 (cks s.data.toList)):=by
 have loop: ∀(n p f:Nat) (xs:List (Int×Int)),s.size-p≤n→n<f→xs.length≤p→p≤5010→vld s n p=true→F.R05_Runes_l2 s f xs (p:Int)=some (xs++ats p (ckF n (s.data.toList.drop p))):=by
  intro n
  induction n with
  |zero=>
   intro p f xs hp hf _ _ _
   obtain⟨f,rfl⟩: ∃f',f=f'+1:=⟨f-1,by omega⟩
   rw[F.R05_Runes_l2,if_neg (by omega),ck_end (by omega)];simp[ats]
  |succ n ih=>
   intro p f xs hp hf hxs hp5 hv
   obtain⟨f,rfl⟩: ∃f',f=f'+1:=⟨f-1,by omega⟩
   rw[F.R05_Runes_l2]
   rw[vld]at hv
   by_cases h:p<s.size
   ·rw[if_pos h]at hv
    have hl:=wid_le h
    have h4:=wid_4 s p
    by_cases hw:wid s p=0
    ·rw[if_pos hw]at hv;cases hv
    rw[if_neg hw]at hv
    have hd:=dec_fits h
    have hj: ∀(w c:Int),w=(wid s p:Int)→c=((Utf8.decode s p).1:Int)→F.R05_Runes_j1 (F.R05_Runes_l2 s f) xs (p:Int) w c=some (xs++ats p (ckF (n+1) (s.data.toList.drop p))):=fun w c hwc hc=>by
     subst hwc;subst hc
     rw[F.R05_Runes_j1,A.gd1 (by simp only[List.length_cons,List.length_nil];omega),A.gd1 ⟨by omega,by omega⟩]
     have e:(p:Int)+(wid s p:Int)=((p+wid s p:Nat):Int):=by omega
     have e2:((s.data.toList.drop p).take (Utf8.decode s p).2).length=wid s p:=by
      rw[List.length_take,List.length_drop,size_list,←wid_dec hw];omega
     rw[e,ih (p+wid s p) f (xs++[((p:Int),((Utf8.decode s p).1:Int))]) (by omega) (by omega) (by simp only[List.length_append,List.length_cons,List.length_nil];omega) (by omega) hv,ck_step h,ats,e2,wid_dec hw,←e]
     simp
    have i0:=ixb (s:=s) h
    have i1:A.ix s.data.toList ((p:Int)+1)=if p+1<s.size then some (Z.bat s (p+1))else none:=ixk s p 1
    have i2:A.ix s.data.toList ((p:Int)+2)=if p+2<s.size then some (Z.bat s (p+2))else none:=ixk s p 2
    have i3:A.ix s.data.toList ((p:Int)+3)=if p+3<s.size then some (Z.bat s (p+3))else none:=ixk s p 3
    have r1:Z.R64 ((p:Int)+1):=⟨by omega,by omega⟩
    have r2:Z.R64 ((p:Int)+2):=⟨by omega,by omega⟩
    have r3:Z.R64 ((p:Int)+3):=⟨by omega,by omega⟩
    have k0:=(Z.bat s p).toNat_lt
    have k1:=(Z.bat s (p+1)).toNat_lt
    have k2:=(Z.bat s (p+2)).toNat_lt
    have k3:=(Z.bat s (p+3)).toNat_lt
    rw[if_pos (by omega),width_eq s p h hs,Option.bind_some]
    have tm: ∀(b m:Nat),Int.tmod (b:Int) (m:Int)=((b%m:Nat):Int):=fun b m=>by
     rw[Int.tmod_eq_emod_of_nonneg (by omega)];rfl
    rcases dec_shape hw with⟨w1,e⟩|⟨w2,e⟩|⟨w3,e⟩|⟨w4,e⟩
    ·rw[if_pos (by omega),i0,Option.bind_some]
     exact hj _ _ rfl (by rw[e,i32_small (by omega) (by omega)])
    ·rw[if_neg (by omega),if_pos (by omega),A.gd1 r1,i0,Option.bind_some,A.gd1 (by decide),i1,if_pos (by omega),Option.bind_some,A.gd1 (by decide)]
     refine hj _ _ rfl ?_
     have t1:Int.tmod ((Z.bat s p).toNat:Int) 32=(((Z.bat s p).toNat%32:Nat):Int):=tm _ 32
     have t2:Int.tmod ((Z.bat s (p+1)).toNat:Int) 64=(((Z.bat s (p+1)).toNat%64:Nat):Int):=tm _ 64
     rw[e,t1,t2]
     rw[i32_small (x:=(((Z.bat s p).toNat%32:Nat):Int)) (by omega) (by omega),i32_small (x:=(((Z.bat s p).toNat%32:Nat):Int)*64) (by omega) (by omega),i32_small (x:=(((Z.bat s (p+1)).toNat%64:Nat):Int)) (by omega) (by omega),i32_small (by omega) (by omega)]
     omega
    ·rw[if_neg (by omega),if_neg (by omega),if_pos (by omega),A.gd1 ⟨r1,r2⟩,i0,Option.bind_some,A.gd1 (by decide),i1,if_pos (by omega),Option.bind_some,A.gd1 (by decide),i2,if_pos (by omega),Option.bind_some,A.gd1 (by decide)]
     refine hj _ _ rfl ?_
     have t1:Int.tmod ((Z.bat s p).toNat:Int) 16=(((Z.bat s p).toNat%16:Nat):Int):=tm _ 16
     have t2:Int.tmod ((Z.bat s (p+1)).toNat:Int) 64=(((Z.bat s (p+1)).toNat%64:Nat):Int):=tm _ 64
     have t3:Int.tmod ((Z.bat s (p+2)).toNat:Int) 64=(((Z.bat s (p+2)).toNat%64:Nat):Int):=tm _ 64
     rw[e,t1,t2,t3]
     generalize hu:(Z.bat s p).toNat%16=u
     generalize hx:(Z.bat s (p+1)).toNat%64=x
     generalize hy:(Z.bat s (p+2)).toNat%64=y
     have hu':u<16:=by omega
     have hx':x<64:=by omega
     have hy':y<64:=by omega
     rw[i32_small (x:=(u:Int)) (by omega) (by omega),i32_small (x:=(u:Int)*64) (by omega) (by omega),i32_small (x:=(x:Int)) (by omega) (by omega),i32_small (x:=(u:Int)*64+(x:Int)) (by omega) (by omega),i32_small (x:=((u:Int)*64+(x:Int))*64) (by omega) (by omega),i32_small (x:=(y:Int)) (by omega) (by omega),i32_small (by omega) (by omega)]
     omega
    ·rw[if_neg (by omega),if_neg (by omega),if_neg (by omega),if_pos (by omega),A.gd1 ⟨r1,r2,r3⟩,i0,Option.bind_some,A.gd1 (by decide),i1,if_pos (by omega),Option.bind_some,A.gd1 (by decide),i2,if_pos (by omega),Option.bind_some,A.gd1 (by decide),i3,if_pos (by omega),Option.bind_some,A.gd1 (by decide)]
     refine hj _ _ rfl ?_
     have t1:Int.tmod ((Z.bat s p).toNat:Int) 8=(((Z.bat s p).toNat%8:Nat):Int):=tm _ 8
     have t2:Int.tmod ((Z.bat s (p+1)).toNat:Int) 64=(((Z.bat s (p+1)).toNat%64:Nat):Int):=tm _ 64
     have t3:Int.tmod ((Z.bat s (p+2)).toNat:Int) 64=(((Z.bat s (p+2)).toNat%64:Nat):Int):=tm _ 64
     have t4:Int.tmod ((Z.bat s (p+3)).toNat:Int) 64=(((Z.bat s (p+3)).toNat%64:Nat):Int):=tm _ 64
     rw[e,t1,t2,t3,t4]
     generalize hu:(Z.bat s p).toNat%8=u
     generalize hx:(Z.bat s (p+1)).toNat%64=x
     generalize hy:(Z.bat s (p+2)).toNat%64=y
     generalize hz:(Z.bat s (p+3)).toNat%64=z
     have hu':u<8:=by omega
     have hx':x<64:=by omega
     have hy':y<64:=by omega
     have hz':z<64:=by omega
     rw[i32_small (x:=(u:Int)) (by omega) (by omega),i32_small (x:=(u:Int)*64) (by omega) (by omega),i32_small (x:=(x:Int)) (by omega) (by omega),i32_small (x:=(u:Int)*64+(x:Int)) (by omega) (by omega),i32_small (x:=((u:Int)*64+(x:Int))*64) (by omega) (by omega),i32_small (x:=(y:Int)) (by omega) (by omega),
      i32_small (x:=((u:Int)*64+(x:Int))*64+(y:Int)) (by omega) (by omega),i32_small (x:=(((u:Int)*64+(x:Int))*64+(y:Int))*64) (by omega) (by omega),i32_small (x:=(z:Int)) (by omega) (by omega),i32_small (by omega) (by omega)]
     omega
   ·rw[if_neg (by omega),ck_end h];simp[ats]
 have:=loop s.size 0 A.FU [] (by omega) (by have:=FU_big;omega) (by simp) (by omega) hv
 rw[F.R05_Runes]
 exact this
theorem iter_F (s:ByteArray):F.rec_Runes_1_it s=some (ats 0 (cks s.data.toList))∨9223372036854775807<s.size:=by
 by_cases hs:s.size≤9223372036854775807
 ·left
  have loop: ∀(n p f:Nat),s.size-p≤n→n<f→F.rec_Runes_1_it_l1 s f p=some (ats p (ckF n (s.data.toList.drop p))):=by
   intro n
   induction n with
   |zero=>
    intro p f hp hf
    obtain⟨f,rfl⟩: ∃f',f=f'+1:=⟨f-1,by omega⟩
    rw[F.rec_Runes_1_it_l1,if_neg (by omega),ck_end (by omega)];rfl
   |succ n ih=>
    intro p f hp hf
    obtain⟨f,rfl⟩: ∃f',f=f'+1:=⟨f-1,by omega⟩
    by_cases h:p<s.size
    ·have hd:=dec_fits h
     rw[F.rec_Runes_1_it_l1,if_pos h,ih _ _ (by omega) (by omega),ck_step h,ats]
     have e2:((s.data.toList.drop p).take (Utf8.decode s p).2).length=(Utf8.decode s p).2:=by
      rw[List.length_take,List.length_drop,size_list];omega
     rw[e2]
     simp[A.cns]
    ·rw[F.rec_Runes_1_it_l1,if_neg h,ck_end h];rfl
  exact loop s.size 0 A.FU (by omega) (by have:=FU_big;omega)
 ·right;omega
theorem ext_all (s:ByteArray):s.extract 0 s.size=s:=by
 refine ba_eq ?_
 rw[ByteArray.data_extract,Array.toList_extract]
 simp[List.extract_eq_take_drop]
 exact List.take_of_length_le (Nat.le_of_eq (size_list s))
theorem rcut_l (s:ByteArray)(n:Nat): ∀(cs:List Rn) (p e:Nat),p+(flat cs).length=s.size→e≤s.size→F.rec_Cut_l1 s n (ats p cs) e=some (s.extract 0 (if p≤n then bd n p cs else e))
 | [],p,e,hp,he=>by
  simp only[List.flatMap_nil,List.length_nil,Nat.add_zero]at hp
  subst hp
  rw[ats,F.rec_Cut_l1,bd]
  by_cases h:s.size≤n
  ·rw[if_pos (by omega),if_pos h,ext_all]
  ·rw[if_neg (by omega),if_neg h,A.gd1 ⟨by omega,by omega⟩,Int.toNat_natCast]
 |c::cs,p,e,hp,he=>by
  rw[flat_cons,List.length_append]at hp
  rw[ats,F.rec_Cut_l1,bd]
  by_cases h:p≤n
  ·rw[if_neg (by simp;omega),if_pos h]
   have e1:(p:Int)+(c.1.length:Int)=((p+c.1.length:Nat):Int):=by omega
   show F.rec_Cut_l1 s n (ats ((p:Int)+(c.1.length:Int)) cs) (p:Int)=_
   rw[e1]
   exact rcut_l s n cs (p+c.1.length) p (by omega) (by omega)
  ·rw[if_pos (by simp;omega),if_neg h,A.gd1 ⟨by omega,by omega⟩,Int.toNat_natCast]
theorem rec_Cut_eq (s:ByteArray)(n:Nat)(hs:s.size≤9223372036854775807):F.rec_Cut s n=some (s.extract 0 (bd n 0 (cks s.data.toList))):=by
 rw[F.rec_Cut,F.rec_Runes,Option.bind_some]
 rcases iter_F s with h|h
 ·rw[h,Option.bind_some]
  have hf:(flat (cks s.data.toList)).length=s.size:=by
   have:flat (cks s.data.toList)=s.data.toList:=flat_ckF _ _ (Nat.le_refl _)
   rw[this,size_list]
  have:=rcut_l s n (cks s.data.toList) 0 0 (by omega) (by omega)
  rw[if_pos (Nat.zero_le _)]at this
  exact this
 ·omega
theorem R05_Cut_eq (s:ByteArray)(n:Nat)(hs:s.size≤5000)(hv:vld s s.size 0=true):F.R05_Cut s n=some (s.extract 0 (bd n 0 (cks s.data.toList))):=by
 rw[F.R05_Cut,Runes_ats s hs hv,Option.bind_some]
 obtain⟨cs,hcs⟩: ∃cs,cs=cks s.data.toList:=⟨_,rfl⟩
 have hf:flat cs=s.data.toList:=by rw[hcs];exact flat_ckF _ _ (Nat.le_refl _)
 have hfl:(flat cs).length=s.size:=by rw[hf,size_list]
 have hcl:cs.length≤s.size:=by
  rw[hcs]
  have: ∀(n:Nat) (l:List UInt8),(ckF n l).length≤n:=by
   intro n
   induction n with
   |zero=>intro l;simp[ckF]
   |succ n ih=>intro l;unfold ckF;split<;>simp;exact ih _
  exact this _ _
 rw[←hcs]
 have loop: ∀(m k f e:Nat),k+m=cs.length→m<f→e≤s.size→((flat (cs.take k)).length≤n→e=(flat (cs.take k)).length)→F.R05_Cut_l3 s n (ats 0 cs) f e k=some (s.extract 0 (if(flat (cs.take k)).length≤n then bd n (flat (cs.take k)).length (cs.drop k)else e)):=by
  intro m
  induction m with
  |zero=>
   intro k f e hk hf he hp
   obtain⟨f,rfl⟩: ∃f',f=f'+1:=⟨f-1,by omega⟩
   rw[F.R05_Cut_l3,if_neg (by rw[ats_len];omega),List.drop_eq_nil_of_le (by omega),bd,A.gd1 ⟨by omega,by omega⟩,Int.toNat_natCast]
   split
   ·rename_i h;rw[hp h]
   ·rfl
  |succ m ih=>
   intro k f e hk hf he hp
   obtain⟨f,rfl⟩: ∃f',f=f'+1:=⟨f-1,by omega⟩
   have hck:cs[k]?=some cs[k]:=List.getElem?_eq_getElem (by omega)
   have htk:cs.take (k+1)=cs.take k++[cs[k]]:=by rw[List.take_add_one,hck];rfl
   have hq:(flat (cs.take (k+1))).length=(flat (cs.take k)).length+cs[k].1.length:=by rw[htk,flat_append,List.length_append];simp
   have hqs:(flat (cs.take (k+1))).length≤s.size:=by
    have h1:=congrArg List.length (flat_take cs (k+1))
    rw[List.length_take]at h1;omega
   have next: ∀q:Nat,q=(flat (cs.take (k+1))).length→F.R05_Cut_j2 (F.R05_Cut_l3 s n (ats 0 cs) f) n e k q=some (s.extract 0 (if(flat (cs.take k)).length≤n then bd n (flat (cs.take k)).length (cs.drop k)else e)):=fun q hqq=>by
    have ek:(k:Int)+1=((k+1:Nat):Int):=by omega
    rw[F.R05_Cut_j2,A.dropx hck,bd,←hq,←hqq]
    by_cases h:q≤n
    ·rw[if_pos (by omega),F.R05_Cut_j1,A.gd1 ⟨by omega,by omega⟩,ek,ih (k+1) f q (by omega) (by omega) (by omega) (fun _=>hqq),←hqq,if_pos h,if_pos h,if_pos (by omega)]
    ·rw[if_neg (by omega),F.R05_Cut_j1,A.gd1 ⟨by omega,by omega⟩,ek,ih (k+1) f e (by omega) (by omega) he (fun h2=>by omega),←hqq,if_neg h,if_neg h]
     split
     ·rename_i h3;rw[hp h3]
     ·rfl
   rw[F.R05_Cut_l3,if_pos (by rw[ats_len];omega),A.gd1 ⟨by omega,by omega⟩]
   by_cases hl:k+1<cs.length
   ·have hx:(ats 0 cs)[k+1]?=some ((0:Int)+((flat (cs.take (k+1))).length:Int),cs[k+1].2):=by
     rw[ats_get,List.getElem?_eq_getElem hl];rfl
    rw[if_pos (by rw[ats_len];omega),A.gd1 ⟨by omega,by omega⟩,show(k:Int)+1=((k+1:Nat):Int) by omega,A.ixn hx,Option.bind_some]
    show F.R05_Cut_j2 _ _ _ _ ((0:Int)+((flat (cs.take (k+1))).length:Int))=_
    rw[Int.zero_add]
    exact next _ rfl
   ·rw[if_neg (by rw[ats_len];omega)]
    exact next _ (by rw[List.take_of_length_le (by omega),hfl])
 have:=loop cs.length 0 A.FU 0 (by omega) (by have:=FU_big;omega) (by omega) (by simp)
 simpa using this
end Go.Proofs.YtbljnlkhebiniaaGreatDoor
end
section
set_option maxRecDepth 20000
set_option linter.unusedVariables false
set_option linter.unusedSimpArgs false
namespace Go.Proofs.YtbljnlkhebiniaaGreatDoor
open Go.RowKit Go.Graph Go.Utf
abbrev Rec:=Int×ByteArray
def okT (s:ByteArray):Bool:=decide (s.size≤64)&&vld s s.size 0
theorem rec_Check_eq (r:Rec):F.rec_Check r=some (if okT r.2=true then 0 else 50):=by
 rw[F.rec_Check]
 unfold okT
 by_cases h:r.2.size≤64
 ·rw[if_neg (by omega),F.utf8_ValidString,validD_eq,Option.bind_some,F.rec_Check_j1,decide_eq_true h,Bool.true_and]
  cases vld r.2 r.2.size 0<;>rfl
 ·rw[if_pos (by omega),F.rec_Check_j1,if_pos rfl,decide_eq_false h];rfl
theorem R05_Check_eq (r:Rec):F.R05_Check r=some (if okT r.2=true then 0 else 50):=by
 rw[F.R05_Check]
 unfold okT
 by_cases h:r.2.size≤64
 ·rw[if_neg (by omega),Valid_eq _ (by omega),Option.bind_some,F.R05_Check_j1,decide_eq_true h,Bool.true_and]
  cases vld r.2 r.2.size 0<;>rfl
 ·rw[if_pos (by omega),F.R05_Check_j1,if_pos rfl,decide_eq_false h];rfl
theorem okT_iff {s:ByteArray}:okT s=true↔s.size≤64∧vld s s.size 0=true:=by unfold okT;simp
theorem vld_cks {s:ByteArray}(h:vld s s.size 0=true):flat (cks s.data.toList)=s.data.toList∧∀c,c∈cks s.data.toList→Ck c:=valid_cks (by rw[validD_eq];exact h)
theorem vld_of {s:ByteArray}{cs:List Rn}(h:s.data.toList=flat cs)(hc: ∀c,c∈cs→Ck c):vld s s.size 0=true:=by
 rw[←validD_eq,h];exact valid_flat hc
theorem cks_of {s:ByteArray}{cs:List Rn}(h:s.data.toList=flat cs)(hc: ∀c,c∈cs→Ck c):cks s.data.toList=cs:=by rw[h];exact cks_flat hc
theorem app_list (s t:ByteArray):(s++t).data.toList=s.data.toList++t.data.toList:=by rw[ByteArray.data_append,Array.toList_append]
theorem vld_app {s t:ByteArray}(hs:vld s s.size 0=true)(ht:vld t t.size 0=true):vld (s++t) (s++t).size 0=true∧cks (s++t).data.toList=cks s.data.toList++cks t.data.toList:=by
 obtain⟨h1,h2⟩:=vld_cks hs
 obtain⟨h3,h4⟩:=vld_cks ht
 have e:(s++t).data.toList=flat (cks s.data.toList++cks t.data.toList):=by rw[flat_append,h1,h3,app_list]
 have hc: ∀c,c∈cks s.data.toList++cks t.data.toList→Ck c:=fun c hc=>(List.mem_append.1 hc).elim (h2 c) (h4 c)
 exact⟨vld_of e hc,cks_of e hc⟩
theorem cks_len (s:ByteArray):(cks s.data.toList).length≤s.size:=by
 have: ∀(n:Nat) (l:List UInt8),(ckF n l).length≤n:=by
  intro n
  induction n with
  |zero=>intro l;simp[ckF]
  |succ n ih=>intro l;unfold ckF;split<;>simp;exact ih _
 exact this _ _
end Go.Proofs.YtbljnlkhebiniaaGreatDoor
end
section
set_option maxRecDepth 20000
set_option linter.unusedVariables false
set_option linter.unusedSimpArgs false
namespace Go.Proofs.YtbljnlkhebiniaaGreatDoor
open Go.RowKit Go.Graph Go.Utf
abbrev pos (cs:List Rn) (k:Nat):Nat:=(flat (cs.take k)).length
end Go.Proofs.YtbljnlkhebiniaaGreatDoor
end
section
set_option maxRecDepth 20000
set_option linter.unusedVariables false
set_option linter.unusedSimpArgs false
namespace Go.Proofs.YtbljnlkhebiniaaGreatDoor
open Go.RowKit Go.Graph Go.Utf
theorem Ck.one {b:UInt8}(h:b.toNat<128):Ck ([b],(b.toNat:Int)):=by
 have hd:Lib.decodeL [b]=(b.toNat,1):=by
  rw[Lib.decodeL_N]
  unfold Lib.decodeN
  rw[if_pos (by simpa using h)];rfl
 have:=Ck.of (l:=[b]) (by simp) (by rw[hd];intro h2;have:=h2.1;simp only at this;omega)
 rw[hd]at this
 exact this
theorem Ck.kinds {c:Rn}(h:Ck c):(∃b:UInt8,b.toNat<128∧c=([b],(b.toNat:Int)))∨∀b,b∈c.1→128≤b.toNat:=by
 have hd:=h.dec []
 rw[List.append_nil]at hd
 have hok:=h.ok
 have hlen:=h.len
 rw[Lib.decodeL_N]at hd
 have k0:=(c.1.getD 0 0).toNat_lt
 rcases Lib.decodeN_shape c.1.length (c.1.getD 0 0).toNat (c.1.getD 1 0).toNat (c.1.getD 2 0).toNat (c.1.getD 3 0).toNat with⟨q,e⟩|⟨c1,c2,c3,cv,e⟩|⟨c1,c2,c3,c4,cv,cs,e⟩|⟨c1,c2,c3,c4,c5,cv,cw,e⟩|e
 ·left
  rw[e]at hd
  injection hd with h1 h2
  have hc1:=Lib.takeA c.1 (by omega)
  rw[List.take_of_length_le (by omega)]at hc1
  refine⟨c.1.getD 0 0,q,?_⟩
  have hnn:=h.nn
  refine Prod.ext hc1 ?_
  show c.2=_
  rw[h1];omega
 ·right
  rw[e]at hd
  injection hd with h1 h2
  have hc1:=Lib.takeB c.1 (by omega)
  rw[List.take_of_length_le (by omega)]at hc1
  intro b hb
  rw[hc1]at hb
  simp only[List.mem_cons,List.mem_nil_iff,or_false]at hb
  rcases hb with rfl|rfl<;>omega
 ·right
  rw[e]at hd
  injection hd with h1 h2
  have hc1:=Lib.takeC c.1 (by omega)
  rw[List.take_of_length_le (by omega)]at hc1
  intro b hb
  rw[hc1]at hb
  simp only[List.mem_cons,List.mem_nil_iff,or_false]at hb
  rcases hb with rfl|rfl|rfl<;>omega
 ·right
  rw[e]at hd
  injection hd with h1 h2
  have hc1:=Lib.takeD c.1 (by omega)
  rw[List.take_of_length_le (by omega)]at hc1
  intro b hb
  rw[hc1]at hb
  simp only[List.mem_cons,List.mem_nil_iff,or_false]at hb
  rcases hb with rfl|rfl|rfl|rfl<;>omega
 ·rw[e]at hd
  injection hd with h1 h2
  exact absurd ⟨h1.symm,h2.symm⟩ hok
end Go.Proofs.YtbljnlkhebiniaaGreatDoor
end
section
set_option linter.unusedVariables false
set_option linter.unusedSimpArgs false
namespace Go.Ent
open Go.Utf
abbrev En:=Int×Int×ByteArray×Int
abbrev Ky:=Int×Int×ByteArray
abbrev key (e:En):Ky:=(e.1,e.2.1,e.2.2.1)
abbrev num (e:En):Int:=e.2.2.2
theorem bL_irr: ∀a:List UInt8,Op.bytesLess a a=false
 | []=>rfl
 |x::a=>by unfold Op.bytesLess;rw[bL_irr a];simp
theorem bL_tr: ∀{a b c:List UInt8},Op.bytesLess a b=true→Op.bytesLess b c=true→Op.bytesLess a c=true
 |_,_,[],_,h=>by cases h':(‹List UInt8›)<;>simp_all [Op.bytesLess]
 |_,[],_::_,h,_=>by simp_all [Op.bytesLess]
 | [],_::_,_::_,_,_=>rfl
 |x::a,y::b,z::c,h1,h2=>by
  unfold Op.bytesLess at h1 h2 ⊢
  simp only[Bool.or_eq_true,Bool.and_eq_true,decide_eq_true_eq,beq_iff_eq]at h1 h2 ⊢
  rcases h1 with h1|⟨rfl,h1⟩
  ·rcases h2 with h2|⟨rfl,h2⟩
   ·exact .inl (UInt8.lt_trans h1 h2)
   ·exact .inl h1
  ·rcases h2 with h2|⟨rfl,h2⟩
   ·exact .inl h2
   ·exact .inr ⟨rfl,bL_tr h1 h2⟩
theorem bL_tri: ∀{a b:List UInt8},Op.bytesLess a b=false→Op.bytesLess b a=false→a=b
 | [],[],_,_=>rfl
 | [],_::_,h,_=>by simp[Op.bytesLess]at h
 |_::_,[],_,h=>by simp[Op.bytesLess]at h
 |x::a,y::b,h1,h2=>by
  unfold Op.bytesLess at h1 h2
  simp only[Bool.or_eq_false_iff,decide_eq_false_iff_not,Bool.and_eq_false_iff]at h1 h2
  have e:x=y:=UInt8.le_antisymm (UInt8.not_lt.1 h2.1) (UInt8.not_lt.1 h1.1)
  subst e
  have h3:Op.bytesLess a b=false:=by rcases h1.2 with h|h;simp at h;exact h
  have h4:Op.bytesLess b a=false:=by rcases h2.2 with h|h;simp at h;exact h
  rw[bL_tri h3 h4]
def bl (s t:ByteArray):Bool:=Op.bytesLess s.toList t.toList
theorem bl_irr (s:ByteArray):bl s s=false:=bL_irr _
theorem bl_tr {s t u:ByteArray}(h1:bl s t=true)(h2:bl t u=true):bl s u=true:=bL_tr h1 h2
theorem bl_tri {s t:ByteArray}(h1:bl s t=false)(h2:bl t s=false):s=t:=by
 have:=bL_tri h1 h2
 rw[Lib.toList_data,Lib.toList_data]at this
 exact ba_eq this
theorem bl_asy {s t:ByteArray}(h:bl s t=true):bl t s=false:=by
 cases h2:bl t s with
 |false=>rfl
 |true=>have:=bl_tr h h2;rw[bl_irr]at this;cases this
def rl (a b:Int×ByteArray):Bool:=decide (a.1<b.1)||(decide (a.1=b.1)&&bl a.2 b.2)
theorem rl_irr (a:Int×ByteArray):rl a a=false:=by unfold rl;rw[bl_irr];simp
theorem rl_tr {a b c:Int×ByteArray}(h1:rl a b=true)(h2:rl b c=true):rl a c=true:=by
 unfold rl at h1 h2 ⊢
 simp only[Bool.or_eq_true,Bool.and_eq_true,decide_eq_true_eq]at h1 h2 ⊢
 rcases h1 with h1|⟨h1,h1'⟩
 ·rcases h2 with h2|⟨h2,h2'⟩
  ·left;omega
  ·left;omega
 ·rcases h2 with h2|⟨h2,h2'⟩
  ·left;omega
  ·exact .inr ⟨h1.trans h2,bl_tr h1' h2'⟩
theorem rl_tri {a b:Int×ByteArray}(h1:rl a b=false)(h2:rl b a=false):a=b:=by
 unfold rl at h1 h2
 simp only[Bool.or_eq_false_iff,decide_eq_false_iff_not,Bool.and_eq_false_iff]at h1 h2
 have e:a.1=b.1:=by omega
 have h3:bl a.2 b.2=false:=by rcases h1.2 with h|h;exact absurd e h;exact h
 have h4:bl b.2 a.2=false:=by rcases h2.2 with h|h;exact absurd e.symm h;exact h
 exact Prod.ext e (bl_tri h3 h4)
def kl (a b:Ky):Bool:=decide (a.1<b.1)||(decide (a.1=b.1)&&rl a.2 b.2)
theorem kl_irr (a:Ky):kl a a=false:=by unfold kl;rw[rl_irr];simp
theorem kl_ne {a b:Ky}(h:kl a b=true):a≠b:=fun e=>by subst e;rw[kl_irr]at h;cases h
abbrev Srt (l:List En):Prop:=l.Pairwise fun a b=>kl (key a) (key b)=true
def gv:List En→Ky→Int
 | [],_=>0
 |e::l,k=>if key e=k then num e else gv l k
theorem gv_none: ∀{l:List En} {k:Ky},(∀e,e∈l→key e≠k)→gv l k=0
 | [],_,_=>rfl
 |e::l,k,h=>by unfold gv;rw[if_neg (h e (List.mem_cons_self ..))];exact gv_none fun x hx=>h x (List.mem_cons_of_mem _ hx)
theorem gv_at {l:List En}{k:Ky}(h:gv l k≠0): ∃e,e∈l∧key e=k∧num e=gv l k:=by
 induction l with
 |nil=>exact absurd rfl h
 |cons x l ih=>
  unfold gv at h ⊢
  by_cases hx:key x=k
  ·rw[if_pos hx];exact⟨x,List.mem_cons_self ..,hx,rfl⟩
  ·rw[if_neg hx]at h ⊢
   obtain⟨e,h1,h2⟩:=ih h
   exact⟨e,List.mem_cons_of_mem _ h1,h2⟩
structure Nf (l:List En):Prop where
 srt:Srt l
 nz: ∀e,e∈l→num e≠0
def upd (x e:En)(one:Bool):En:=(x.1,x.2.1,x.2.2.1,if one=true then 1 else min (num x+num e) 1099511627776)
abbrev cap (one:Bool):Int:=if one=true then 1 else 1099511627776
structure Bd (one:Bool) (l:List En):Prop where
 srt:Srt l
 b: ∀e,e∈l→1≤num e∧num e≤cap one
theorem Bd.gv {one:Bool}{l:List En}(h:Bd one l)(k:Ky):0≤gv l k∧gv l k≤cap one:=by
 by_cases h0:Ent.gv l k=0
 ·rw[h0];cases one<;>decide
 ·obtain⟨e,h1,_,h2⟩:=gv_at h0
  have:=h.b e h1
  rw[h2]at this
  exact⟨by omega,this.2⟩
def cs (C:Int)(l:List En)(k:Ky):Int:=l.foldl (fun a e=>if key e=k then min C (a+num e)else a) 0
def sm:List En→Ky→Int
 | [],_=>0
 |e::l,k=>(if key e=k then num e else 0)+sm l k
theorem sm_nn {l:List En}(h: ∀e,e∈l→0≤num e)(k:Ky):0≤sm l k:=by
 induction l with
 |nil=>simp[sm]
 |cons x l ih=>
  have h1:=ih fun e he=>h e (List.mem_cons_of_mem _ he)
  have h2:=h x (List.mem_cons_self ..)
  unfold sm
  split<;>omega
theorem cs_sm {C:Int}(hC:0≤C): ∀(l:List En),(∀e,e∈l→0≤num e)→∀k,cs C l k=min C (sm l k):=by
 intro l h k
 have main: ∀(l:List En) (a:Int),(∀e,e∈l→0≤num e)→0≤a→a≤C→l.foldl (fun a e=>if key e=k then min C (a+num e)else a) a=min C (a+sm l k):=by
  intro l
  induction l with
  |nil=>intro a _ h1 h2;simp[sm];omega
  |cons x l ih=>
   intro a h h1 h2
   have hx:=h x (List.mem_cons_self ..)
   have hl:=sm_nn (fun e he=>h e (List.mem_cons_of_mem _ he)) k
   rw[List.foldl_cons,sm]
   split
   ·rw[ih _ (fun e he=>h e (List.mem_cons_of_mem _ he)) (by omega) (by omega)];omega
   ·rw[ih _ (fun e he=>h e (List.mem_cons_of_mem _ he)) h1 h2];omega
 have:=main l 0 h (Int.le_refl _) hC
 rw[Int.zero_add]at this
 exact this
theorem sm_gv: ∀{l:List En},Srt l→∀k,sm l k=gv l k
 | [],_,_=>rfl
 |x::l,h,k=>by
  obtain⟨h1,h2⟩:=List.pairwise_cons.1 h
  unfold sm gv
  by_cases hk:key x=k
  ·rw[if_pos hk,if_pos hk,sm_gv h2,gv_none (fun e he h3=>kl_ne (h1 e he) (hk.trans h3.symm))];omega
  ·rw[if_neg hk,if_neg hk,sm_gv h2];omega
theorem Bd.cs {one:Bool}{l:List En}(h:Bd one l)(k:Ky):cs (cap one) l k=Ent.gv l k:=by
 rw[cs_sm (by cases one<;>decide) l (fun e he=>by have:=(h.b e he).1;omega),sm_gv h.srt]
 have:=h.gv k
 omega
end Go.Ent
end
section
set_option linter.unusedVariables false
set_option linter.unusedSimpArgs false
namespace Go.Opr
open Go.Utf Go.Ent
abbrev Rc:=Int×ByteArray
abbrev Mn:=Rc×Int
abbrev kr (e:En):Rc:=(e.2.1,e.2.2.1)
theorem pw_ext {α:Type}{lt:α→α→Bool}(irr: ∀a,lt a a=false)(tr: ∀{a b c},lt a b=true→lt b c=true→lt a c=true): ∀{l m:List α},l.Pairwise (fun a b=>lt a b=true)→m.Pairwise (fun a b=>lt a b=true)→(∀x,x∈l↔x∈m)→l=m
 | [],[],_,_,_=>rfl
 | [],y::m,_,_,h=>absurd ((h y).2 (List.mem_cons_self ..)) (by simp)
 |x::l,[],_,_,h=>absurd ((h x).1 (List.mem_cons_self ..)) (by simp)
 |x::l,y::m,hl,hm,h=>by
  obtain⟨l1,l2⟩:=List.pairwise_cons.1 hl
  obtain⟨m1,m2⟩:=List.pairwise_cons.1 hm
  have e:x=y:=by
   rcases List.mem_cons.1 ((h x).1 (List.mem_cons_self ..))with e|h1
   ·exact e
   ·rcases List.mem_cons.1 ((h y).2 (List.mem_cons_self ..))with e|h2
    ·exact e.symm
    ·have:=tr (m1 x h1) (l1 y h2)
     rw[irr]at this;cases this
  subst e
  congr 1
  refine pw_ext irr tr l2 m2 fun z=>?_
  have nl:z∈l→z≠x:=fun hz e=>by subst e;have:=l1 z hz;rw[irr]at this;cases this
  have nm:z∈m→z≠x:=fun hz e=>by subst e;have:=m1 z hz;rw[irr]at this;cases this
  exact⟨fun hz=>((List.mem_cons.1 ((h z).1 (List.mem_cons_of_mem _ hz))).resolve_left (nl hz)),fun hz=>((List.mem_cons.1 ((h z).2 (List.mem_cons_of_mem _ hz))).resolve_left (nm hz))⟩
abbrev SK {α:Type} (k:α→Rc) (l:List α):Prop:=l.Pairwise fun a b=>rl (k a) (k b)=true
theorem sk_ext {α:Type}{k:α→Rc}{l m:List α}(hl:SK k l)(hm:SK k m)(h: ∀x,x∈l↔x∈m):l=m:=
 pw_ext (lt:=fun a b=>rl (k a) (k b)) (fun a=>rl_irr _) (fun h1 h2=>rl_tr h1 h2) hl hm h
theorem rl_asy {a b:Rc}(h:rl a b=true):rl b a=false:=by
 cases h2:rl b a with
 |false=>rfl
 |true=>have:=rl_tr h h2;rw[rl_irr]at this;cases this
theorem rl_ne {a b:Rc}(h:rl a b=true):a≠b:=fun e=>by subst e;rw[rl_irr]at h;cases h
theorem sk_inj {α:Type}{k:α→Rc}: ∀{l:List α},SK k l→∀{a b},a∈l→b∈l→k a=k b→a=b
 |x::l,h,a,b,ha,hb,e=>by
  obtain⟨h1,h2⟩:=List.pairwise_cons.1 h
  rcases List.mem_cons.1 ha with ea|ha2<;>rcases List.mem_cons.1 hb with eb|hb2
  ·rw[ea,eb]
  ·rw[ea]at e;exact absurd e (rl_ne (h1 b hb2))
  ·rw[eb]at e;exact absurd e.symm (rl_ne (h1 a ha2))
  ·exact sk_inj h2 ha2 hb2 e
def ins {α:Type}(k:α→Rc)(e:α):List α→List α
 | []=>[e]
 |x::l=>if k x=k e then e::l else if rl (k e) (k x)=true then e::x::l else x::ins k e l
theorem ins_mem {α:Type}{k:α→Rc}{e x:α}: ∀{l:List α},SK k l→(x∈ins k e l↔x=e∨(x∈l∧k x≠k e))
 | [],_=>by simp[ins]
 |y::l,h=>by
  obtain⟨h1,h2⟩:=List.pairwise_cons.1 h
  unfold ins
  by_cases hk:k y=k e
  ·rw[if_pos hk]
   simp only[List.mem_cons]
   constructor
   ·rintro(rfl|hx)
    ·exact .inl rfl
    ·exact .inr ⟨.inr hx,fun e2=>rl_ne (h1 x hx) (hk.trans e2.symm)⟩
   ·rintro(rfl|⟨rfl|hx,hn⟩)
    ·exact .inl rfl
    ·exact absurd hk hn
    ·exact .inr hx
  ·rw[if_neg hk]
   by_cases hlt:rl (k e) (k y)=true
   ·rw[if_pos hlt]
    simp only[List.mem_cons]
    constructor
    ·rintro(rfl|rfl|hx)
     ·exact .inl rfl
     ·exact .inr ⟨.inl rfl,hk⟩
     ·exact .inr ⟨.inr hx,fun e2=>rl_ne (rl_tr hlt (h1 x hx)) e2.symm⟩
    ·rintro(rfl|⟨rfl|hx,hn⟩)
     ·exact .inl rfl
     ·exact .inr (.inl rfl)
     ·exact .inr (.inr hx)
   ·rw[if_neg hlt,List.mem_cons,ins_mem h2,List.mem_cons]
    constructor
    ·rintro(rfl|rfl|⟨hx,hn⟩)
     ·exact .inr ⟨.inl rfl,hk⟩
     ·exact .inl rfl
     ·exact .inr ⟨.inr hx,hn⟩
    ·rintro(rfl|⟨rfl|hx,hn⟩)
     ·exact .inr (.inl rfl)
     ·exact .inl rfl
     ·exact .inr (.inr ⟨hx,hn⟩)
theorem ins_sk {α:Type}{k:α→Rc}{e:α}: ∀{l:List α},SK k l→SK k (ins k e l)
 | [],_=>List.pairwise_singleton ..
 |y::l,h=>by
  obtain⟨h1,h2⟩:=List.pairwise_cons.1 h
  unfold ins
  by_cases hk:k y=k e
  ·rw[if_pos hk]
   exact List.pairwise_cons.2 ⟨fun b hb=>hk▸h1 b hb,h2⟩
  ·rw[if_neg hk]
   by_cases hlt:rl (k e) (k y)=true
   ·rw[if_pos hlt]
    exact List.pairwise_cons.2 ⟨fun b hb=>(List.mem_cons.1 hb).elim (fun e=>e▸hlt) fun hb=>rl_tr hlt (h1 b hb),h⟩
   ·rw[if_neg hlt]
    refine List.pairwise_cons.2 ⟨fun b hb=>?_,ins_sk h2⟩
    rcases(ins_mem h2).1 hb with rfl|⟨hb,_⟩
    ·cases hye:rl (k y) (k b)with
     |true=>rfl
     |false=>exact absurd (rl_tri hye (by simpa using hlt)) hk
    ·exact h1 b hb
def sc (l:List Rc):List Rc:=l.foldl (fun a r=>ins id r a) []
theorem sc_ok (l:List Rc):SK id (sc l)∧∀r,r∈sc l↔r∈l:=by
 have main: ∀(l a:List Rc),SK id a→SK id (l.foldl (fun a r=>ins id r a) a)∧∀r,r∈l.foldl (fun a r=>ins id r a) a↔r∈a∨r∈l:=by
  intro l
  induction l with
  |nil=>intro a h;exact⟨h,fun r=>by simp⟩
  |cons x l ih=>
   intro a h
   obtain⟨i1,i2⟩:=ih (ins id x a) (ins_sk h)
   refine⟨i1,fun r=>(i2 r).trans ?_⟩
   rw[ins_mem h,List.mem_cons]
   constructor
   ·rintro((rfl|⟨h1,_⟩)|h1)
    ·exact .inr (.inl rfl)
    ·exact .inl h1
    ·exact .inr (.inr h1)
   ·rintro(h1|rfl|h1)
    ·by_cases e:r=x
     ·exact .inl (.inl e)
     ·exact .inl (.inr ⟨h1,e⟩)
    ·exact .inl (.inl rfl)
    ·exact .inr h1
 obtain⟨h1,h2⟩:=main l [] List.Pairwise.nil
 exact⟨h1,fun r=>(h2 r).trans (by simp)⟩
theorem sc_sorted {l:List Rc}(h:SK id l):sc l=l:=sk_ext (k:=id) (sc_ok l).1 h (sc_ok l).2
def grp:List Mn→List (Int×List Mn)
 | []=>[]
 |m::l=>match grp l with
  | []=>[(m.1.1,[m])]
  |(k,g)::r=>if m.1.1=k then(k,m::g)::r else(m.1.1,[m])::(k,g)::r
theorem grp_cons (m:Mn)(l:List Mn):grp (m::l)=match grp l with
  | []=>[(m.1.1,[m])]
  |(k,g)::r=>if m.1.1=k then(k,m::g)::r else(m.1.1,[m])::(k,g)::r:=rfl
theorem grp_head: ∀(l:List Mn),(l=[]∧grp l=[])∨∃m t g r,l=m::t∧grp l=(m.1.1,m::g)::r
 | []=>.inl ⟨rfl,rfl⟩
 |m::l=>by
  right
  rw[grp_cons]
  rcases grp_head l with⟨rfl,h⟩|⟨m',t,g,r,rfl,h⟩
  ·rw[h];exact⟨m,_,_,_,rfl,rfl⟩
  ·rw[h]
   by_cases e:m.1.1=m'.1.1
   ·simp only[if_pos e];exact⟨m,_,_,_,rfl,by rw[e]⟩
   ·simp only[if_neg e];exact⟨m,_,_,_,rfl,rfl⟩
theorem grp_flat: ∀(l:List Mn),(grp l).flatMap (·.2)=l
 | []=>rfl
 |m::l=>by
  have ih:=grp_flat l
  rw[grp_cons]
  rcases grp_head l with⟨rfl,h⟩|⟨m',t,g,r,rfl,h⟩
  ·rw[h];rfl
  ·rw[h]at ih ⊢
   by_cases e:m.1.1=m'.1.1
   ·simp only[if_pos e]
    rw[List.flatMap_cons]at ih ⊢
    rw[←ih];rfl
   ·simp only[if_neg e]
    rw[List.flatMap_cons,ih];rfl
theorem grp_all: ∀{l:List Mn} {kg:Int×List Mn},kg∈grp l→kg.2≠[]∧∀m,m∈kg.2→m.1.1=kg.1
 | [],_,h=>by cases h
 |m::l,kg,h=>by
  have ih:=fun kg=> @grp_all l kg
  rw[grp_cons]at h
  rcases grp_head l with⟨rfl,hh⟩|⟨m',t,g,r,rfl,hh⟩
  ·rw[hh]at h
   obtain rfl:=List.mem_singleton.1 h
   exact⟨by simp,fun x hx=>by obtain rfl:=List.mem_singleton.1 hx;rfl⟩
  ·rw[hh]at h ih
   by_cases e:m.1.1=m'.1.1
   ·simp only[if_pos e]at h
    rcases List.mem_cons.1 h with rfl|h
    ·exact⟨by simp,fun x hx=>(List.mem_cons.1 hx).elim (fun e2=>e2▸e) fun hx=>(ih _ (List.mem_cons_self ..)).2 x hx⟩
    ·exact ih kg (List.mem_cons_of_mem _ h)
   ·simp only[if_neg e]at h
    rcases List.mem_cons.1 h with rfl|h
    ·exact⟨by simp,fun x hx=>by obtain rfl:=List.mem_singleton.1 hx;rfl⟩
    ·exact ih kg h
theorem grp_sub {l:List Mn}{kg:Int×List Mn}(h:kg∈grp l): ∀m,m∈kg.2→m∈l:=fun m hm=>by
 rw[←grp_flat l];exact List.mem_flatMap.2 ⟨kg,h,hm⟩
abbrev KL (l:List Mn):Prop:=l.Pairwise fun a b=>a.1.1≤b.1.1
theorem rl_le {a b:Rc}(h:rl a b=true):a.1≤b.1:=by
 unfold rl at h
 simp only[Bool.or_eq_true,Bool.and_eq_true,decide_eq_true_eq]at h
 omega
theorem KL.of {l:List Mn}(h:SK (fun m:Mn=>m.1) l):KL l:=h.imp fun h=>rl_le h
theorem grp_asc: ∀{l:List Mn},KL l→(grp l).Pairwise fun a b=>a.1<b.1
 | [],_=>List.Pairwise.nil
 |m::l,h=>by
  obtain⟨h1,h2⟩:=List.pairwise_cons.1 h
  have ih:=grp_asc h2
  rw[grp_cons]
  rcases grp_head l with⟨rfl,hh⟩|⟨m',t,g,r,rfl,hh⟩
  ·rw[hh];exact List.pairwise_singleton ..
  ·rw[hh]at ih ⊢
   by_cases e:m.1.1=m'.1.1
   ·simp only[if_pos e]
    exact List.pairwise_cons.2 ⟨(List.pairwise_cons.1 ih).1,(List.pairwise_cons.1 ih).2⟩
   ·simp only[if_neg e]
    have hm:=h1 m' (List.mem_cons_self ..)
    refine List.pairwise_cons.2 ⟨fun b hb=>?_,ih⟩
    rcases List.mem_cons.1 hb with rfl|hb
    ·show m.1.1<m'.1.1;omega
    ·have:=(List.pairwise_cons.1 ih).1 b hb
     show m.1.1<b.1;have:m'.1.1<b.1:=this;omega
theorem grp_filter (p:Int→Bool): ∀{l:List Mn},KL l→grp (l.filter fun m=>p m.1.1)=(grp l).filter fun kg=>p kg.1
 | [],_=>rfl
 |m::l,h=>by
  obtain⟨h1,h2⟩:=List.pairwise_cons.1 h
  have ih:=grp_filter p h2
  have asc:=grp_asc h2
  rw[grp_cons]
  rcases grp_head l with⟨rfl,hh⟩|⟨m',t,g,r,rfl,hh⟩
  ·rw[hh]
   by_cases hp:p m.1.1=true
   ·rw[List.filter_cons_of_pos (by exact hp)];simp only[];rw[List.filter_cons_of_pos (by exact hp)];rfl
   ·rw[List.filter_cons_of_neg (by exact hp)];simp only[];rw[List.filter_cons_of_neg (by exact hp)];rfl
  ·rw[hh]at ih asc ⊢
   have hm:=h1 m' (List.mem_cons_self ..)
   by_cases e:m.1.1=m'.1.1
   ·simp only[if_pos e]
    by_cases hp:p m.1.1=true
    ·have hp':p m'.1.1=true:=e▸hp
     rw[List.filter_cons_of_pos (by exact hp),grp_cons,ih,List.filter_cons_of_pos (by exact hp'),List.filter_cons_of_pos (by exact hp')]
     simp only[if_pos e]
    ·have hp': ¬p m'.1.1=true:=e▸hp
     rw[List.filter_cons_of_neg (by exact hp),ih,List.filter_cons_of_neg (by exact hp'),List.filter_cons_of_neg (by exact hp')]
   ·simp only[if_neg e]
    by_cases hp:p m.1.1=true
    ·have ep:((m.1.1,[m])::(m'.1.1,m'::g)::r).filter (fun kg=>p kg.1)=(m.1.1,[m])::((m'.1.1,m'::g)::r).filter (fun kg=>p kg.1):=List.filter_cons_of_pos (by exact hp)
     rw[List.filter_cons_of_pos (by exact hp),grp_cons,ih,ep]
     cases hf:(((m'.1.1,m'::g)::r).filter fun kg=>p kg.1)with
     |nil=>rfl
     |cons kg rr=>
      have hin:kg∈(m'.1.1,m'::g)::r:=(List.mem_filter.1 (hf▸List.mem_cons_self ..)).1
      have hlt:m.1.1<kg.1:=by
       rcases List.mem_cons.1 hin with rfl|hin
       ·show m.1.1<m'.1.1;omega
       ·have:m'.1.1<kg.1:=(List.pairwise_cons.1 asc).1 kg hin
        omega
      simp only[if_neg (show ¬m.1.1=kg.1 by omega)]
    ·have ep:((m.1.1,[m])::(m'.1.1,m'::g)::r).filter (fun kg=>p kg.1)=((m'.1.1,m'::g)::r).filter (fun kg=>p kg.1):=List.filter_cons_of_neg (by exact hp)
     rw[List.filter_cons_of_neg (by exact hp),ih,ep]
abbrev oth (b:List Mn) (k:Int):List Mn:=b.filter fun m=>decide (m.1.1=k)
theorem grp_oth: ∀{l:List Mn},KL l→∀{kg},kg∈grp l→kg.2=oth l kg.1:=fun {l} h kg hk=>by
 have:=grp_filter (fun k=>decide (k=kg.1)) h
 have h2:(grp l).filter (fun x=>decide (x.1=kg.1))=[kg]:=by
  have asc:=grp_asc h
  have main: ∀{gs:List (Int×List Mn)},gs.Pairwise (fun a b=>a.1<b.1)→kg∈gs→gs.filter (fun x=>decide (x.1=kg.1))=[kg]:=by
   intro gs
   induction gs with
   |nil=>intro _ h;cases h
   |cons x gs ih=>
    intro hp hm
    obtain⟨p1,p2⟩:=List.pairwise_cons.1 hp
    rcases List.mem_cons.1 hm with rfl|hm
    ·rw[List.filter_cons_of_pos (by simp)]
     congr 1
     rw[List.filter_eq_nil_iff]
     intro y hy
     have:=p1 y hy
     simp only[decide_eq_true_eq];omega
    ·have:=p1 kg hm
     rw[List.filter_cons_of_neg (by simp only[decide_eq_true_eq];omega)]
     exact ih p2 hm
  exact main asc hk
 rw[h2]at this
 have h3:=grp_flat (oth l kg.1)
 rw[this]at h3
 simpa using h3
end Go.Opr
end
section
set_option linter.unusedVariables false
set_option linter.unusedSimpArgs false
namespace Go.Opr
open Go.Utf Go.Ent
abbrev Fn:=Int×Int×ByteArray
def cut (s:ByteArray):ByteArray:=s.extract 0 (bd 64 0 (cks s.data.toList))
def rns (s:ByteArray):Int:=((cks s.data.toList).length:Int)
def dg:Nat→Nat→List UInt8
 |0,_=>[]
 |f+1,n=>if n / 10=0 then [UInt8.ofNat (48+n%10)]else dg f (n / 10)++[UInt8.ofNat (48+n%10)]
def dec (n:Int):ByteArray:=⟨(dg 20 n.toNat).toArray⟩
def cntM (g:List Mn):Int:=g.foldl (fun v m=>v+m.2) 0
def aheadP (kind:Int)(a b:ByteArray):Bool:=if kind=31 then bl a b else if kind=32 then !(bl a b||decide (a=b))else decide (rns b<rns a)||(decide (rns a=rns b)&&bl a b)
def redT (kind:Int)(x:ByteArray)(g:List Mn):ByteArray:=g.foldl (fun x m=>if kind=34 then x++m.1.2 else if aheadP kind m.1.2 x=true then m.1.2 else x) x
def red (kind:Int):List Mn→Rc
 | []=>(0,ByteArray.mk #[])
 |m::l=>(m.1.1,cut (redT kind m.1.2 l))
def joinsG (k:Int)(g h:List Mn):List Rc:=g.flatMap fun p=>h.map fun q=>(k,cut ((p.1.2++ByteArray.mk #[43])++q.1.2))
def outG (kind:Int)(f:Fn)(b:List Mn)(kg:Int×List Mn):List Rc:=if kind=7 then [(kg.1,dec (cntM kg.2))]else if kind=8 then [red f.1 kg.2]else joinsG kg.1 kg.2 (oth b kg.1)
def vE:List En→Rc→Int
 | [],_=>0
 |e::l,r=>if kr e=r then num e else vE l r
def meas (f:Fn)(r:Rc):Int:=if f.1=41 then 1 else rns r.2
def tot (f:Fn)(v:Int)(g:List Mn):Int:=g.foldl (fun v m=>min (v+meas f m.1*m.2) 1099511627776) v
abbrev nil8:ByteArray:=ByteArray.mk #[]
def totS (f:Fn)(id:Int)(s:List Rc×List En)(kg:Int×List Mn):List Rc×List En:=
 (s.1++[(kg.1,dec (tot f (vE s.2 (kg.1,nil8)) kg.2))],ins kr (id,kg.1,nil8,tot f (vE s.2 (kg.1,nil8)) kg.2) s.2)
def frS (id:Int)(s:List Rc×List En)(m:Mn):List Rc×List En:=
 if vE s.2 m.1=0 then(s.1++[m.1],ins kr (id,m.1.1,m.1.2,1) s.2)else s
def raw (kind:Int)(f:Fn)(id:Int)(a b:List Mn)(st:List En):List Rc×List En:=
 if kind=7∨kind=8∨kind=9 then((grp a).flatMap (outG kind f b),st)else if kind=11 then(grp a).foldl (totS f id) ([],st)else a.foldl (frS id) ([],st)
def tellP (kind:Int)(f:Fn)(id:Int)(a b:List Mn)(st:List En):List Rc×List En:=(sc (raw kind f id a b st).1,if kind=10 then []else(raw kind f id a b st).2)
theorem vE_none {l:List En}{r:Rc}(h: ∀e,e∈l→kr e≠r):vE l r=0:=by
 induction l with
 |nil=>rfl
 |cons x l ih=>unfold vE;rw[if_neg (h x (List.mem_cons_self ..)),ih fun e he=>h e (List.mem_cons_of_mem _ he)]
theorem vE_mem: ∀{l:List En} {e:En},SK kr l→e∈l→vE l (kr e)=num e
 |x::l,e,h,he=>by
  obtain⟨h1,h2⟩:=List.pairwise_cons.1 h
  unfold vE
  rcases List.mem_cons.1 he with rfl|he
  ·rw[if_pos rfl]
  ·rw[if_neg (rl_ne (h1 e he)),vE_mem h2 he]
theorem joins_key {k:Int}{g h:List Mn}{r:Rc}(hr:r∈joinsG k g h):r.1=k:=by
 unfold joinsG at hr
 obtain⟨p,_,h2⟩:=List.mem_flatMap.1 hr
 obtain⟨q,_,rfl⟩:=List.mem_map.1 h2
 rfl
theorem red_key {kind k:Int}{g:List Mn}(hne:g≠[])(hg: ∀m,m∈g→m.1.1=k):(red kind g).1=k:=by
 cases g with
 |nil=>exact absurd rfl hne
 |cons m g=>exact hg m (List.mem_cons_self ..)
theorem outG_key {kind:Int}{f:Fn}{b a:List Mn}{kg:Int×List Mn}(h:kg∈grp a){r:Rc}(hr:r∈outG kind f b kg):r.1=kg.1:=by
 obtain⟨h1,h2⟩:=grp_all h
 unfold outG at hr
 split at hr
 ·obtain rfl:=List.mem_singleton.1 hr;rfl
 ·split at hr
  ·obtain rfl:=List.mem_singleton.1 hr;exact red_key h1 h2
  ·exact joins_key hr
theorem frS_sk {id:Int}: ∀(a:List Mn) {s:List Rc×List En},SK kr s.2→SK kr (a.foldl (frS id) s).2
 | [],_,h=>h
 |m::a,s,h=>frS_sk a (s:=frS id s m) (by unfold frS;split;exact ins_sk h;exact h)
end Go.Opr
end
section
set_option maxRecDepth 20000
set_option linter.unusedVariables false
set_option linter.unusedSimpArgs false
namespace Go.Proofs.YtbljnlkhebiniaaGreatDoor
open Go.RowKit Go.Graph Go.Utf Go.Ent
def cI (a b:Int):Int:=if a<b then-1 else if b<a then 1 else 0
theorem cmp64_eq (a b:Int):F.cmp_Compare_int64 a b=some (cI a b):=by
 rw[F.cmp_Compare_int64]
 simp only[F.cmp_isNaN_int64,Option.bind_some,ne_eq,not_true,decide_false,Bool.false_eq_true,if_false]
 unfold cI
 by_cases h1:a<b
 ·rw[if_pos h1,if_pos h1]
 ·rw[if_neg h1,if_neg h1]
  by_cases h2:b<a
  ·rw[if_pos h2,if_pos h2]
  ·rw[if_neg h2,if_neg h2]
def cS (a b:ByteArray):Int:=if bl a b=true then-1 else if a=b then 0 else 1
theorem tl_eq {a b:ByteArray}:(a.toList==b.toList)=decide (a=b):=by
 rw[Lib.toList_data,Lib.toList_data]
 by_cases h:a=b
 ·subst h;simp
 ·rw[decide_eq_false h]
  exact beq_eq_false_iff_ne.2 fun e=>h (ba_eq e)
theorem cB_eq: ∀a b:List UInt8,Lib.compareBytes a b=if Op.bytesLess a b=true then-1 else if a=b then 0 else 1
 | [],[]=>rfl
 | [],_::_=>rfl
 |_::_,[]=>by simp[Lib.compareBytes,Op.bytesLess]
 |x::a,y::b=>by
  unfold Lib.compareBytes Op.bytesLess
  by_cases h1:x<y
  ·simp[h1]
  ·by_cases h2:y<x
   ·have hne:x≠y:=fun e=>by subst e;exact h1 h2
    simp[h1,h2,hne]
   ·have e:x=y:=UInt8.le_antisymm (UInt8.not_lt.1 h2) (UInt8.not_lt.1 h1)
    subst e
    rw[if_neg h1,if_neg h1,cB_eq a b]
    simp[h1]
theorem scmp_eq (a b:ByteArray):F.strings_Compare a b=some (cS a b):=by
 rw[F.strings_Compare,cB_eq]
 unfold cS bl
 rw[Lib.toList_data,Lib.toList_data]
 by_cases h:a=b
 ·subst h;simp
 ·have:a.data.toList≠b.data.toList:=fun e=>h (ba_eq e)
  simp[h,this]
theorem or_eq (l:List Int)(hl:l.length≤100):F.cmp_Or_int l=some ((l.find? fun x=>decide (x≠0)).getD 0):=
 A.lp0 l (fun f y=>F.cmp_Or_int_l1 l f y) (fun _ r=>some ((r.find? fun x=>decide (x≠0)).getD 0))
  (fun f=>by rw[F.cmp_Or_int_l1,if_neg (by omega)];rfl)
  (fun f k x hx hk ih=>by
   rw[F.cmp_Or_int_l1,if_pos (by omega),A.ixn hx,Option.bind_some,List.find?_cons]
   by_cases h:x=0
   ·rw[if_neg (fun h2=>h2 h),A.gd1 ⟨by omega,by omega⟩,ih,decide_eq_false (fun h2=>h2 h)]
   ·rw[if_pos h,decide_eq_true h];rfl)
  (by have:=FU_big;omega)
theorem or2 (a b:Int):F.cmp_Or_int [a,b]=some (if a≠0 then a else b):=by
 rw[or_eq _ (by simp)]
 by_cases h:a=0
 ·subst h
  by_cases h2:b=0
  ·subst h2;rfl
  ·simp[h2]
 ·simp[h]
abbrev rec (e:En):Int×ByteArray:=(e.2.1,e.2.2.1)
theorem cS_cases (a b:ByteArray):(bl a b=true∧cS a b= -1)∨(a=b∧bl a b=false∧cS a b=0)∨(a≠b∧bl a b=false∧bl b a=true∧cS a b=1):=by
 unfold cS
 cases h:bl a b with
 |true=>exact .inl ⟨rfl,by simp⟩
 |false=>
  by_cases h2:a=b
  ·exact .inr (.inl ⟨h2,rfl,by simp[h2]⟩)
  ·refine .inr (.inr ⟨h2,rfl,?_,by simp[h2]⟩)
   cases h3:bl b a with
   |true=>rfl
   |false=>exact absurd (bl_tri h h3) h2
theorem cI_cases (a b:Int):(a<b∧cI a b= -1)∨(a=b∧cI a b=0)∨(b<a∧cI a b=1):=by
 unfold cI
 by_cases h:a<b
 ·exact .inl ⟨h,if_pos h⟩
 ·by_cases h2:b<a
  ·exact .inr (.inr ⟨h2,by rw[if_neg h,if_pos h2]⟩)
  ·exact .inr (.inl ⟨by omega,by rw[if_neg h,if_neg h2]⟩)
def cR (a b:Int×ByteArray):Int:=if cI a.1 b.1≠0 then cI a.1 b.1 else cS a.2 b.2
theorem cR_lt (a b:Int×ByteArray):decide (cR a b<0)=rl a b:=by
 unfold cR rl
 rcases cI_cases a.1 b.1 with⟨h,e⟩|⟨h,e⟩|⟨h,e⟩
 ·rw[e];simp[h]
 ·rw[e,h]
  simp only[ne_eq,not_true,if_false,Int.lt_irrefl,decide_false,Bool.false_or,decide_true,Bool.true_and]
  rcases cS_cases a.2 b.2 with⟨h2,e2⟩|⟨h2,h3,e2⟩|⟨h2,h3,h4,e2⟩
  ·rw[e2,h2];rfl
  ·rw[e2,h3];rfl
  ·rw[e2,h3];rfl
 ·rw[e]
  have h1: ¬a.1<b.1:=by omega
  have h2: ¬a.1=b.1:=by omega
  simp[h1,h2]
theorem ahead_eq (a b:En):F.oper_ahead a b=some (rl (rec a) (rec b)):=by
 rw[F.oper_ahead,cmp64_eq,Option.bind_some,scmp_eq,Option.bind_some,or2,Option.bind_some]
 exact congrArg some (cR_lt (rec a) (rec b))
theorem R05_Compare_eq (a b:Int×ByteArray):F.R05_Compare a b=some (cR a b):=by
 rw[F.R05_Compare]
 unfold cR
 rcases cI_cases a.1 b.1 with⟨h,e⟩|⟨h,e⟩|⟨h,e⟩
 ·rw[if_pos h,e];rfl
 ·rw[if_neg (by omega),if_neg (by omega),e]
  simp only[tl_eq]
  unfold cS bl
  by_cases h1:Op.bytesLess a.2.toList b.2.toList=true
  ·rw[if_pos h1,if_pos h1];rfl
  ·rw[if_neg h1,if_neg h1]
   rw[Bool.not_eq_true]at h1
   rw[h1]
   by_cases h2:a.2=b.2
   ·simp[h2]
   ·simp[h2]
 ·rw[if_neg (by omega),if_pos h,e];rfl
def entOk (n:Nd)(x:En):Bool:=
 if x.1≠n.1 then false else if n.2.1=11 then decide (x.2.2.1=ByteArray.mk #[])&&decide (0≤x.2.2.2)&&decide (x.2.2.2≤1099511627776)else if n.2.1=16 then decide (x.2.2.2=1)&&okT x.2.2.1 else false
def stF (n:Nd):Option En→List En→Bool
 |_,[]=>true
 |none,e::l=>entOk n e&&stF n (some e) l
 |some p,e::l=>entOk n e&&rl (rec p) (rec e)&&stF n (some e) l
def stP (n:Nd)(l:List En):Bool:=stF n none l
theorem entry_eq (n:Nd)(x:En):F.oper_entry n x=some (entOk n x):=by
 rw[F.oper_entry]
 unfold entOk
 by_cases h0:x.1=n.1
 ·have h0': ¬(x.1≠n.1):=fun h=>h h0
  rw[if_neg h0',if_neg h0']
  by_cases h1:n.2.1=11
  ·rw[if_pos h1,if_pos h1]
   congr 1
   by_cases a1:x.2.2.1=ByteArray.mk #[]<;>by_cases a2:(0:Int)≤x.2.2.2<;>by_cases a3:x.2.2.2≤1099511627776<;>simp[a1,a2,a3]
  ·rw[if_neg h1,if_neg h1]
   by_cases h2:n.2.1=16
   ·rw[if_pos h2,if_pos h2]
    by_cases h3:x.2.2.2=1
    ·rw[if_pos h3]
     show(F.rec_Check (rec x)).bind _=_
     rw[rec_Check_eq,Option.bind_some,F.oper_entry_j1,decide_eq_true h3,Bool.true_and]
     show some (decide ((if okT x.2.2.1=true then(0:Int)else 50)=0))=_
     cases okT x.2.2.1<;>rfl
    ·rw[if_neg h3,F.oper_entry_j1,decide_eq_false h3];rfl
   ·rw[if_neg h2,if_neg h2]
 ·rw[if_pos h0,if_pos h0]
abbrev prv (l:List En) (k:Nat):Option En:=if k=0 then none else l[k-1]?
theorem prv_s (l:List En)(k:Nat){x:En}(h:l[k]?=some x):prv l (k+1)=some x:=by unfold prv;rw[if_neg (by omega)];exact h
theorem CheckState_eq (n:Nd)(l:List En)(hl:l.length≤9223372036854775807):F.oper_CheckState n l=some (if stP n l=true then 0 else 171):=
 A.lp0 l (fun f y=>F.oper_CheckState_l2 n l f y) (fun k r=>some (if stF n (prv l k) r=true then 0 else 171))
  (fun f=>by
   rw[F.oper_CheckState_l2,if_neg (by omega)]
   cases prv l l.length<;>rfl)
  (fun f k x hx hk ih=>by
   rw[F.oper_CheckState_l2,if_pos (by omega),A.ixn hx,Option.bind_some]
   show(F.oper_entry n x).bind _=_
   rw[prv_s l k hx]at ih
   have nx: ∀b:Bool,F.oper_CheckState_j1 (F.oper_CheckState_l2 n l f) (k:Int) b=some (if(!b&&stF n (some x) (l.drop (k+1)))=true then 0 else 171):=fun b=>by
    rw[F.oper_CheckState_j1]
    cases b with
    |true=>rw[if_pos rfl];rfl
    |false=>rw[if_neg (by simp),A.gd1 ⟨by omega,by omega⟩,ih];rfl
   rw[entry_eq,Option.bind_some]
   by_cases hk0:k=0
   ·subst hk0
    show _=some (if(entOk n x&&stF n (some x) (l.drop (0+1)))=true then 0 else 171)
    cases he:entOk n x with
    |false=>rw[Bool.not_false,if_pos rfl,nx];rfl
    |true=>rw[Bool.not_true,if_neg (by simp),if_neg (by omega),nx];rfl
   ·have hp:prv l k=l[k-1]?:=by unfold prv;rw[if_neg hk0]
    obtain⟨p,hpp⟩: ∃p,l[k-1]?=some p:=⟨_,List.getElem?_eq_getElem (by omega)⟩
    rw[hp,hpp]
    show _=some (if(entOk n x&&rl (rec p) (rec x)&&stF n (some x) (l.drop (k+1)))=true then 0 else 171)
    cases he:entOk n x with
    |false=>rw[Bool.not_false,if_pos rfl,nx];rfl
    |true=>
     rw[Bool.not_true,if_neg (by simp),if_pos (by omega),A.gd1 ⟨by omega,by omega⟩,show(k:Int)-1=((k-1:Nat):Int) by omega,A.ixn hpp,Option.bind_some]
     show(F.oper_ahead p x).bind _=_
     rw[ahead_eq,Option.bind_some,nx,Bool.not_not,Bool.true_and])
  (by have:=FU_big;omega)
theorem stF_all {n:Nd}: ∀{p:Option En} {l:List En},stF n p l=true→∀e,e∈l→entOk n e=true
 |_,[],_,e,h=>by cases h
 |none,x::l,h,e,he=>by
  unfold stF at h
  rw[Bool.and_eq_true]at h
  exact(List.mem_cons.1 he).elim (fun e=>e▸h.1) (stF_all h.2 e)
 |some p,x::l,h,e,he=>by
  unfold stF at h
  rw[Bool.and_eq_true,Bool.and_eq_true]at h
  exact(List.mem_cons.1 he).elim (fun e=>e▸h.1.1) (stF_all h.2 e)
theorem stF_pw {n:Nd}: ∀{p:En} {l:List En},stF n (some p) l=true→(p::l).Pairwise fun a b=>rl (rec a) (rec b)=true
 |p,[],_=>by simp
 |p,x::l,h=>by
  unfold stF at h
  rw[Bool.and_eq_true,Bool.and_eq_true]at h
  have ih:=stF_pw h.2
  exact List.pairwise_cons.2 ⟨fun y hy=>(List.mem_cons.1 hy).elim (fun e=>e▸h.1.2) fun hy=>rl_tr h.1.2 ((List.pairwise_cons.1 ih).1 y hy),ih⟩
theorem stP_iff {n:Nd}{l:List En}:stP n l=true↔(∀e,e∈l→entOk n e=true)∧l.Pairwise fun a b=>rl (rec a) (rec b)=true:=by
 constructor
 ·intro h
  refine⟨stF_all h,?_⟩
  cases l with
  |nil=>exact List.Pairwise.nil
  |cons x l=>
   unfold stP stF at h
   rw[Bool.and_eq_true]at h
   exact stF_pw h.2
 ·rintro⟨h1,h2⟩
  have main: ∀(l:List En) (p:En),(∀e,e∈l→entOk n e=true)→(p::l).Pairwise (fun a b=>rl (rec a) (rec b)=true)→stF n (some p) l=true:=by
   intro l
   induction l with
   |nil=>intro p _ _;rfl
   |cons x l ih=>
    intro p h1 h2
    unfold stF
    rw[h1 x (List.mem_cons_self ..),(List.pairwise_cons.1 h2).1 x (List.mem_cons_self ..),ih x (fun e he=>h1 e (List.mem_cons_of_mem _ he)) (List.pairwise_cons.1 h2).2];rfl
  cases l with
  |nil=>rfl
  |cons x l=>
   unfold stP stF
   rw[h1 x (List.mem_cons_self ..),main l x (fun e he=>h1 e (List.mem_cons_of_mem _ he)) h2];rfl
end Go.Proofs.YtbljnlkhebiniaaGreatDoor
end
section
set_option linter.unusedVariables false
set_option linter.unusedSimpArgs false
namespace Go.Opr
open Go.Utf Go.Ent
def wS (w:Rc→Int):List Mn→Int
 | []=>0
 |m::l=>w m.1*m.2+wS w l
abbrev SM (l:List Mn):Prop:=SK (fun m:Mn=>m.1) l
def frT (id:Int)(st:List En)(m:Mn):List En:=if vE st m.1=0 then ins kr (id,m.1.1,m.1.2,1) st else st
theorem frS_snd (id:Int): ∀(a:List Mn) (s:List Rc×List En),(a.foldl (frS id) s).2=a.foldl (frT id) s.2
 | [],_=>rfl
 |m::a,s=>by
  rw[List.foldl_cons,List.foldl_cons,frS_snd id a]
  congr 1
  unfold frS frT
  split<;>rfl
abbrev St1 (id:Int) (st:List En):Prop:=∀e,e∈st→e.1=id∧num e=1
theorem vE_zero {id:Int}{st:List En}(hs:SK kr st)(h:St1 id st)(r:Rc):vE st r=0↔r∉st.map kr:=by
 constructor
 ·intro h0 hm
  obtain⟨e,he,rfl⟩:=List.mem_map.1 hm
  rw[vE_mem hs he,(h e he).2]at h0;cases h0
 ·intro hn
  exact vE_none fun e he h=>hn (List.mem_map.2 ⟨e,he,h⟩)
theorem frT_ok (id:Int): ∀(a:List Mn) {st:List En},SK kr st→St1 id st→SK kr (a.foldl (frT id) st)∧St1 id (a.foldl (frT id) st)∧∀r,r∈(a.foldl (frT id) st).map kr↔r∈st.map kr∨r∈a.map (·.1)
 | [],st,h,h1=>⟨h,h1,fun r=>by simp⟩
 |m::a,st,h,h1=>by
  have key:SK kr (frT id st m)∧St1 id (frT id st m)∧∀r,r∈(frT id st m).map kr↔r∈st.map kr∨r=m.1:=by
   unfold frT
   by_cases h0:vE st m.1=0
   ·rw[if_pos h0]
    refine⟨ins_sk h,fun e he=>?_,fun r=>?_⟩
    ·rcases(ins_mem h).1 he with rfl|⟨he,_⟩
     ·exact⟨rfl,rfl⟩
     ·exact h1 e he
    ·rw[List.mem_map]
     constructor
     ·rintro⟨e,he,rfl⟩
      rcases(ins_mem h).1 he with rfl|⟨he,_⟩
      ·exact .inr rfl
      ·exact .inl (List.mem_map_of_mem he)
     ·rintro(hr|rfl)
      ·obtain⟨e,he,rfl⟩:=List.mem_map.1 hr
       by_cases hk:kr e=m.1
       ·exact⟨_,(ins_mem h).2 (.inl rfl),hk.symm⟩
       ·exact⟨e,(ins_mem h).2 (.inr ⟨he,hk⟩),rfl⟩
      ·exact⟨_,(ins_mem h).2 (.inl rfl),rfl⟩
   ·rw[if_neg h0]
    refine⟨h,h1,fun r=>⟨.inl,fun hr=>hr.elim (fun h=>h) fun e=>?_⟩⟩
    subst e
    exact Classical.byContradiction fun hn=>h0 ((vE_zero h h1 _).2 hn)
  obtain⟨i1,i2,i3⟩:=frT_ok id a key.1 key.2.1
  refine⟨i1,i2,fun r=>(i3 r).trans ?_⟩
  rw[key.2.2,List.map_cons,List.mem_cons]
  exact⟨fun h=>h.elim (fun h=>h.elim .inl fun h=>.inr (.inl h)) fun h=>.inr (.inr h),fun h=>h.elim (fun h=>.inl (.inl h)) fun h=>h.elim (fun h=>.inl (.inr h)) .inr⟩
abbrev St2 (id:Int) (st:List En):Prop:=∀e,e∈st→e.1=id∧e.2.2.1=nil8∧0≤num e∧num e≤1099511627776
theorem rns_nn (s:ByteArray):0≤rns s:=by unfold rns;omega
theorem meas_nn (f:Fn)(r:Rc):0≤meas f r:=by unfold meas;split;omega;exact rns_nn _
theorem wS_nn {w:Rc→Int}(hw: ∀r,0≤w r): ∀{l:List Mn},(∀m,m∈l→1≤m.2)→0≤wS w l
 | [],_=>Int.le_refl _
 |m::l,h=>by
  have h1:=wS_nn hw fun m hm=>h m (List.mem_cons_of_mem _ hm)
  have h2:=Int.mul_nonneg (hw m.1) (show 0≤m.2 by have:=h m (List.mem_cons_self ..);omega)
  unfold wS;omega
theorem tot_sum {f:Fn}: ∀{g:List Mn} {v:Int},(∀m,m∈g→1≤m.2)→0≤v→v≤1099511627776→tot f v g=min 1099511627776 (v+wS (meas f) g)
 | [],v,_,h0,h1=>by show v=min 1099511627776 (v+0);omega
 |m::g,v,h,h0,h1=>by
  have h2:=Int.mul_nonneg (meas_nn f m.1) (show 0≤m.2 by have:=h m (List.mem_cons_self ..);omega)
  have h3:=wS_nn (meas_nn f) fun m hm=>h m (List.mem_cons_of_mem _ hm)
  show tot f (min (v+meas f m.1*m.2) 1099511627776) g=min 1099511627776 (v+(meas f m.1*m.2+wS (meas f) g))
  rw[tot_sum (fun m hm=>h m (List.mem_cons_of_mem _ hm)) (by omega) (by omega)]
  omega
theorem tot_rng {f:Fn}{g:List Mn}{v:Int}(h: ∀m,m∈g→1≤m.2)(h0:0≤v)(h1:v≤1099511627776):0≤tot f v g∧tot f v g≤1099511627776:=by
 rw[tot_sum h h0 h1]
 have:=wS_nn (meas_nn f) h
 omega
theorem vE_rng {id:Int}{st:List En}(h:St2 id st)(r:Rc):0≤vE st r∧vE st r≤1099511627776:=by
 induction st with
 |nil=>exact⟨Int.le_refl _,(by decide:(0:Int)≤1099511627776)⟩
 |cons x st ih=>
  unfold vE
  split
  ·exact(h x (List.mem_cons_self ..)).2.2
  ·exact ih fun e he=>h e (List.mem_cons_of_mem _ he)
theorem grp_oth_flat {a:List Mn}(h:KL a)(k:Int):((grp a).filter fun kg=>decide (kg.1=k)).flatMap (·.2)=oth a k:=by
 rw[←grp_filter (fun x=>decide (x=k)) h,grp_flat]
end Go.Opr
end
section
set_option maxRecDepth 20000
set_option linter.unusedVariables false
set_option linter.unusedSimpArgs false
namespace Go.Proofs.YtbljnlkhebiniaaGreatDoor
open Go.RowKit Go.Graph Go.Utf Go.Ent Go.Opr
theorem rec_Compare_eq (a b:Rc):F.rec_Compare a b=some (cR a b):=by
 rw[F.rec_Compare,cmp64_eq,Option.bind_some,scmp_eq,Option.bind_some,or2,Option.bind_some];rfl
theorem cR_ge (a b:Rc):decide ((0:Int)≤cR a b)= !rl a b:=by
 have:=cR_lt a b
 cases h:rl a b with
 |true=>rw[h]at this;have:=of_decide_eq_true this;simp;omega
 |false=>rw[h]at this;have:=of_decide_eq_false this;simp;omega
def bagF:Option Mn→List Mn→Bool
 |_,[]=>true
 |none,m::l=>decide (1≤m.2)&&decide (m.2≤1048576)&&bagF (some m) l
 |some p,m::l=>decide (1≤m.2)&&decide (m.2≤1048576)&&rl p.1 m.1&&bagF (some m) l
def chkB (l:List Mn):Int:=if(l.any fun m=> !okT m.1.2)=true then 50 else if bagF none l=true then 0 else 51
structure Bag (l:List Mn):Prop where
 txt: ∀m,m∈l→okT m.1.2=true
 one: ∀m,m∈l→1≤m.2
 top: ∀m,m∈l→m.2≤1048576
 srt:SM l
theorem bagF_some: ∀{l:List Mn} {p:Mn},bagF (some p) l=true↔(∀m,m∈l→1≤m.2∧m.2≤1048576)∧SM (p::l)
 | [],p=>by simp[bagF]
 |m::l,p=>by
  unfold bagF
  simp only[Bool.and_eq_true,decide_eq_true_eq,bagF_some]
  constructor
  ·rintro⟨⟨⟨h1,h2⟩,h3⟩,h4,h5⟩
   refine⟨fun x hx=>(List.mem_cons.1 hx).elim (fun e=>e▸⟨h1,h2⟩) (h4 x),?_⟩
   exact List.pairwise_cons.2 ⟨fun y hy=>(List.mem_cons.1 hy).elim (fun e=>e▸h3) fun hy=>rl_tr h3 ((List.pairwise_cons.1 h5).1 y hy),h5⟩
  ·rintro⟨h1,h2⟩
   obtain⟨h3,h4⟩:=List.pairwise_cons.1 h2
   have:=h1 m (List.mem_cons_self ..)
   exact⟨⟨⟨this.1,this.2⟩,h3 m (List.mem_cons_self ..)⟩,fun x hx=>h1 x (List.mem_cons_of_mem _ hx),h4⟩
theorem bagF_none {l:List Mn}:bagF none l=true↔(∀m,m∈l→1≤m.2∧m.2≤1048576)∧SM l:=by
 cases l with
 |nil=>simp[bagF]
 |cons m l=>
  unfold bagF
  simp only[Bool.and_eq_true,decide_eq_true_eq,bagF_some]
  constructor
  ·rintro⟨h1,h2,h3⟩
   exact⟨fun x hx=>(List.mem_cons.1 hx).elim (fun e=>e▸h1) (h2 x),h3⟩
  ·rintro⟨h1,h2⟩
   exact⟨h1 m (List.mem_cons_self ..),fun x hx=>h1 x (List.mem_cons_of_mem _ hx),h2⟩
theorem chkB_iff {l:List Mn}:chkB l=0↔Bag l:=by
 unfold chkB
 by_cases h:(l.any fun m=> !okT m.1.2)=true
 ·rw[if_pos h]
  refine⟨fun h=>(by cases h),fun hb=>?_⟩
  obtain⟨m,hm,h2⟩:=List.any_eq_true.1 h
  rw[hb.txt m hm]at h2;cases h2
 ·rw[if_neg h]
  have ht: ∀m,m∈l→okT m.1.2=true:=fun m hm=>by
   cases ho:okT m.1.2 with
   |true=>rfl
   |false=>exact absurd (List.any_eq_true.2 ⟨m,hm,by rw[ho];rfl⟩) h
  by_cases h2:bagF none l=true
  ·rw[if_pos h2]
   obtain⟨h3,h4⟩:=bagF_none.1 h2
   exact⟨fun _=>⟨ht,fun m hm=>(h3 m hm).1,fun m hm=>(h3 m hm).2,h4⟩,fun _=>rfl⟩
  ·rw[if_neg h2]
   exact⟨fun h=>(by cases h),fun hb=>absurd (bagF_none.2 ⟨fun m hm=>⟨hb.one m hm,hb.top m hm⟩,hb.srt⟩) h2⟩
theorem Bag.sub {l m:List Mn}(h:Bag l)(hs:m.Sublist l):Bag m:=
 ⟨fun x hx=>h.txt x (hs.subset hx),fun x hx=>h.one x (hs.subset hx),fun x hx=>h.top x (hs.subset hx),h.srt.sublist hs⟩
theorem Bag.kl {l:List Mn}(h:Bag l):KL l:=KL.of h.srt
abbrev prvM (l:List Mn) (k:Nat):Option Mn:=if k=0 then none else l[k-1]?
theorem prvM_s (l:List Mn)(k:Nat){x:Mn}(h:l[k]?=some x):prvM l (k+1)=some x:=by unfold prvM;rw[if_neg (by omega)];exact h
theorem rec_CheckBag_eq (l:List Mn)(hl:l.length≤maxLen):F.rec_CheckBag l=some (chkB l):=by
 have idx:F.slices_IndexFunc_api_Many_api_Many_rec_CheckBag_1 l=some (if(l.any fun m=> !okT m.1.2)=true then((l.findIdx fun m=> !okT m.1.2:Nat):Int)else-1):=by
  have:=A.lp0 l (fun f y=>F.slices_IndexFunc_api_Many_api_Many_rec_CheckBag_1_l1 l f y) (fun k r=>some (if(r.any fun m=> !okT m.1.2)=true then((k+r.findIdx fun m=> !okT m.1.2:Nat):Int)else-1))
   (fun f=>by rw[F.slices_IndexFunc_api_Many_api_Many_rec_CheckBag_1_l1,if_neg (by omega)];rfl)
   (fun f k x hx hk ih=>by
    rw[F.slices_IndexFunc_api_Many_api_Many_rec_CheckBag_1_l1,if_pos (by omega),A.ixn hx,Option.bind_some,F.rec_CheckBag_1]
    show(Option.bind (Option.bind (F.rec_Check x.1) _) _)=_
    rw[rec_Check_eq,Option.bind_some,Option.bind_some]
    cases ho:okT x.1.2 with
    |true=>
     rw[if_pos rfl,if_neg (by decide),A.gd1 ⟨by omega,by unfold maxLen at hl;omega⟩,ih,List.any_cons,List.findIdx_cons,ho]
     simp only[Bool.not_true,Bool.false_or,cond_false]
     congr 2
     apply congrArg
     omega
    |false=>
     rw[if_pos (by decide),List.any_cons,List.findIdx_cons,ho];simp)
   (by have:=FU_big;unfold maxLen at hl;omega)
  rw[F.slices_IndexFunc_api_Many_api_Many_rec_CheckBag_1]
  rw[this];simp
 rw[F.rec_CheckBag,F.slices_ContainsFunc_api_Many_api_Many_rec_CheckBag_1,idx,Option.bind_some,Option.bind_some]
 unfold chkB
 by_cases h:(l.any fun m=> !okT m.1.2)=true
 ·rw[if_pos h,if_pos h,if_pos (decide_eq_true (by omega))]
 ·rw[if_neg h,if_neg h,if_neg (by simp)]
  exact A.lp0 l (fun f y=>F.rec_CheckBag_l2 l f y) (fun k r=>some (if bagF (prvM l k) r=true then 0 else 51))
   (fun f=>by rw[F.rec_CheckBag_l2,if_neg (by omega)];cases prvM l l.length<;>rfl)
   (fun f k x hx hk ih=>by
    rw[F.rec_CheckBag_l2,if_pos (by omega),A.ixn hx,Option.bind_some]
    rw[prvM_s l k hx]at ih
    have nx: ∀b:Bool,F.rec_CheckBag_j1 (F.rec_CheckBag_l2 l f) (k:Int) b=some (if(!b&&bagF (some x) (l.drop (k+1)))=true then 0 else 51):=fun b=>by
     rw[F.rec_CheckBag_j1]
     cases b with
     |true=>rw[if_pos rfl];rfl
     |false=>rw[if_neg (by simp),A.gd1 ⟨by omega,by unfold maxLen at hl;omega⟩,ih];rfl
    have hb:(bif decide (x.2<1)then true else decide ((1048576:Int)<x.2))= !(decide (1≤x.2)&&decide (x.2≤1048576)):=by
     by_cases h1:x.2<1<;>by_cases h2:(1048576:Int)<x.2<;>simp[h1,h2]<;>omega
    rw[hb]
    by_cases hk0:k=0
    ·subst hk0
     show _=some (if(decide (1≤x.2)&&decide (x.2≤1048576)&&bagF (some x) (l.drop (0+1)))=true then 0 else 51)
     cases he:(decide (1≤x.2)&&decide (x.2≤1048576))with
     |false=>rw[Bool.not_false,if_pos rfl,nx];rfl
     |true=>rw[Bool.not_true,if_neg (by simp),if_neg (by omega),nx];rfl
    ·have hp:prvM l k=l[k-1]?:=by unfold prvM;rw[if_neg hk0]
     obtain⟨p,hpp⟩: ∃p,l[k-1]?=some p:=⟨_,List.getElem?_eq_getElem (by omega)⟩
     rw[hp,hpp]
     show _=some (if(decide (1≤x.2)&&decide (x.2≤1048576)&&rl p.1 x.1&&bagF (some x) (l.drop (k+1)))=true then 0 else 51)
     cases he:(decide (1≤x.2)&&decide (x.2≤1048576))with
     |false=>rw[Bool.not_false,if_pos rfl,nx];rfl
     |true=>
      rw[Bool.not_true,if_neg (by simp),if_pos (by omega),A.gd1 ⟨by omega,by unfold maxLen at hl;omega⟩,show(k:Int)-1=((k-1:Nat):Int) by omega,A.ixn hpp,Option.bind_some]
      show(F.rec_Compare p.1 x.1).bind _=_
      rw[rec_Compare_eq,Option.bind_some,nx,cR_ge,Bool.not_not,Bool.true_and])
   (by have:=FU_big;unfold maxLen at hl;omega)
theorem times_eq (g:List Mn)(hl:g.length≤1000)(h1: ∀m,m∈g→1≤m.2)(h2: ∀m,m∈g→m.2≤1048576):F.oper_times g=some (cntM g)∧0≤cntM g∧cntM g≤g.length*1048576:=by
 have rng: ∀(l:List Mn) (v:Int),(∀m,m∈l→1≤m.2)→(∀m,m∈l→m.2≤1048576)→v≤l.foldl (fun v m=>v+m.2) v∧l.foldl (fun v m=>v+m.2) v≤v+l.length*1048576:=by
  intro l
  induction l with
  |nil=>intro v _ _;simp
  |cons x l ih=>
   intro v h1 h2
   have:=ih (v+x.2) (fun m hm=>h1 m (List.mem_cons_of_mem _ hm)) (fun m hm=>h2 m (List.mem_cons_of_mem _ hm))
   have a1:=h1 x (List.mem_cons_self ..)
   have a2:=h2 x (List.mem_cons_self ..)
   rw[List.foldl_cons,List.length_cons]
   omega
 refine⟨?_,(rng g 0 h1 h2).1,by have:=(rng g 0 h1 h2).2;unfold cntM;omega⟩
 exact A.lp g (fun f s y=>F.oper_times_l1 g f s y) (fun k r s=>some (r.foldl (fun v m=>v+m.2) s)) (fun k s=>0≤s∧s≤k*1048576)
  (fun f s hp=>by show F.oper_times_l1 g (f+1) s _=_;rw[F.oper_times_l1,if_neg (by omega)];rfl)
  (fun f s k x hx hk hp ih=>by
   have a1:=h1 x (List.mem_of_getElem? hx)
   have a2:=h2 x (List.mem_of_getElem? hx)
   show F.oper_times_l1 g (f+1) s _=_
   rw[F.oper_times_l1,if_pos (by omega),A.ixn hx,Option.bind_some,A.gd1 ⟨by omega,by omega⟩,A.gd1 ⟨by omega,by omega⟩]
   exact ih (s+x.2) ⟨by omega,by omega⟩)
  (by have:=FU_big;omega) 0 ⟨by omega,by omega⟩
theorem number_l (f:Nat): ∀(at_ n:Nat) (xs:List UInt8),n<10^at_→1≤at_→at_≤20→at_<f→xs.length=20→n<9223372036854775808→F.oper_number_l1 f xs (n:Int) (at_:Int)=some ⟨(dg at_ n++xs.drop at_).toArray⟩:=by
 induction f with
 |zero=>intro a n xs _ _ _ h;omega
 |succ f ih=>
  intro a n xs hn h1 h20 hf hx hb
  obtain⟨a,rfl⟩: ∃b,a=b+1:=⟨a-1,by omega⟩
  have tm:Int.tmod (n:Int) 10=((n%10:Nat):Int):=by rw[Int.tmod_eq_emod_of_nonneg (by omega)];rfl
  have td:Int.tdiv (n:Int) 10=((n / 10:Nat):Int):=by rw[Int.tdiv_eq_ediv_of_nonneg (by omega)];rfl
  have eb:A.b8 (48+((n%10:Nat):Int))=UInt8.ofNat (48+n%10):=by
   unfold A.b8
   congr 1
   omega
  have e1:((a+1:Nat):Int)-1=(a:Int):=by omega
  rw[F.oper_number_l1,A.gd1 ⟨by omega,by omega⟩,tm,A.gd1 ⟨by decide,by omega,by omega⟩,A.gd1 hx.symm,e1,A.ixn (x:=xs[a]) (List.getElem?_eq_getElem (by omega)),Option.bind_some,td,A.gd1 ⟨by decide,by omega,by omega⟩,eb,Int.toNat_natCast]
  have hd:(xs.set a (UInt8.ofNat (48+n%10))).drop a=UInt8.ofNat (48+n%10)::xs.drop (a+1):=by
   rw[A.dropx (k:=a) (x:=UInt8.ofNat (48+n%10)) (by rw[List.getElem?_set_self (by omega)]),List.drop_set_of_lt (by omega)]
  by_cases h0:n / 10=0
  ·rw[if_pos (by omega),A.gd1 (by rw[List.length_set];exact hx.symm),A.gd1 ⟨by omega,by rw[List.length_set];omega⟩,hd,dg,if_pos h0];rfl
  ·have ha:1≤a:=by
    cases a with
    |zero=>simp at hn;omega
    |succ a=>omega
   have hp:n / 10<10^a:=by rw[Nat.div_lt_iff_lt_mul (by omega)];rw[Nat.pow_succ]at hn;exact hn
   rw[if_neg (by omega),ih a (n / 10) _ hp ha (by omega) (by omega) (by rw[List.length_set];exact hx) (by omega),hd,dg,if_neg h0]
   simp
theorem number_dec (n:Int)(h0:0≤n)(h1:n<9223372036854775808):F.oper_number n=some (dec n):=by
 obtain⟨k,rfl⟩: ∃k:Nat,n=k:=⟨n.toNat,by omega⟩
 have hk:k<10^20:=Nat.lt_of_lt_of_le (show k<9223372036854775808 by omega) (by decide)
 have:=number_l A.FU 20 k (List.replicate 20 (0:UInt8)) hk (by omega) (by omega) (by have:=FU_big;omega) (by simp) (by omega)
 rw[F.oper_number]
 refine this.trans ?_
 unfold dec
 rw[Int.toNat_natCast]
 simp
theorem Keys_ok {l:List Mn}(h:Bag l)(hl:l.length≤1000):F.oper_Keys l=some l:=by
 rw[F.oper_Keys,rec_CheckBag_eq l (by unfold maxLen;omega),Option.bind_some,chkB_iff.2 h,if_neg (by simp),F.oper_Keys_j1,F.slices_Clone_api_Many_api_Many,A.gd1 (by simp;omega),Option.bind_some];rfl
theorem grp_run: ∀(g:List Mn) (m:Mn) (r:List Mn),(∀x,x∈g→x.1.1=m.1.1)→(∀x,r.head?=some x→x.1.1≠m.1.1)→grp (m::g++r)=(m.1.1,m::g)::grp r
 | [],m,r,_,hr=>by
  rw[List.singleton_append,grp_cons]
  rcases grp_head r with⟨rfl,h⟩|⟨m',t,g',r',rfl,h⟩
  ·rw[h]
  ·rw[h]
   simp only[if_neg (fun e:m.1.1=m'.1.1=>hr m' rfl e.symm)]
 |x::g,m,r,hg,hr=>by
  have hx:=hg x (List.mem_cons_self ..)
  rw[List.cons_append,grp_cons,grp_run g x r (fun y hy=>(hg y (List.mem_cons_of_mem _ hy)).trans hx.symm) (fun y hy=>by rw[hx];exact hr y hy)]
  simp only[hx,if_true]
theorem Keys_it (b:List Mn)(hl:b.length≤1000):F.oper_Keys_1_it b=some (grp b):=by
 have hFU:=FU_big
 have main: ∀(n p f:Nat),b.length-p≤n→n<f→F.oper_Keys_1_it_l3 b f (p:Int)=some (grp (b.drop p)):=by
  intro n
  induction n with
  |zero=>
   intro p f hp hf
   obtain⟨f,rfl⟩: ∃f',f=f'+1:=⟨f-1,by omega⟩
   rw[F.oper_Keys_1_it_l3,if_neg (by omega),List.drop_eq_nil_of_le (by omega)];rfl
  |succ n ih=>
   intro p f hp hf
   obtain⟨f,rfl⟩: ∃f',f=f'+1:=⟨f-1,by omega⟩
   rw[F.oper_Keys_1_it_l3]
   by_cases hlt:p<b.length
   ·rw[if_pos (by omega)]
    obtain⟨m,hm⟩: ∃m,b[p]?=some m:=⟨_,List.getElem?_eq_getElem hlt⟩
    have scan: ∀(q t g:Nat),t+q=b.length→p<t→q<g→(∀i,p≤i→i<t→∀y,b[i]?=some y→y.1.1=m.1.1)→F.oper_Keys_1_it_l2 (F.oper_Keys_1_it_l3 b f) b (p:Int) g (t:Int)=some (grp (b.drop p)):=by
     have stop: ∀(t:Nat) (k4:Int→Option (List (Int×List Mn))),p<t→t≤b.length→(∀i,p≤i→i<t→∀y,b[i]?=some y→y.1.1=m.1.1)→(∀x,(b.drop t).head?=some x→x.1.1≠m.1.1)→F.oper_Keys_1_it_j1 (F.oper_Keys_1_it_l3 b f) k4 b (p:Int) (t:Int) false=some (grp (b.drop p)):=by
      intro t k4 hpt htl hall hne
      rw[F.oper_Keys_1_it_j1,if_neg (by simp),A.ixn hm,Option.bind_some,A.gd1 ⟨by omega,by omega,by omega⟩,F.slices_Clone_api_Many_api_Many,Int.toNat_natCast,Int.toNat_natCast,A.gd1 (by simp;omega),Option.bind_some,ih t f (by omega) (by omega)]
      have e1:(b.take t).drop p=m::(b.take t).drop (p+1):=A.dropx (by rw[List.getElem?_take_of_lt hpt];exact hm)
      have e2:b.drop p=(b.take t).drop p++b.drop t:=by
       have h1:=List.take_append_drop t b
       conv=>lhs;rw[←h1]
       rw[List.drop_append_of_le_length (by rw[List.length_take];omega)]
      have:=grp_run ((b.take t).drop (p+1)) m (b.drop t) (fun x hx=>by
       obtain⟨i,hi⟩:=List.getElem?_of_mem hx
       rw[List.getElem?_drop]at hi
       have hi2:p+1+i<(b.take t).length:=(List.getElem?_eq_some_iff.1 hi).1
       rw[List.length_take]at hi2
       rw[List.getElem?_take_of_lt (by omega)]at hi
       exact hall (p+1+i) (by omega) (by omega) x hi) hne
      rw[e2,e1]
      show A.cns _ (some _)=some (grp (m::(b.take t).drop (p+1)++b.drop t))
      rw[this];rfl
     intro q
     induction q with
     |zero=>
      intro t g htq hpt hg hall
      obtain⟨g,rfl⟩: ∃f',g=f'+1:=⟨g-1,by omega⟩
      rw[F.oper_Keys_1_it_l2,if_neg (by omega)]
      exact stop t _ hpt (by omega) hall fun x hx=>by rw[List.drop_eq_nil_of_le (by omega)]at hx;cases hx
     |succ q ihq=>
      intro t g htq hpt hg hall
      obtain⟨g,rfl⟩: ∃f',g=f'+1:=⟨g-1,by omega⟩
      obtain⟨x,hx⟩: ∃m,b[t]?=some m:=⟨_,List.getElem?_eq_getElem (by omega)⟩
      rw[F.oper_Keys_1_it_l2,if_pos (by omega),A.ixn hx,Option.bind_some,A.ixn hm,Option.bind_some]
      by_cases he:x.1.1=m.1.1
      ·rw[decide_eq_true he,F.oper_Keys_1_it_j1,if_pos rfl,A.gd1 ⟨by omega,by omega⟩,show(t:Int)+1=((t+1:Nat):Int) by omega]
       exact ihq (t+1) g (by omega) (by omega) (by omega) fun i h1 h2 y hy=>by
        by_cases hi:i<t
        ·exact hall i h1 hi y hy
        ·obtain rfl:i=t:=by omega
         rw[hx]at hy;rw[←Option.some.inj hy];exact he
      ·rw[decide_eq_false he]
       exact stop t _ hpt (by omega) hall fun y hy=>by
        rw[List.head?_drop,hx]at hy
        rw[←Option.some.inj hy];exact he
    obtain⟨F',hF'⟩: ∃F',A.FU=F'+1:=⟨A.FU-1,by omega⟩
    rw[hF',F.oper_Keys_1_it_l2,if_pos (by omega),A.ixn hm,Option.bind_some,Option.bind_some,decide_eq_true rfl,F.oper_Keys_1_it_j1,if_pos rfl,A.gd1 ⟨by omega,by omega⟩,show(p:Int)+1=((p+1:Nat):Int) by omega]
    exact scan (b.length-(p+1)) (p+1) F' (by omega) (by omega) (by omega) fun i h1 h2 y hy=>by
     obtain rfl:i=p:=by omega
     rw[hm]at hy;rw[←Option.some.inj hy]
   ·rw[if_neg (by omega),List.drop_eq_nil_of_le (by omega)];rfl
 have:=main b.length 0 A.FU (by omega) (by omega)
 rw[F.oper_Keys_1_it]
 exact this
end Go.Proofs.YtbljnlkhebiniaaGreatDoor
end
section
set_option maxRecDepth 20000
set_option linter.unusedVariables false
set_option linter.unusedSimpArgs false
namespace Go.Proofs.YtbljnlkhebiniaaGreatDoor
open Go.RowKit Go.Graph Go.Utf Go.Ent Go.Opr
abbrev Ob:=Nd×List Rc×List (Rc×Int)
theorem grp_len: ∀(l:List Mn),(grp l).length≤l.length
 | []=>Nat.le_refl _
 |m::l=>by
  have:=grp_len l
  rw[grp_cons]
  rcases grp_head l with⟨rfl,h⟩|⟨m',t,g,r,rfl,h⟩
  ·rw[h];simp
  ·rw[h]at this ⊢
   by_cases e:m.1.1=m'.1.1
   ·simp only[if_pos e];simp only[List.length_cons]at this ⊢;omega
   ·simp only[if_neg e];simp only[List.length_cons]at this ⊢;omega
theorem grp_bag {l:List Mn}(h:Bag l){kg:Int×List Mn}(hk:kg∈grp l):Bag kg.2:=by
 rw[grp_oth h.kl hk];exact h.sub List.filter_sublist
theorem grp_size {l:List Mn}(h:KL l){kg:Int×List Mn}(hk:kg∈grp l):kg.2.length≤l.length:=by
 rw[grp_oth h hk];exact List.length_filter_le ..
theorem counts_l (x:Ob)(f:Fun)(b:List Mn): ∀(gs:List (Int×List Mn)) (xs:List Rc),(∀kg,kg∈gs→Bag kg.2∧kg.2.length≤1000)→xs.length+gs.length≤1000000→
  F.oper_teller_counts_l1 x gs xs x.1.1 x.1.2.1 x.1.2.2.2.1.1 x.1.2.2.2.1.2.1 x.1.2.2.2.1.2.2 x.1.2.2.2.2.1 x.1.2.2.2.2.2.1 x.1.2.2.2.2.2.2=some (x.1,xs++gs.flatMap (outG 7 f b),x.2.2)
 | [],xs,_,_=>by rw[F.oper_teller_counts_l1];simp
 |kg::gs,xs,h,hl=>by
  obtain⟨h1,h2⟩:=h kg (List.mem_cons_self ..)
  obtain⟨t1,t2,t3⟩:=times_eq kg.2 h2 h1.one h1.top
  rw[List.length_cons]at hl
  rw[F.oper_teller_counts_l1,t1,Option.bind_some,number_dec _ t2 (by omega),Option.bind_some,A.gd1 (by simp only[List.length_cons,List.length_nil];omega),counts_l x f b gs _ (fun kg hk=>h kg (List.mem_cons_of_mem _ hk)) (by simp only[List.length_append,List.length_cons,List.length_nil];omega),List.flatMap_cons]
  simp[outG]
theorem counts_eq (x:Ob)(f:Fun)(a b:List Mn)(ha:Bag a)(hl:a.length≤1000)(hx:x.2.1.length≤100000):F.oper_teller_counts x a=some (x.1,x.2.1++(grp a).flatMap (outG 7 f b),x.2.2):=by
 have:=grp_len a
 rw[F.oper_teller_counts,Keys_ok ha hl,Option.bind_some,Keys_it a hl,Option.bind_some]
 exact counts_l x f b _ _ (fun kg hk=>⟨grp_bag ha hk,Nat.le_trans (grp_size ha.kl hk) hl⟩) (by omega)
theorem runes_len (s:ByteArray)(hs:s.size≤1099511627776):F.fn_runes s=some ((cks s.data.toList).map (·.2))∧(((cks s.data.toList).map (·.2)).length:Int)=rns s:=⟨runes_F s hs,by rw[List.length_map];rfl⟩
theorem fn_ahead_eq (k:Int)(a b:ByteArray)(ha:a.size≤1099511627776)(hb:b.size≤1099511627776):F.fn_ahead k a b=some (aheadP k a b):=by
 obtain⟨r1,r2⟩:=runes_len a ha
 obtain⟨r3,r4⟩:=runes_len b hb
 rw[F.fn_ahead]
 unfold aheadP
 by_cases h1:k=31
 ·rw[if_pos h1,if_pos h1];rfl
 ·rw[if_neg h1,if_neg h1]
  by_cases h2:k=32
  ·rw[if_pos h2,if_pos h2,tl_eq];rfl
  ·rw[if_neg h2,if_neg h2,r1,Option.bind_some,r3,Option.bind_some,r2,r4]
   by_cases h3:rns b<rns a
   ·rw[if_pos h3,decide_eq_true h3];rfl
   ·rw[if_neg h3,decide_eq_false h3,Bool.false_or]
    show some (bif decide (rns a=rns b)then bl a b else false)=_
    cases decide (rns a=rns b)<;>rfl
theorem cut_eq (s:ByteArray)(hs:s.size≤9223372036854775807):F.rec_Cut s 64=some (cut s):=rec_Cut_eq s 64 hs
theorem red_eq (f:Fun)(g:List Mn)(hf:chk 8 f=0)(hs:f.2.2.size≤1000)(hg:Bag g)(hl:g.length≤1000)(hne:g≠[])(k:Int)(hk: ∀m,m∈g→m.1.1=k):F.fn_Reduce f g=some (red f.1 g,0):=by
 rw[F.fn_Reduce]
 show(F.fn_Check 8 f).bind _=_
 rw[fn_Check_eq 8 f (by omega),Option.bind_some,hf,if_neg (by simp),rec_CheckBag_eq g (by unfold maxLen;omega),Option.bind_some,chkB_iff.2 hg,if_neg (by simp)]
 cases g with
 |nil=>exact absurd rfl hne
 |cons m g=>
  have e0:A.ix (m::g) 0=some m:=rfl
  rw[if_neg (by simp only[List.length_cons];omega),e0,Option.bind_some,A.gd1 ⟨by omega,by simp⟩]
  have hd:List.drop ((1:Int).toNat) (m::g)=g:=rfl
  have hm:=hk m (List.mem_cons_self ..)
  have txt: ∀x,x∈m::g→x.1.2.size≤64:=fun x hx=>(okT_iff.1 (hg.txt x hx)).1
  have fin: ∀y:ByteArray,y.size≤100000→(F.rec_Cut y 64).bind (fun r37=>some ((m.1.1,r37),(0:Int)))=some ((m.1.1,cut y),0):=fun y hy=>by rw[cut_eq y (by omega)];rfl
  exact A.lp g (fun n (s:ByteArray) y=>F.fn_Reduce_l2 f (m::g) n m.1.1 s y) (fun k r s=>some ((m.1.1,cut (redT f.1 s r)),0)) (fun k s=>s.size≤64*(k+1))
   (fun n s hp=>by
    show F.fn_Reduce_l2 f (m::g) (n+1) m.1.1 s _=_
    rw[F.fn_Reduce_l2,hd,if_neg (by omega)]
    rw[List.length_cons]at hl
    exact fin s (by omega))
   (fun n s j x hx hj hp ih=>by
    have hxm:=List.mem_of_getElem? hx
    have hx64:=txt x (List.mem_cons_of_mem _ hxm)
    rw[List.length_cons]at hl
    have hkx:x.1.1=m.1.1:=(hk x (List.mem_cons_of_mem _ hxm)).trans hm.symm
    show F.fn_Reduce_l2 f (m::g) (n+1) m.1.1 s _=some ((m.1.1,cut (redT f.1 (if f.1=34 then s++x.1.2 else if aheadP f.1 x.1.2 s=true then x.1.2 else s) (g.drop (j+1)))),0)
    have nx: ∀y:ByteArray,y.size≤64*(j+1+1)→F.fn_Reduce_j1 (F.fn_Reduce_l2 f (m::g) n) m.1.1 (j:Int) y=some ((m.1.1,cut (redT f.1 y (g.drop (j+1)))),0):=fun y hy=>by
     rw[F.fn_Reduce_j1,A.gd1 ⟨by omega,by omega⟩]
     exact ih y hy
    rw[F.fn_Reduce_l2,hd,if_pos (by omega),A.ixn hx,Option.bind_some,if_neg (fun h=>h hkx)]
    by_cases h34:f.1=34
    ·rw[if_pos h34,if_pos h34,A.gd1 (by omega)]
     exact nx _ (by rw[ByteArray.size_append];omega)
    ·rw[if_neg h34,if_neg h34,fn_ahead_eq _ _ _ (by omega) (by omega),Option.bind_some]
     by_cases ha:aheadP f.1 x.1.2 s=true
     ·rw[if_pos ha,if_pos ha];exact nx _ (by omega)
     ·rw[if_neg ha,if_neg ha];exact nx _ (by omega))
   (by have:=FU_big;rw[List.length_cons]at hl;omega) m.1.2 (by have:=txt m (List.mem_cons_self ..);omega)
theorem reduces_l (x:Ob)(b:List Mn)(hf:chk 8 x.1.2.2.2.1=0)(hs:x.1.2.2.2.1.2.2.size≤1000): ∀(gs:List (Int×List Mn)) (xs:List Rc),(∀kg,kg∈gs→Bag kg.2∧kg.2.length≤1000∧kg.2≠[]∧∀m,m∈kg.2→m.1.1=kg.1)→xs.length+gs.length≤1000000→
  F.oper_teller_reduces_l1 x gs xs x.1.1 x.1.2.1 x.1.2.2.2.1.1 x.1.2.2.2.1.2.1 x.1.2.2.2.1.2.2 x.1.2.2.2.2.1 x.1.2.2.2.2.2.1 x.1.2.2.2.2.2.2=some (x.1,xs++gs.flatMap (outG 8 x.1.2.2.2.1 b),x.2.2)
 | [],xs,_,_=>by rw[F.oper_teller_reduces_l1];simp
 |kg::gs,xs,h,hl=>by
  obtain⟨h1,h2,h3,h4⟩:=h kg (List.mem_cons_self ..)
  rw[List.length_cons]at hl
  rw[F.oper_teller_reduces_l1]
  show(F.fn_Reduce x.1.2.2.2.1 kg.2).bind _=_
  rw[red_eq _ _ hf hs h1 h2 h3 kg.1 h4,Option.bind_some,if_pos rfl,A.gd1 (by simp only[List.length_cons,List.length_nil];omega),reduces_l x b hf hs gs _ (fun kg hk=>h kg (List.mem_cons_of_mem _ hk)) (by simp only[List.length_append,List.length_cons,List.length_nil];omega),List.flatMap_cons]
  simp[outG]
theorem reduces_eq (x:Ob)(a b:List Mn)(hf:chk 8 x.1.2.2.2.1=0)(hs:x.1.2.2.2.1.2.2.size≤1000)(ha:Bag a)(hl:a.length≤1000)(hx:x.2.1.length≤100000):F.oper_teller_reduces x a=some (x.1,x.2.1++(grp a).flatMap (outG 8 x.1.2.2.2.1 b),x.2.2):=by
 have:=grp_len a
 rw[F.oper_teller_reduces,Keys_ok ha hl,Option.bind_some,Keys_it a hl,Option.bind_some]
 exact reduces_l x b hf hs _ _ (fun kg hk=>⟨grp_bag ha hk,Nat.le_trans (grp_size ha.kl hk) hl,grp_all hk⟩) (by omega)
theorem oth_map (b:List Mn)(hb:KL b): ∀k,Z.mget ([]:List Mn) ((grp b).foldl (fun m kg=>Z.mins m kg.1 kg.2) []) k=oth b k:=by
 have main: ∀(gs:List (Int×List Mn)) (m:List (Int×List Mn)),(∀kg,kg∈gs→kg.2=oth b kg.1)→(∀k,Z.mhas m k=true→Z.mget ([]:List Mn) m k=oth b k)→∀k,(Z.mhas m k=true∨∃kg,kg∈gs∧kg.1=k)→Z.mget ([]:List Mn) (gs.foldl (fun m kg=>Z.mins m kg.1 kg.2) m) k=oth b k:=by
  intro gs
  induction gs with
  |nil=>intro m _ h2 k h3;exact h2 k (h3.resolve_right (by simp))
  |cons x gs ih=>
   intro m h1 h2 k h3
   have hx:=h1 x (List.mem_cons_self ..)
   refine ih (Z.mins m x.1 x.2) (fun kg hk=>h1 kg (List.mem_cons_of_mem _ hk)) (fun k hk=>?_) k ?_
   ·rw[Z.mget_ins]
    split
    ·rename_i e;rw[e,hx]
    ·rename_i e
     rw[Z.mhas_ins,decide_eq_false e,Bool.false_or]at hk
     exact h2 k hk
   ·rw[Z.mhas_ins]
    rcases h3 with h3|⟨kg,hk,rfl⟩
    ·left;rw[h3,Bool.or_true]
    ·rcases List.mem_cons.1 hk with rfl|hk
     ·left;rw[decide_eq_true rfl,Bool.true_or]
     ·right;exact⟨kg,hk,rfl⟩
 intro k
 by_cases h: ∃kg,kg∈grp b∧kg.1=k
 ·exact main (grp b) [] (fun kg hk=>grp_oth hb hk) (fun k hk=>by cases hk) k (.inr h)
 ·have h0:oth b k=[]:=by
   rw[List.filter_eq_nil_iff]
   intro m hm
   simp only[decide_eq_true_eq]
   intro e
   rw[←grp_flat b]at hm
   obtain⟨kg,hk,hmk⟩:=List.mem_flatMap.1 hm
   exact h ⟨kg,hk,((grp_all hk).2 m hmk).symm.trans e⟩
  rw[h0]
  refine Z.mget_none ?_
  have nokey: ∀(gs:List (Int×List Mn)) (m:List (Int×List Mn)),Z.mhas m k=false→(∀kg,kg∈gs→kg.1≠k)→Z.mhas (gs.foldl (fun m kg=>Z.mins m kg.1 kg.2) m) k=false:=by
   intro gs
   induction gs with
   |nil=>intro m h _;exact h
   |cons x gs ih=>
    intro m h1 h2
    refine ih _ ?_ fun kg hk=>h2 kg (List.mem_cons_of_mem _ hk)
    rw[Z.mhas_ins,h1,decide_eq_false (fun e=>h2 x (List.mem_cons_self ..) e.symm)];rfl
  exact nokey _ _ rfl fun kg hk e=>h ⟨kg,hk,e⟩
theorem joins_l (x:Ob)(m23:List (Int×List Mn))(f:Fun)(b:List Mn)(hm: ∀k,Z.mget ([]:List Mn) m23 k=oth b k)(hb:Bag b)(hbl:b.length≤1000):
  ∀(gs:List (Int×List Mn)) (xs:List Rc),(∀kg,kg∈gs→Bag kg.2)→xs.length+(gs.flatMap (·.2)).length*1000≤10000000→(gs.flatMap (·.2)).length≤1000→
  F.oper_teller_joins_l3 x m23 gs xs x.1.1 x.1.2.1 x.1.2.2.2.1.1 x.1.2.2.2.1.2.1 x.1.2.2.2.1.2.2 x.1.2.2.2.2.1 x.1.2.2.2.2.2.1 x.1.2.2.2.2.2.2=some (x.1,xs++gs.flatMap (outG 9 f b),x.2.2)
 | [],xs,_,_,_=>by rw[F.oper_teller_joins_l3];simp
 |kg::gs,xs,h,hl,hl2=>by
  have h1:=h kg (List.mem_cons_self ..)
  have hFU:=FU_big
  rw[List.flatMap_cons,List.length_append]at hl hl2
  have ob:(oth b kg.1).length≤1000:=Nat.le_trans (List.length_filter_le ..) hbl
  have otx: ∀y,y∈oth b kg.1→y.1.2.size≤64:=fun y hy=>(okT_iff.1 (hb.txt y (List.mem_filter.1 hy).1)).1
  rw[F.oper_teller_joins_l3]
  have nil0: ∀xs:List Rc,xs.length+(gs.flatMap (·.2)).length*1000≤10000000→F.oper_teller_joins_l3 x m23 gs xs x.1.1 x.1.2.1 x.1.2.2.2.1.1 x.1.2.2.2.1.2.1 x.1.2.2.2.1.2.2 x.1.2.2.2.2.1 x.1.2.2.2.2.2.1 x.1.2.2.2.2.2.2=some (x.1,xs++gs.flatMap (outG 9 f b),x.2.2):=fun xs hx=>
   joins_l x m23 f b hm hb hbl gs xs (fun kg hk=>h kg (List.mem_cons_of_mem _ hk)) hx (by omega)
  refine(A.lp kg.2 (fun n (s:List Rc) y=>F.oper_teller_joins_l2 (F.oper_teller_joins_l3 x m23 gs) m23 kg n s x.1.1 x.1.2.1 x.1.2.2.2.1.1 x.1.2.2.2.1.2.1 x.1.2.2.2.1.2.2 x.1.2.2.2.2.1 x.1.2.2.2.2.2.1 x.1.2.2.2.2.2.2 y)
   (fun j r s=>some (x.1,(s++joinsG kg.1 r (oth b kg.1))++gs.flatMap (outG 9 f b),x.2.2)) (fun j s=>s.length≤xs.length+1000*j)
   (fun n s hp=>by
    show F.oper_teller_joins_l2 _ m23 kg (n+1) s _ _ _ _ _ _ _ _ _=_
    rw[F.oper_teller_joins_l2,if_neg (by omega),nil0 s (by omega)]
    simp[joinsG])
   (fun n s j p hpj hj hp ih=>by
    have p64:=(okT_iff.1 (h1.txt p (List.mem_of_getElem? hpj))).1
    show F.oper_teller_joins_l2 _ m23 kg (n+1) s _ _ _ _ _ _ _ _ _=_
    rw[F.oper_teller_joins_l2,if_pos (by omega),A.ixn hpj,Option.bind_some,hm,A.lt]
    refine(A.lp (oth b kg.1) (fun n' (s:List Rc) y=>F.oper_teller_joins_l1 (F.oper_teller_joins_l2 (F.oper_teller_joins_l3 x m23 gs) m23 kg n) kg (j:Int) p (oth b kg.1) n' s x.1.1 x.1.2.1 x.1.2.2.2.1.1 x.1.2.2.2.1.2.1 x.1.2.2.2.1.2.2 x.1.2.2.2.2.1 x.1.2.2.2.2.2.1 x.1.2.2.2.2.2.2 y)
     (fun i r s'=>some (x.1,(s'++(r.map fun q=>(kg.1,cut ((p.1.2++ByteArray.mk #[43])++q.1.2))))++joinsG kg.1 (kg.2.drop (j+1)) (oth b kg.1)++gs.flatMap (outG 9 f b),x.2.2)) (fun i s'=>s'.length≤xs.length+1000*j+i)
     (fun n' s' hp'=>by
      show F.oper_teller_joins_l1 _ kg (j:Int) p (oth b kg.1) (n'+1) s' _ _ _ _ _ _ _ _ _=_
      rw[F.oper_teller_joins_l1,if_neg (by omega),A.gd1 ⟨by omega,by omega⟩]
      refine(ih s' (by omega)).trans ?_
      simp)
     (fun n' s' i q hq hi hp' ih'=>by
      have q64:=otx q (List.mem_of_getElem? hq)
      have e43:(ByteArray.mk #[43]).size=1:=rfl
      show F.oper_teller_joins_l1 _ kg (j:Int) p (oth b kg.1) (n'+1) s' _ _ _ _ _ _ _ _ _=_
      rw[F.oper_teller_joins_l1,if_pos (by omega),A.ixn hq,Option.bind_some,A.gd1 ⟨by omega,by rw[ByteArray.size_append];omega⟩,cut_eq _ (by rw[ByteArray.size_append,ByteArray.size_append];omega),Option.bind_some,A.gd1 (by simp only[List.length_cons,List.length_nil];omega),A.gd1 ⟨by omega,by omega⟩]
      refine(ih' (s'++[(kg.1,cut ((p.1.2++ByteArray.mk #[43])++q.1.2))]) (by simp only[List.length_append,List.length_cons,List.length_nil];omega)).trans ?_
      simp)
     (by omega) s (by omega)).trans ?_
    simp[joinsG])
   (by omega) xs (by omega)).trans ?_
  rw[List.flatMap_cons]
  simp[outG]
theorem joins_eq (x:Ob)(f:Fun)(a b:List Mn)(ha:Bag a)(hl:a.length≤1000)(hb:Bag b)(hbl:b.length≤1000)(hx:x.2.1.length≤100000):F.oper_teller_joins x a b=some (x.1,x.2.1++(grp a).flatMap (outG 9 f b),x.2.2):=by
 have ls: ∀(gs:List (Int×List Mn)) (m:List (Int×List Mn)),F.oper_teller_joins_l4 x a gs m=F.oper_teller_joins_l4 x a [] (gs.foldl (fun m kg=>Z.mins m kg.1 kg.2) m):=by
  intro gs
  induction gs with
  |nil=>intro m;rfl
  |cons y gs ih=>intro m;exact ih (Z.mins m y.1 y.2)
 have:=grp_flat a
 rw[F.oper_teller_joins,Keys_ok hb hbl,Option.bind_some,Keys_it b hbl,Option.bind_some,ls,F.oper_teller_joins_l4,Keys_ok ha hl,Option.bind_some,Keys_it a hl,Option.bind_some]
 exact joins_l x _ f b (oth_map b hb.kl) hb hbl _ _ (fun kg hk=>grp_bag ha hk) (by rw[this];omega) (by rw[this];omega)
end Go.Proofs.YtbljnlkhebiniaaGreatDoor
end
section
set_option maxRecDepth 20000
set_option linter.unusedVariables false
set_option linter.unusedSimpArgs false
namespace Go.A
theorem dem_all {α β γ:Type}[DecidableEq γ](m:List α)(g:α→β)(L:Nat→List Nat→List β→Option γ)(E:List β→Option γ)(S:α→List β→Option γ→Option γ)(r:γ)
  (hL: ∀f sn xs,L (f+1) sn xs=dem m sn (E xs) fun i p=>S p xs (L f (i::sn) (xs++[g p])))
  (hS: ∀p xs o,p∈m→xs.length<m.length→S p xs o=o)
  (hE: ∀ys,ys.Perm (m.map g)→E ys=some r) (hm:m.length<FU):L FU [] []=some r:=by
 have main: ∀(f:Nat) (sn:List Nat) (xs:List β),sn.Nodup→(∀i,i∈sn→i<m.length)→m.length<f+sn.length→xs.length=sn.length→xs.Perm ((sn.filterMap fun i=>m[i]?).map g)→L f sn xs=some r:=by
  intro f
  induction f with
  |zero=>intro sn xs h1 h2 h3;have:=seen_lt h1 h2;omega
  |succ f ih=>
   intro sn xs h1 h2 h3 h4 h5
   have hsl:=seen_lt h1 h2
   rw[hL]
   have dof: ∀{e:Option γ} {k:Nat→α→Option γ},((∀i,i<m.length→i∈sn)→e=some r)→(∀i p,m[i]?=some p→i∉sn→k i p=some r)→dem m sn e k=some r:=by
    intro e k h1 h2
    unfold dem
    have hmem: ∀i,i∈(List.range m.length).filter (fun i=> !(sn.contains i))↔i<m.length∧i∉sn:=fun i=>by
     rw[List.mem_filter,List.mem_range];simp
    split
    ·rename_i hl
     rw[hl]at hmem
     exact h1 fun i hi=>Classical.byContradiction fun hn=>by have:=(hmem i).2 ⟨hi,hn⟩;cases this
    ·rename_i i js hl
     rw[hl]at hmem
     have hi:=(hmem i).1 (List.mem_cons_self ..)
     rw[List.getElem?_eq_getElem hi.1,Option.bind_some,h2 i _ (List.getElem?_eq_getElem hi.1) hi.2,if_pos]
     rw[List.all_eq_true]
     intro j hj
     have hj:=(hmem j).1 (List.mem_cons_of_mem _ hj)
     rw[List.getElem?_eq_getElem hj.1,Option.bind_some,h2 j _ (List.getElem?_eq_getElem hj.1) hj.2]
     exact decide_eq_true rfl
   refine dof (fun hall=>hE xs (h5.trans ?_)) fun i p hp hi=>?_
   ·refine List.Perm.map g ?_
    have hp:sn.Perm (List.range m.length):=by
     refine(List.perm_ext_iff_of_nodup h1 List.nodup_range).2 fun i=>?_
     rw[List.mem_range];exact⟨h2 i,hall i⟩
    refine(hp.filterMap _).trans ?_
    have:(List.range m.length).filterMap (fun i=>m[i]?)=m:=by
     have e:(List.range m.length).filterMap (fun i=>m[i]?)=(List.range m.length).pmap (fun i h=>m[i]'h) (fun i h=>List.mem_range.1 h):=by
      have: ∀(l:List Nat) (h: ∀i,i∈l→i<m.length),l.filterMap (fun i=>m[i]?)=l.pmap (fun i h=>m[i]'h) h:=by
       intro l
       induction l with
       |nil=>intro _;rfl
       |cons i l ih=>intro h;rw[List.filterMap_cons,List.getElem?_eq_getElem (h i (List.mem_cons_self ..)),List.pmap];simp only[];rw[ih fun j hj=>h j (List.mem_cons_of_mem _ hj)]
      exact this _ _
     rw[e];exact List.ext_getElem (by simp) fun k h1 h2=>by simp
    rw[this]
   ·have hlt:=(List.getElem?_eq_some_iff.1 hp).1
    have hsn:(i::sn).Nodup:=List.nodup_cons.2 ⟨hi,h1⟩
    have hsb: ∀j,j∈i::sn→j<m.length:=fun j hj=>(List.mem_cons.1 hj).elim (fun e=>e▸hlt) (h2 j)
    have hsl2:=seen_lt hsn hsb
    rw[List.length_cons]at hsl2
    rw[hS p xs _ (List.mem_of_getElem? hp) (by omega)]
    refine ih _ _ hsn hsb (by rw[List.length_cons];omega) (by rw[List.length_append,h4];rfl) ?_
    rw[List.filterMap_cons,hp]
    simp only[List.map_cons]
    exact(List.perm_append_comm (l₁:=xs) (l₂:=[g p])).trans (h5.cons (g p))
 exact main FU [] [] List.nodup_nil (by simp) (by simpa using hm) rfl (List.Perm.refl _)
end Go.A
namespace Go.Proofs.YtbljnlkhebiniaaGreatDoor
open Go.RowKit Go.Graph Go.Utf Go.Ent Go.Opr
theorem map_mem {m:List (Rc×Int)}(hn:(m.map Prod.fst).Nodup)(k:Rc)(x:Int):(k,x)∈m↔Z.mhas m k=true∧Z.mget (0:Int) m k=x:=by
 constructor
 ·intro h
  obtain⟨i,hi⟩:=List.getElem?_of_mem h
  obtain⟨h1,h2⟩:=Z.mget_get (z:=(0:Int)) hn hi
  exact⟨h2,h1⟩
 ·rintro⟨h1,rfl⟩
  exact Z.mget_mem h1
structure Rel (id:Int) (m:List (Rc×Int)) (st:List En):Prop where
 nd:(m.map Prod.fst).Nodup
 sk:SK kr st
 idn: ∀e,e∈st→e.1=id
 fwd: ∀e,e∈st→(kr e,num e)∈m
 back: ∀p,p∈m→((id,p.1.1,p.1.2,p.2):En)∈st
theorem Rel.nil (id:Int):Rel id [] []:=⟨by simp,List.Pairwise.nil,by simp,by simp,by simp⟩
theorem Rel.get {id:Int}{m:List (Rc×Int)}{st:List En}(h:Rel id m st)(r:Rc):Z.mget (0:Int) m r=vE st r:=by
 cases hh:Z.mhas m r with
 |true=>
  have h1:=h.back _ (Z.mget_mem (z:=(0:Int)) hh)
  have h2:=vE_mem h.sk h1
  exact h2.symm
 |false=>
  rw[Z.mget_none hh]
  refine(vE_none fun e he e2=>?_).symm
  have:=((map_mem h.nd _ _).1 (h.fwd e he)).1
  rw[e2,hh]at this;cases this
theorem Rel.ins {id:Int}{m:List (Rc×Int)}{st:List En}(h:Rel id m st)(r:Rc)(v:Int):Rel id (Z.mins m r v) (ins kr (id,r.1,r.2,v) st):=by
 have nd:=Z.mins_nodup h.nd r v
 refine⟨nd,ins_sk h.sk,fun e he=>?_,fun e he=>?_,fun p hp=>?_⟩
 ·rcases(ins_mem h.sk).1 he with rfl|⟨he,_⟩
  ·rfl
  ·exact h.idn e he
 ·rw[map_mem nd,Z.mhas_ins,Z.mget_ins]
  rcases(ins_mem h.sk).1 he with rfl|⟨he,hn⟩
  ·refine⟨?_,if_pos rfl⟩
   rw[decide_eq_true (rfl:kr (id,r.1,r.2,v)=r)];rfl
  ·obtain⟨h1,h2⟩:=(map_mem h.nd _ _).1 (h.fwd e he)
   rw[if_neg hn,h1];exact⟨Bool.or_true _,h2⟩
 ·obtain⟨k,x⟩:=p
  obtain⟨h1,h2⟩:=(map_mem nd k x).1 hp
  rw[Z.mhas_ins]at h1
  rw[Z.mget_ins]at h2
  refine(ins_mem h.sk).2 ?_
  by_cases hk:k=r
  ·subst hk
   rw[if_pos rfl]at h2
   subst h2
   exact .inl rfl
  ·rw[if_neg hk]at h2
   rw[decide_eq_false hk,Bool.false_or]at h1
   exact .inr ⟨h.back _ ((map_mem h.nd k x).2 ⟨h1,h2⟩),hk⟩
theorem Measure_eq (f:Fun)(r:Rc)(hf:chk 11 f=0)(hs:f.2.2.size≤1000)(ho:okT r.2=true):F.fn_Measure f r=some (meas f r,0):=by
 have h64:=(okT_iff.1 ho).1
 rw[F.fn_Measure,F.fn_both]
 show((Option.bind (F.fn_Check 11 f) fun r3=>if r3≠0 then some r3 else(F.rec_Check r).bind fun r6=>some r6).bind _)=_
 rw[fn_Check_eq 11 f (by omega),Option.bind_some,hf,if_neg (by simp),rec_Check_eq,Option.bind_some,ho,Option.bind_some,if_pos rfl,if_neg (by simp)]
 unfold meas
 by_cases h:f.1=41
 ·rw[if_pos h,if_pos h]
 ·rw[if_neg h,if_neg h,(runes_len r.2 (by omega)).1,Option.bind_some,(runes_len r.2 (by omega)).2]
theorem meas_top (f:Fun)(r:Rc)(ho:okT r.2=true):0≤meas f r∧meas f r≤64:=by
 refine⟨meas_nn f r,?_⟩
 have h64:=(okT_iff.1 ho).1
 have:=cks_len r.2
 unfold meas rns
 split<;>omega
theorem mul_top {a b:Int}(h0:0≤a)(h1:a≤64)(h2:1≤b)(h3:b≤1048576):0≤a*b∧a*b≤67108864:=by
 refine⟨Int.mul_nonneg h0 (by omega),?_⟩
 have:=Int.mul_le_mul h1 h3 (by omega) (by omega:(0:Int)≤64)
 omega
theorem totals_l (x:Ob)(hf:chk 11 x.1.2.2.2.1=0)(hs:x.1.2.2.2.1.2.2.size≤1000): ∀(gs:List (Int×List Mn)) (xs:List Rc) (m:List (Rc×Int)) (st:List En),Rel x.1.1 m st→St2 x.1.1 st→(∀kg,kg∈gs→Bag kg.2∧kg.2.length≤1000)→xs.length+gs.length≤1000000→
  ∃m',F.oper_teller_totals_l3 x gs xs m x.1.1 x.1.2.1 x.1.2.2.2.1.1 x.1.2.2.2.1.2.1 x.1.2.2.2.1.2.2 x.1.2.2.2.2.1 x.1.2.2.2.2.2.1 x.1.2.2.2.2.2.2=some (x.1,(gs.foldl (totS x.1.2.2.2.1 x.1.1) (xs,st)).1,m')∧Rel x.1.1 m' (gs.foldl (totS x.1.2.2.2.1 x.1.1) (xs,st)).2
 | [],xs,m,st,hr,_,_,_=>⟨m,by rw[F.oper_teller_totals_l3];rfl,hr⟩
 |kg::gs,xs,m,st,hr,h2,h,hl=>by
  obtain⟨h1,hkl⟩:=h kg (List.mem_cons_self ..)
  have hFU:=FU_big
  rw[List.length_cons]at hl
  have hv:=vE_rng h2 (kg.1,nil8)
  have ht:=tot_rng (f:=x.1.2.2.2.1) h1.one hv.1 hv.2
  have hr':=hr.ins (kg.1,nil8) (tot x.1.2.2.2.1 (vE st (kg.1,nil8)) kg.2)
  have h2':St2 x.1.1 (ins kr (x.1.1,kg.1,nil8,tot x.1.2.2.2.1 (vE st (kg.1,nil8)) kg.2) st):=fun e he=>by
   rcases(ins_mem hr.sk).1 he with rfl|⟨he,_⟩
   ·exact⟨rfl,rfl,ht⟩
   ·exact h2 e he
  obtain⟨m',i1,i2⟩:=totals_l x hf hs gs (xs++[(kg.1,dec (tot x.1.2.2.2.1 (vE st (kg.1,nil8)) kg.2))]) _ _ hr' h2' (fun kg hk=>h kg (List.mem_cons_of_mem _ hk)) (by simp only[List.length_append,List.length_cons,List.length_nil];omega)
  refine⟨m',?_,i2⟩
  rw[F.oper_teller_totals_l3,A.lt]
  show F.oper_teller_totals_l2 _ xs m _ _ _ _ _ _ _ _ kg A.FU (Z.mget (0:Int) m (kg.1,nil8)) 0=_
  rw[hr.get]
  refine(A.lp kg.2 (fun n (s:Int) y=>F.oper_teller_totals_l2 (F.oper_teller_totals_l3 x gs) xs m x.1.1 x.1.2.1 x.1.2.2.2.1.1 x.1.2.2.2.1.2.1 x.1.2.2.2.1.2.2 x.1.2.2.2.2.1 x.1.2.2.2.2.2.1 x.1.2.2.2.2.2.2 kg n s y)
   (fun j r s=>F.oper_teller_totals_l3 x gs (xs++[(kg.1,dec (tot x.1.2.2.2.1 s r))]) (Z.mins m (kg.1,nil8) (tot x.1.2.2.2.1 s r)) x.1.1 x.1.2.1 x.1.2.2.2.1.1 x.1.2.2.2.1.2.1 x.1.2.2.2.1.2.2 x.1.2.2.2.2.1 x.1.2.2.2.2.2.1 x.1.2.2.2.2.2.2) (fun j s=>0≤s∧s≤1099511627776)
   (fun n s hp=>by
    show F.oper_teller_totals_l2 _ xs m _ _ _ _ _ _ _ _ kg (n+1) s _=_
    rw[F.oper_teller_totals_l2,if_neg (by omega),number_dec s hp.1 (by have:s≤1099511627776:=hp.2;omega),Option.bind_some,A.gd1 (by simp only[List.length_cons,List.length_nil];omega)]
    rfl)
   (fun n s j y hy hj hp ih=>by
    have hym:=List.mem_of_getElem? hy
    have hot:=h1.txt y hym
    obtain⟨q1,q2⟩:=meas_top x.1.2.2.2.1 y.1 hot
    obtain⟨q3,q4⟩:=mul_top q1 q2 (h1.one y hym) (h1.top y hym)
    have hp1:=hp.1
    have hp2:s≤1099511627776:=hp.2
    show F.oper_teller_totals_l2 _ xs m _ _ _ _ _ _ _ _ kg (n+1) s _=_
    rw[F.oper_teller_totals_l2,if_pos (by omega),A.ixn hy,Option.bind_some]
    show(F.fn_Measure x.1.2.2.2.1 y.1).bind _=_
    have gR:Z.R64 (meas x.1.2.2.2.1 y.1*y.2)∧Z.R64 (s+meas x.1.2.2.2.1 y.1*y.2):=⟨⟨by omega,by omega⟩,by omega,by omega⟩
    rw[Measure_eq _ _ hf hs hot,Option.bind_some,if_pos rfl,A.gd1 (by exact gR),F.oper_teller_totals_j1,A.gd1 ⟨by omega,by omega⟩]
    exact ih (min (s+meas x.1.2.2.2.1 y.1*y.2) 1099511627776) ⟨by omega,by omega⟩)
   (by omega) (vE st (kg.1,nil8)) hv).trans ?_
  exact i1
theorem totals_eq (x:Ob)(st:List En)(a:List Mn)(hr:Rel x.1.1 x.2.2 st)(h2:St2 x.1.1 st)(hf:chk 11 x.1.2.2.2.1=0)(hs:x.1.2.2.2.1.2.2.size≤1000)(ha:Bag a)(hl:a.length≤1000)(hx:x.2.1.length≤100000):
  ∃m',F.oper_teller_totals x a=some (x.1,((grp a).foldl (totS x.1.2.2.2.1 x.1.1) (x.2.1,st)).1,m')∧Rel x.1.1 m' ((grp a).foldl (totS x.1.2.2.2.1 x.1.1) (x.2.1,st)).2:=by
 have:=grp_len a
 rw[F.oper_teller_totals,Keys_ok ha hl,Option.bind_some,Keys_it a hl,Option.bind_some]
 exact totals_l x hf hs _ _ _ _ hr h2 (fun kg hk=>⟨grp_bag ha hk,Nat.le_trans (grp_size ha.kl hk) hl⟩) (by omega)
theorem fresh_eq (x:Ob)(st:List En)(a:List Mn)(hr:Rel x.1.1 x.2.2 st)(hl:a.length≤1000)(hx:x.2.1.length≤100000):
  ∃m',F.oper_teller_fresh x a=some (x.1,(a.foldl (frS x.1.1) (x.2.1,st)).1,m')∧Rel x.1.1 m' (a.foldl (frS x.1.1) (x.2.1,st)).2:=by
 have hFU:=FU_big
 have main: ∀(q j f:Nat) (xs:List Rc) (m:List (Rc×Int)) (st:List En),j+q=a.length→q<f→xs.length+q≤200000→Rel x.1.1 m st→
   ∃m',F.oper_teller_fresh_l2 x a f xs m x.1.1 x.1.2.1 x.1.2.2.2.1.1 x.1.2.2.2.1.2.1 x.1.2.2.2.1.2.2 x.1.2.2.2.2.1 x.1.2.2.2.2.2.1 x.1.2.2.2.2.2.2 (j:Int)=some (x.1,((a.drop j).foldl (frS x.1.1) (xs,st)).1,m')∧Rel x.1.1 m' ((a.drop j).foldl (frS x.1.1) (xs,st)).2:=by
  intro q
  induction q with
  |zero=>
   intro j f xs m st hj hf _ hr
   obtain⟨f,rfl⟩: ∃f',f=f'+1:=⟨f-1,by omega⟩
   refine⟨m,?_,?_⟩
   ·rw[F.oper_teller_fresh_l2,if_neg (by omega),List.drop_eq_nil_of_le (by omega)];rfl
   ·rw[List.drop_eq_nil_of_le (by omega)];exact hr
  |succ q ih=>
   intro j f xs m st hj hf hxl hr
   obtain⟨f,rfl⟩: ∃f',f=f'+1:=⟨f-1,by omega⟩
   obtain⟨y,hy⟩: ∃y,a[j]?=some y:=⟨_,List.getElem?_eq_getElem (by omega)⟩
   rw[F.oper_teller_fresh_l2,if_pos (by omega),A.ixn hy,Option.bind_some,A.lt,A.dropx hy,List.foldl_cons]
   have hg:=hr.get y.1
   have ej:(j:Int)+1=((j+1:Nat):Int):=by omega
   unfold frS
   by_cases h0:vE st y.1=0
   ·rw[if_pos (by exact hg.trans h0),if_pos h0,A.gd1 (by simp only[List.length_cons,List.length_nil];omega),F.oper_teller_fresh_j1,A.gd1 ⟨by omega,by omega⟩,ej]
    exact ih (j+1) f _ _ _ (by omega) (by omega) (by simp only[List.length_append,List.length_cons,List.length_nil];omega) (hr.ins y.1 1)
   ·rw[if_neg (by intro e;exact h0 (hg.symm.trans e)),if_neg h0,F.oper_teller_fresh_j1,A.gd1 ⟨by omega,by omega⟩,ej]
    exact ih (j+1) f _ _ _ (by omega) (by omega) (by omega) hr
 have:=main a.length 0 A.FU x.2.1 x.2.2 st (by omega) (by omega) (by omega) hr
 rw[F.oper_teller_fresh]
 exact this
theorem ordB_rc (cmp:Rc→Rc→Option Int)(h: ∀a b,cmp a b=some (cR a b))(l:List Rc):A.ordB cmp l=true∧A.cl0 cmp=fun a b=>rl a b:=by
 have e:A.cl0 cmp=fun a b=>rl a b:=by
  funext a b
  show(match cmp a b with|some c=>decide (c<0)|none=>false)=_
  rw[h];exact cR_lt a b
 refine⟨?_,e⟩
 unfold A.ordB
 rw[List.all_eq_true]
 intro x hx
 rw[List.all_eq_true]
 intro y hy
 rw[e,Bool.and_eq_true,Bool.and_eq_true]
 refine⟨⟨by rw[h];rfl,?_⟩,?_⟩
 ·show(bif rl x y then !rl y x else rl y x||decide (x=y))=true
  cases h1:rl x y with
  |true=>rw[rl_asy h1];rfl
  |false=>
   cases h2:rl y x with
   |true=>rfl
   |false=>rw[decide_eq_true (rl_tri h1 h2)];rfl
 ·rw[List.all_eq_true]
  intro z hz
  show(!(rl x y&&rl y z)||rl x z)=true
  cases h1:rl x y with
  |false=>rfl
  |true=>
   cases h2:rl y z with
   |false=>rfl
   |true=>rw[rl_tr h1 h2];rfl
theorem ord_rc (l:List Rc):A.OrdOn (fun a b:Rc=>rl a b) l:=⟨fun x _ y _ h=>rl_asy h,fun x _ y _ h1 h2=>rl_tri h1 h2,fun x _ y _ z _ h1 h2=>rl_tr h1 h2⟩
def cpF:Rc→List Rc→List Rc
 |_,[]=>[]
 |p,x::l=>if x=p then cpF p l else x::cpF x l
theorem cpF_mem: ∀{l:List Rc} {p r:Rc},r∈p::cpF p l↔r∈p::l
 | [],p,r=>by simp[cpF]
 |x::l,p,r=>by
  unfold cpF
  by_cases h:x=p
  ·subst h
   rw[if_pos rfl,cpF_mem];simp
  ·rw[if_neg h,List.mem_cons,cpF_mem,List.mem_cons,List.mem_cons,List.mem_cons]
theorem cpF_sk: ∀{l:List Rc} {p:Rc},(p::l).Pairwise (fun a b=>rl b a=false)→SK id (p::cpF p l)
 | [],p,_=>List.pairwise_singleton ..
 |x::l,p,h=>by
  obtain⟨h1,h2⟩:=List.pairwise_cons.1 h
  unfold cpF
  by_cases e:x=p
  ·subst e
   rw[if_pos rfl]
   exact cpF_sk h2
  ·rw[if_neg e]
   have ih:=cpF_sk h2
   have hpx:rl p x=true:=by
    cases hh:rl p x with
    |true=>rfl
    |false=>exact absurd (rl_tri (h1 x (List.mem_cons_self ..)) hh) e
   refine List.pairwise_cons.2 ⟨fun b hb=>?_,ih⟩
   rcases List.mem_cons.1 hb with rfl|hb
   ·exact hpx
   ·exact rl_tr hpx ((List.pairwise_cons.1 ih).1 b hb)
theorem Compact_eq (l:List Rc)(hl:l.length≤1000000)(hs:l.Pairwise (fun a b=>rl b a=false)):F.slices_Compact_api_Rec_api_Rec l=some (sc l):=by
 have hFU:=FU_big
 have fin: ∀p t,l=p::t→sc l=p::cpF p t:=fun p t e=>by
  subst e
  exact sk_ext (k:=id) (sc_ok _).1 (cpF_sk hs) fun r=>by rw[(sc_ok _).2,cpF_mem]
 rw[F.slices_Compact_api_Rec_api_Rec]
 by_cases h2:l.length<2
 ·rw[if_pos (by omega)]
  cases l with
  |nil=>rfl
  |cons p t=>
   have:t=[]:=by cases t with
    |nil=>rfl
    |cons a b=>simp only[List.length_cons]at h2;omega
   subst this
   rw[fin p [] rfl];rfl
 ·rw[if_neg (by omega)]
  have second: ∀(k:Nat) (hk:k<l.length),1≤k→∀(q j f i:Nat) (xs:List Rc) (p:Rc),k+j+q=l.length→q<f→1≤j→k≤i→i≤k+j-1→xs.length=l.length→xs.drop (k+j-1)=l.drop (k+j-1)→l[k+j-1]?=some p→
    F.slices_Compact_api_Rec_api_Rec_l2 l (k:Int) f xs (i:Int) (j:Int)=some (xs.take i++cpF p (l.drop (k+j))):=by
   intro k hk hk1 q
   induction q with
   |zero=>
    intro j f i xs p hq hf hj hi hij hx hd hp
    obtain⟨f,rfl⟩: ∃f',f=f'+1:=⟨f-1,by omega⟩
    rw[F.slices_Compact_api_Rec_api_Rec_l2,if_neg (by omega),A.gd1 ⟨by omega,by omega⟩,A.gd1 ⟨by omega,by simp;omega⟩,Int.toNat_natCast,List.take_append_of_le_length (by rw[List.length_take];omega),List.take_take,Nat.min_self,List.drop_eq_nil_of_le (by omega)]
    simp[cpF]
   |succ q ih=>
    intro j f i xs p hq hf hj hi hij hx hd hp
    obtain⟨f,rfl⟩: ∃f',f=f'+1:=⟨f-1,by omega⟩
    obtain⟨y,hy⟩: ∃y,l[k+j]?=some y:=⟨_,List.getElem?_eq_getElem (by omega)⟩
    have gx: ∀t,k+j-1≤t→xs[t]?=l[t]?:=fun t ht=>by
     have:=congrArg (fun z=>z[t-(k+j-1)]?) hd
     simp only[List.getElem?_drop]at this
     rw[show k+j-1+(t-(k+j-1))=t by omega]at this
     exact this
    have y1:(xs.drop k)[j]?=some y:=by rw[List.getElem?_drop,gx _ (by omega)];exact hy
    have y2:(xs.drop k)[j-1]?=some p:=by rw[List.getElem?_drop,gx _ (by omega),show k+(j-1)=k+j-1 by omega];exact hp
    have hxi:xs[i]?=some xs[i]:=List.getElem?_eq_getElem (by omega)
    have ej:(j:Int)-1=((j-1:Nat):Int):=by omega
    have ej1:(j:Int)+1=((j+1:Nat):Int):=by omega
    have ei1:(i:Int)+1=((i+1:Nat):Int):=by omega
    rw[F.slices_Compact_api_Rec_api_Rec_l2,if_pos (by omega),A.gd1 ⟨by omega,by omega⟩,Int.toNat_natCast,A.gd1 (by omega),A.ixn y1,Option.bind_some,A.gd1 (by omega),ej,A.ixn y2,Option.bind_some,A.dropx hy]
    show(if y≠p then _ else _)=some (xs.take i++cpF p (y::l.drop (k+j+1)))
    unfold cpF
    by_cases e:y=p
    ·rw[if_neg (fun h=>h e),if_pos e,F.slices_Compact_api_Rec_api_Rec_j1,A.gd1 ⟨by omega,by omega⟩,ej1]
     exact ih (j+1) f i xs p (by omega) (by omega) (by omega) hi (by omega) hx (by
      have:=congrArg (List.drop 1) hd
      rw[List.drop_drop,List.drop_drop]at this
      rw[show k+(j+1)-1=k+j-1+1 by omega];exact this) (by rw[show k+(j+1)-1=k+j by omega,hy,e])
    ·rw[if_pos e,if_neg e,A.gd1 (by omega),Option.bind_some,A.ixn hxi,Option.bind_some,A.gd1 ⟨by omega,by omega⟩,F.slices_Compact_api_Rec_api_Rec_j1,A.gd1 ⟨by omega,by omega⟩,ej1,ei1,Int.toNat_natCast]
     rw[ih (j+1) f (i+1) (xs.set i y) y (by omega) (by omega) (by omega) (by omega) (by omega) (by rw[List.length_set];exact hx) (by
      rw[List.drop_set_of_lt (by omega)]
      have:=congrArg (List.drop 1) hd
      rw[List.drop_drop,List.drop_drop]at this
      rw[show k+(j+1)-1=k+j-1+1 by omega];exact this) (by rw[show k+(j+1)-1=k+j by omega,hy])]
     have:(xs.set i y).take (i+1)=xs.take i++[y]:=by
      rw[List.take_add_one,List.getElem?_set_self (by omega),List.take_set_of_le (by omega)];rfl
     rw[this,List.append_assoc];rfl
  have first: ∀(q k f:Nat) (p:Rc),k+q=l.length→q<f→1≤k→l[k-1]?=some p→F.slices_Compact_api_Rec_api_Rec_l3 l f (k:Int)=some (l.take k++cpF p (l.drop k)):=by
   intro q
   induction q with
   |zero=>
    intro k f p hk hf h1 hp
    obtain⟨f,rfl⟩: ∃f',f=f'+1:=⟨f-1,by omega⟩
    rw[F.slices_Compact_api_Rec_api_Rec_l3,if_neg (by omega),List.drop_eq_nil_of_le (by omega),List.take_of_length_le (by omega)];simp[cpF]
   |succ q ih=>
    intro k f p hk hf h1 hp
    obtain⟨f,rfl⟩: ∃f',f=f'+1:=⟨f-1,by omega⟩
    obtain⟨y,hy⟩: ∃y,l[k]?=some y:=⟨_,List.getElem?_eq_getElem (by omega)⟩
    have ek:(k:Int)-1=((k-1:Nat):Int):=by omega
    rw[F.slices_Compact_api_Rec_api_Rec_l3,if_pos (by omega),A.gd1 ⟨by omega,by omega⟩,A.ixn hy,Option.bind_some,ek,A.ixn hp,Option.bind_some]
    show(if y=p then _ else _)=_
    by_cases e:y=p
    ·rw[if_pos e,A.gd1 ⟨by omega,by omega⟩]
     have:=second k (by omega) h1 (l.length-(k+1)) 1 A.FU k l y (by omega) (by omega) (by omega) (by omega) (by omega) rfl rfl (by rw[show k+1-1=k by omega];exact hy)
     refine this.trans ?_
     rw[A.dropx hy]
     conv=>rhs;rw[cpF]
     rw[if_pos e,e]
    ·rw[if_neg e,A.gd1 ⟨by omega,by omega⟩,show(k:Int)+1=((k+1:Nat):Int) by omega,ih (k+1) f y (by omega) (by omega) (by omega) (by rw[show k+1-1=k by omega];exact hy),A.dropx hy,List.take_add_one,hy]
     conv=>rhs;rw[cpF]
     rw[if_neg e];simp
  obtain⟨p,t,rfl⟩: ∃p t,l=p::t:=by
   cases l with
   |nil=>simp at h2
   |cons p t=>exact⟨p,t,rfl⟩
  have:=first ((p::t).length -1) 1 A.FU p (by omega) (by omega) (by omega) rfl
  refine(show F.slices_Compact_api_Rec_api_Rec_l3 (p::t) A.FU 1=_ from this).trans ?_
  rw[fin p t rfl];rfl
theorem sortOut_eq (l:List Rc)(hl:l.length≤1000000):((F.slices_SortFunc_api_Rec_api_Rec_rec_Compare l).bind fun r=>F.slices_Compact_api_Rec_api_Rec r)=some (sc l):=by
 obtain⟨h1,h2⟩:=ordB_rc (fun x y=>F.rec_Compare x y) rec_Compare_eq l
 rw[F.slices_SortFunc_api_Rec_api_Rec_rec_Compare,A.gd1 (by omega),A.srtF,if_pos h1,Option.bind_some,h2]
 have hp:=A.srtL_perm (fun a b:Rc=>rl a b) l
 rw[Compact_eq _ (by rw[hp.length_eq];exact hl) (A.srtL_pw (ord_rc l) l fun a h=>h)]
 exact congrArg some (sk_ext (k:=id) (sc_ok _).1 (sc_ok _).1 fun r=>by rw[(sc_ok _).2,(sc_ok _).2];exact hp.mem_iff)
theorem ent1_eq (a b:En):F.oper_teller_entries_1 a b=some (cR (kr a) (kr b)):=by
 rw[F.oper_teller_entries_1,cmp64_eq,Option.bind_some,scmp_eq,Option.bind_some,or2,Option.bind_some];rfl
theorem sk_sort {α:Type}[DecidableEq α]{k:α→Rc}{l st:List α}(cmp:α→α→Option Int)(hc: ∀a b,cmp a b=some (cR (k a) (k b)))(hp:l.Perm st)(hs:SK k st):A.srtF cmp l=some st:=by
 have e:A.cl0 cmp=fun a b=>rl (k a) (k b):=by
  funext a b
  show(match cmp a b with|some c=>decide (c<0)|none=>false)=_
  rw[hc];exact cR_lt _ _
 have inj: ∀a,a∈l→∀b,b∈l→k a=k b→a=b:=fun a ha b hb h=>sk_inj hs (hp.mem_iff.1 ha) (hp.mem_iff.1 hb) h
 have O:A.OrdOn (fun a b:α=>rl (k a) (k b)) l:=⟨fun x _ y _ h=>rl_asy h,fun x hx y hy h1 h2=>inj x hx y hy (rl_tri h1 h2),fun x _ y _ z _ h1 h2=>rl_tr h1 h2⟩
 have ob:A.ordB cmp l=true:=by
  unfold A.ordB
  rw[List.all_eq_true]
  intro x hx
  rw[List.all_eq_true]
  intro y hy
  rw[e,Bool.and_eq_true,Bool.and_eq_true]
  refine⟨⟨by rw[hc];rfl,?_⟩,?_⟩
  ·show(bif rl (k x) (k y)then !rl (k y) (k x)else rl (k y) (k x)||decide (x=y))=true
   cases h1:rl (k x) (k y)with
   |true=>rw[rl_asy h1];rfl
   |false=>
    cases h2:rl (k y) (k x)with
    |true=>rfl
    |false=>rw[decide_eq_true (inj x hx y hy (rl_tri h1 h2))];rfl
  ·rw[List.all_eq_true]
   intro z hz
   show(!(rl (k x) (k y)&&rl (k y) (k z))||rl (k x) (k z))=true
   cases h1:rl (k x) (k y)with
   |false=>rfl
   |true=>
    cases h2:rl (k y) (k z)with
    |false=>rfl
    |true=>rw[rl_tr h1 h2];rfl
 rw[A.srtF,if_pos ob,e]
 exact congrArg some (A.srt_uniq O hp.symm (hs.imp fun h=>rl_asy h)).symm
theorem entries_eq (n:Nd)(out:List Rc)(m:List (Rc×Int))(st:List En)(hr:Rel n.1 m st)(hl:m.length≤1000000)(hk: ∀p,p∈m→IntKind.i64.has p.1.1∧p.1.2.size≤maxLen):F.oper_teller_entries (n,out,m)=some st:=by
 have hFU:=FU_big
 have perm:(m.map fun p=>((n.1,p.1.1,p.1.2,p.2):En)).Perm st:=by
  refine(List.perm_ext_iff_of_nodup ?_ ?_).2 fun e=>?_
  ·have h1:=hr.nd
   have: ∀l:List (Rc×Int),(l.map Prod.fst).Nodup→(l.map fun p=>((n.1,p.1.1,p.1.2,p.2):En)).Nodup:=by
    intro l
    induction l with
    |nil=>intro _;simp
    |cons p l ih=>
     intro h
     rw[List.map_cons,List.nodup_cons]at h ⊢
     refine⟨fun hm=>h.1 ?_,ih h.2⟩
     obtain⟨q,hq,e⟩:=List.mem_map.1 hm
     obtain⟨_,e⟩:=Prod.mk.inj e
     obtain⟨e1,e⟩:=Prod.mk.inj e
     obtain⟨e2,_⟩:=Prod.mk.inj e
     exact List.mem_map.2 ⟨q,hq,Prod.ext e1 e2⟩
   exact this m h1
  ·exact hr.sk.imp fun {a b} h (e:a=b)=>rl_ne h (by rw[e])
  ·constructor
   ·intro he
    obtain⟨p,hp,rfl⟩:=List.mem_map.1 he
    exact hr.back p hp
   ·intro he
    refine List.mem_map.2 ⟨_,hr.fwd e he,?_⟩
    rw[←hr.idn e he]
 rw[F.oper_teller_entries]
 refine A.dem_all m (fun p=>((n.1,p.1.1,p.1.2,p.2):En)) (fun f sn xs=>F.oper_teller_entries_l1 (n,out,m) f sn xs) (fun xs=>(F.slices_SortFunc_api_Entry_api_Entry_oper_teller_entries_1 xs).bind fun r25=>some r25) (fun p xs o=>A.gd (decide (IntKind.i64.has p.1.1)=true∧p.1.2.size≤maxLen) (A.gd ((xs.length+1)*40≤140737488355328) o)) st (fun f sn xs=>rfl) (fun p xs o hp hx=>?_) (fun ys hy=>?_) (by omega)
 ·rw[A.gd1 ⟨decide_eq_true (hk p hp).1,(hk p hp).2⟩,A.gd1 (by omega)]
 ·have hyl:ys.length≤1000000:=by rw[hy.length_eq,List.length_map];exact hl
  rw[F.slices_SortFunc_api_Entry_api_Entry_oper_teller_entries_1,A.gd1 (by omega),sk_sort (k:=kr) _ ent1_eq (hy.trans perm) hr.sk];rfl
end Go.Proofs.YtbljnlkhebiniaaGreatDoor
end
section
set_option maxRecDepth 20000
set_option linter.unusedVariables false
set_option linter.unusedSimpArgs false
namespace Go.Proofs.YtbljnlkhebiniaaGreatDoor
open Go.RowKit Go.Graph Go.Utf Go.Ent Go.Opr
abbrev Tm:=Int×Int×Int×Int×Int×Int
def tcL (d:Int):Nat→List Int→Int
 |_,[]=>0
 |i,x::l=>if x<0∨1048576<x then 10 else if d≤(i:Int)∧x≠0 then 10 else tcL d (i+1) l
def tcP (t:Tm):Int:=if t.1<0∨1073741824<t.1∨t.2.1<0∨4<t.2.1 then 10 else tcL t.2.1 0 [t.2.2.1,t.2.2.2.1,t.2.2.2.2.1,t.2.2.2.2.2]
theorem tcheck_eq (t:Tm):F.tstamp_Check t=some (tcP t):=by
 rw[F.tstamp_Check]
 unfold tcP
 simp only[A.bo,decide_eq_true_eq,or_assoc]
 by_cases h:t.1<0∨1073741824<t.1∨t.2.1<0∨4<t.2.1
 ·rw[if_pos h,if_pos h]
 ·rw[if_neg h,if_neg h]
  obtain⟨L,hL⟩: ∃L,L=[t.2.2.1,t.2.2.2.1,t.2.2.2.2.1,t.2.2.2.2.2]:=⟨_,rfl⟩
  have h4:L.length=4:=by rw[hL];rfl
  rw[←hL]
  exact A.lp0 L (fun f y=>F.tstamp_Check_l1 t f y) (fun k r=>some (tcL t.2.1 k r))
   (fun f=>by rw[F.tstamp_Check_l1,if_neg (by omega)];rfl)
   (fun f k x hx hk ih=>by
    rw[F.tstamp_Check_l1,if_pos (by omega),←hL,A.ixn hx,Option.bind_some,tcL]
    simp only[A.bo,A.ba,decide_eq_true_eq]
    by_cases h1:x<0∨1048576<x
    ·rw[if_pos h1,if_pos h1]
    ·rw[if_neg h1,if_neg h1]
     by_cases h2:t.2.1≤(k:Int)∧x≠0
     ·rw[if_pos h2,if_pos h2]
     ·rw[if_neg h2,if_neg h2,A.gd1 ⟨by omega,by omega⟩,ih])
   (by have:=FU_big;omega)
def holdsP (k:Int):Bool:=decide (k=7∨k=8∨k=9∨k=10∨k=11∨k=16)
theorem Holds_eq (k:Int):F.oper_Holds k=some (holdsP k):=by
 unfold F.oper_Holds F.oper_Holds_j3 F.oper_Holds_j2 F.oper_Holds_j1 F.oper_Keeps holdsP
 by_cases h7:k=7
 ·simp[h7]
 by_cases h8:k=8
 ·simp[h8]
 by_cases h9:k=9
 ·simp[h9]
 by_cases h10:k=10
 ·simp[h10]
 by_cases h11:k=11
 ·simp[h11]
 by_cases h16:k=16
 ·simp[h16]
 ·simp[h7,h8,h9,h10,h11,h16]
def mayP (n:Nd)(t:Tm)(a b:List Mn)(st:List En):Int:=
 if holdsP n.2.1=false then 170 else if chk n.2.1 n.2.2.2.1≠0 then chk n.2.1 n.2.2.2.1 else if tcP t≠0 then tcP t else if chkB a≠0 then chkB a else if chkB b≠0 then chkB b
 else if b≠[]∧n.2.1≠9 then 1 else if stP n st=true then 0 else 171
theorem may_eq (n:Nd)(t:Tm)(a b:List Mn)(st:List En)(hs:n.2.2.2.1.2.2.size≤1000)(ha:a.length≤1000)(hb:b.length≤1000)(hst:st.length≤1000):F.oper_may n t a b st=some (mayP n t a b st):=by
 have hFU:=FU_big
 rw[F.oper_may,Holds_eq,Option.bind_some]
 unfold mayP
 cases holdsP n.2.1 with
 |false=>rw[Bool.not_false,if_pos rfl,if_pos rfl]
 |true=>
  rw[Bool.not_true,if_neg (by simp),if_neg (by simp)]
  show(F.fn_Check n.2.1 n.2.2.2.1).bind _=_
  rw[fn_Check_eq _ _ (by omega),Option.bind_some]
  show(F.tstamp_Check t).bind _=_
  rw[tcheck_eq,Option.bind_some,rec_CheckBag_eq a (by unfold maxLen;omega),Option.bind_some,rec_CheckBag_eq b (by unfold maxLen;omega),Option.bind_some]
  have step: ∀(l:List Int) (r5 r8 r11 r14:Int),l=[r5,r8,r11,r14]→F.oper_may_l1 n b st r5 r8 r11 r14 A.FU 0=some (((l.find? fun x=>decide (x≠0)).getD (if b≠[]∧n.2.1≠9 then 1 else if stP n st=true then 0 else 171))):=fun l r5 r8 r11 r14 hl=>by
   have h4:l.length=4:=by rw[hl];rfl
   exact A.lp0 l (fun f y=>F.oper_may_l1 n b st r5 r8 r11 r14 f y) (fun k r=>some ((r.find? fun x=>decide (x≠0)).getD (if b≠[]∧n.2.1≠9 then 1 else if stP n st=true then 0 else 171)))
    (fun f=>by
     rw[F.oper_may_l1,if_neg (by omega)]
     simp only[A.ba,decide_eq_true_eq]
     have e:((0:Int)<((b).length:Int))↔b≠[]:=by
      cases b with
      |nil=>simp
      |cons x b=>exact⟨fun _=>by simp,fun _=>by simp only[List.length_cons];omega⟩
     by_cases h:b≠[]∧n.2.1≠9
     ·rw[if_pos ⟨e.2 h.1,h.2⟩];simp[h]
     ·rw[if_neg fun h2=>h ⟨e.1 h2.1,h2.2⟩]
      show(F.oper_CheckState n st).bind _=_
      rw[CheckState_eq n st (by omega)]
      simp[h])
    (fun f k x hx hk ih=>by
     rw[F.oper_may_l1,if_pos (by omega),←hl,A.ixn hx,Option.bind_some,List.find?_cons]
     by_cases h:x=0
     ·rw[if_neg (fun h2=>h2 h),A.gd1 ⟨by omega,by omega⟩,ih,decide_eq_false (fun h2=>h2 h)]
     ·rw[if_pos h,decide_eq_true h];rfl)
    (by omega)
  rw[step _ _ _ _ _ rfl]
  congr 1
  by_cases h1:chk n.2.1 n.2.2.2.1=0<;>by_cases h2:tcP t=0<;>by_cases h3:chkB a=0<;>by_cases h4:chkB b=0<;>simp[h1,h2,h3,h4]
structure Ok (n:Nd) (t:Tm) (a b:List Mn) (st:List En):Prop where
 holds:holdsP n.2.1=true
 fn:chk n.2.1 n.2.2.2.1=0
 tm:tcP t=0
 ba:Bag a
 bb:Bag b
 one:b=[]∨n.2.1=9
 st:stP n st=true
theorem mayP_iff {n:Nd}{t:Tm}{a b:List Mn}{st:List En}:mayP n t a b st=0↔Ok n t a b st:=by
 unfold mayP
 constructor
 ·intro h
  split at h
  ·cases h
  rename_i h1
  split at h
  ·rename_i h2;exact absurd h h2
  rename_i h2
  split at h
  ·rename_i h3;exact absurd h h3
  rename_i h3
  split at h
  ·rename_i h4;exact absurd h h4
  rename_i h4
  split at h
  ·rename_i h5;exact absurd h h5
  rename_i h5
  split at h
  ·cases h
  rename_i h6
  split at h
  ·rename_i h7
   exact⟨by simpa using h1,by simpa using h2,by simpa using h3,chkB_iff.1 (by simpa using h4),chkB_iff.1 (by simpa using h5),Classical.byContradiction fun hn=>h6 ⟨fun e=>hn (.inl e),fun e=>hn (.inr e)⟩,h7⟩
  ·cases h
 ·intro h
  rw[if_neg (by rw[h.holds];simp),if_neg (by rw[h.fn];simp),if_neg (by rw[h.tm];simp),if_neg (by rw[chkB_iff.2 h.ba];simp),if_neg (by rw[chkB_iff.2 h.bb];simp),if_neg (fun h2=>h.one.elim h2.1 h2.2),if_pos h.st]
theorem stP_sk {n:Nd}{st:List En}(h:stP n st=true):SK kr st:=(stP_iff.1 h).2
theorem stP_id {n:Nd}{st:List En}(h:stP n st=true): ∀e,e∈st→e.1=n.1:=fun e he=>by
 have:=(stP_iff.1 h).1 e he
 unfold entOk at this
 split at this
 ·cases this
 ·rename_i h;exact Classical.byContradiction h
theorem stP_2 {n:Nd}{st:List En}(h:stP n st=true)(hk:n.2.1=11):St2 n.1 st:=fun e he=>by
 have:=(stP_iff.1 h).1 e he
 unfold entOk at this
 split at this
 ·cases this
 ·rename_i h1
  simp only[Bool.and_eq_true,decide_eq_true_eq]at this
  exact⟨Classical.byContradiction h1,this.1.1,this.1.2,this.2⟩
theorem stP_1 {n:Nd}{st:List En}(h:stP n st=true)(hk:n.2.1=16):St1 n.1 st:=fun e he=>by
 have:=(stP_iff.1 h).1 e he
 unfold entOk at this
 split at this
 ·cases this
 ·rename_i h1
  rw[if_neg (by omega)]at this
  simp only[Bool.and_eq_true,decide_eq_true_eq]at this
  exact⟨Classical.byContradiction h1,this.1⟩
theorem stP_nil {n:Nd}{st:List En}(h:stP n st=true)(h11:n.2.1≠11)(h16:n.2.1≠16):st=[]:=by
 cases st with
 |nil=>rfl
 |cons e st=>
  have:=(stP_iff.1 h).1 e (List.mem_cons_self ..)
  unfold entOk at this
  rw[if_neg h11,if_neg h16]at this
  split at this<;>cases this
theorem ins_end {e:En}: ∀{l:List En},SK kr (l++[e])→Opr.ins kr e l=l++[e]
 | [],_=>rfl
 |x::l,h=>by
  obtain⟨h1,h2⟩:=List.pairwise_cons.1 (show SK kr (x::(l++[e]))from h)
  have hx:=h1 e (List.mem_append.2 (.inr (List.mem_singleton.2 rfl)))
  unfold Opr.ins
  rw[if_neg (rl_ne hx),if_neg (by rw[rl_asy hx];simp),ins_end h2];rfl
theorem Rel.init {id:Int}{st:List En}(hs:SK kr st)(hi: ∀e,e∈st→e.1=id)(n:Nd)(a b:List Mn)(hl:st.length≤1000): ∃m,Rel id m st∧F.oper_Tell_l2 n a b st A.FU [] 0=F.oper_Tell_l2 n a b st 1 m (st.length:Int):=by
 have hFU:=FU_big
 have lift: ∀(f:Nat) (m:List (Rc×Int)),F.oper_Tell_l2 n a b st (f+1) m (st.length:Int)=F.oper_Tell_l2 n a b st 1 m (st.length:Int):=fun f m=>by
  rw[F.oper_Tell_l2,F.oper_Tell_l2,if_neg (by omega)]
  conv=>rhs;rw[if_neg (by omega)]
 have main: ∀(q j f:Nat) (m:List (Rc×Int)),j+q=st.length→q<f→Rel id m (st.take j)→∃m',Rel id m' st∧F.oper_Tell_l2 n a b st f m (j:Int)=F.oper_Tell_l2 n a b st 1 m' (st.length:Int):=by
  intro q
  induction q with
  |zero=>
   intro j f m hj hf hr
   obtain⟨f,rfl⟩: ∃f',f=f'+1:=⟨f-1,by omega⟩
   obtain rfl:j=st.length:=by omega
   rw[List.take_length]at hr
   exact⟨m,hr,lift f m⟩
  |succ q ih=>
   intro j f m hj hf hr
   obtain⟨f,rfl⟩: ∃f',f=f'+1:=⟨f-1,by omega⟩
   obtain⟨y,hy⟩: ∃y,st[j]?=some y:=⟨_,List.getElem?_eq_getElem (by omega)⟩
   have ht:st.take (j+1)=st.take j++[y]:=by rw[List.take_add_one,hy];rfl
   have hsk:SK kr (st.take j++[y]):=by rw[←ht];exact hs.sublist (List.take_sublist _ _)
   have hyi:=hi y (List.mem_of_getElem? hy)
   have hr2:=hr.ins (kr y) (num y)
   have ey:((id,(kr y).1,(kr y).2,num y):En)=y:=by rw[←hyi]
   rw[ey,ins_end hsk,←ht]at hr2
   obtain⟨m',h1,h2⟩:=ih (j+1) f _ (by omega) (by omega) hr2
   refine⟨m',h1,?_⟩
   rw[F.oper_Tell_l2,if_pos (by omega),A.ixn hy,Option.bind_some,A.gd1 ⟨by omega,by omega⟩,show(j:Int)+1=((j+1:Nat):Int) by omega]
   exact h2
 exact main st.length 0 A.FU [] (by omega) (by omega) (Rel.nil id)
theorem Rel.len {id:Int}{m:List (Rc×Int)}{st:List En}(h:Rel id m st):m.length=st.length:=by
 have perm:(m.map fun p=>((id,p.1.1,p.1.2,p.2):En)).Perm st:=by
  refine(List.perm_ext_iff_of_nodup ?_ ?_).2 fun e=>?_
  ·have: ∀l:List (Rc×Int),(l.map Prod.fst).Nodup→(l.map fun p=>((id,p.1.1,p.1.2,p.2):En)).Nodup:=by
    intro l
    induction l with
    |nil=>intro _;simp
    |cons p l ih=>
     intro h
     rw[List.map_cons,List.nodup_cons]at h ⊢
     refine⟨fun hm=>h.1 ?_,ih h.2⟩
     obtain⟨q,hq,e⟩:=List.mem_map.1 hm
     obtain⟨_,e⟩:=Prod.mk.inj e
     obtain⟨e1,e⟩:=Prod.mk.inj e
     obtain⟨e2,_⟩:=Prod.mk.inj e
     exact List.mem_map.2 ⟨q,hq,Prod.ext e1 e2⟩
   exact this m h.nd
  ·exact h.sk.imp fun {a b} h (e:a=b)=>rl_ne h (by rw[e])
  ·constructor
   ·intro he
    obtain⟨p,hp,rfl⟩:=List.mem_map.1 he
    exact h.back p hp
   ·intro he
    refine List.mem_map.2 ⟨_,h.fwd e he,?_⟩
    rw[←h.idn e he]
 have:=perm.length_eq
 rwa[List.length_map]at this
theorem ins_len {α:Type}{k:α→Rc}{e:α}: ∀(l:List α),(Opr.ins k e l).length≤l.length+1
 | []=>by simp[Opr.ins]
 |x::l=>by
  unfold Opr.ins
  split
  ·simp
  ·(split)
   ·simp
   ·have:=ins_len (k:=k) (e:=e) l;simp only[List.length_cons];omega
theorem totS_len (f:Opr.Fn)(id:Int): ∀(gs:List (Int×List Mn)) (s:List Rc×List En),(gs.foldl (totS f id) s).1.length=s.1.length+gs.length∧(gs.foldl (totS f id) s).2.length≤s.2.length+gs.length
 | [],s=>⟨rfl,Nat.le_refl _⟩
 |kg::gs,s=>by
  obtain⟨h1,h2⟩:=totS_len f id gs (totS f id s kg)
  have:=ins_len (k:=kr) (e:=((id,kg.1,nil8,tot f (vE s.2 (kg.1,nil8)) kg.2):En)) s.2
  rw[List.foldl_cons,h1,List.length_cons]
  refine⟨by unfold totS;simp only[List.length_append,List.length_cons,List.length_nil];omega,?_⟩
  have h3:(totS f id s kg).2.length≤s.2.length+1:=this
  omega
theorem frS_len (id:Int): ∀(a:List Mn) (s:List Rc×List En),(a.foldl (frS id) s).1.length≤s.1.length+a.length∧(a.foldl (frS id) s).2.length≤s.2.length+a.length
 | [],s=>⟨Nat.le_refl _,Nat.le_refl _⟩
 |m::a,s=>by
  obtain⟨h1,h2⟩:=frS_len id a (frS id s m)
  have:=ins_len (k:=kr) (e:=((id,m.1.1,m.1.2,1):En)) s.2
  rw[List.foldl_cons,List.length_cons]
  have h3:(frS id s m).1.length≤s.1.length+1∧(frS id s m).2.length≤s.2.length+1:=by
   unfold frS;split
   ·exact⟨by simp,this⟩
   ·exact⟨by omega,by omega⟩
  exact⟨by omega,by omega⟩
theorem outG_len {kind:Int}{f:Opr.Fn}{b:List Mn}(hb:b.length≤1000): ∀(gs:List (Int×List Mn)),(gs.flatMap (outG kind f b)).length≤gs.length+(gs.flatMap (·.2)).length*1000
 | []=>by simp
 |kg::gs=>by
  have ih:=outG_len (kind:=kind) (f:=f) hb gs
  rw[List.flatMap_cons,List.flatMap_cons,List.length_append,List.length_append,List.length_cons]
  have h1:(outG kind f b kg).length≤1+kg.2.length*1000:=by
   unfold outG
   split
   ·simp
   ·(split)
    ·simp
    ·have ob:(oth b kg.1).length≤1000:=Nat.le_trans (List.length_filter_le ..) hb
     have: ∀g:List Mn,(joinsG kg.1 g (oth b kg.1)).length≤g.length*1000:=by
      intro g
      induction g with
      |nil=>simp[joinsG]
      |cons p g ih=>
       have e:joinsG kg.1 (p::g) (oth b kg.1)=((oth b kg.1).map fun q=>(kg.1,cut ((p.1.2++ByteArray.mk #[43])++q.1.2)))++joinsG kg.1 g (oth b kg.1):=List.flatMap_cons ..
       rw[e,List.length_append,List.length_map,List.length_cons];omega
     have:=this kg.2
     omega
  omega
theorem totS_from {f:Opr.Fn}{id:Int}: ∀{gs:List (Int×List Mn)} {s:List Rc×List En},SK kr s.2→∀{e},e∈(gs.foldl (totS f id) s).2→e∈s.2∨∃kg,kg∈gs∧kr e=(kg.1,nil8)
 | [],s,_,e,he=>.inl he
 |kg::gs,s,hs,e,he=>by
  rcases totS_from (gs:=gs) (s:=totS f id s kg) (ins_sk hs) he with h|⟨kg',h1,h2⟩
  ·rcases(ins_mem hs).1 h with rfl|⟨h,_⟩
   ·exact .inr ⟨kg,List.mem_cons_self ..,rfl⟩
   ·exact .inl h
  ·exact .inr ⟨kg',List.mem_cons_of_mem _ h1,h2⟩
theorem frS_from {id:Int}: ∀{a:List Mn} {s:List Rc×List En},SK kr s.2→∀{e},e∈(a.foldl (frS id) s).2→e∈s.2∨∃m,m∈a∧kr e=m.1
 | [],s,_,e,he=>.inl he
 |m::a,s,hs,e,he=>by
  have hk:SK kr (frS id s m).2:=by unfold frS;split;exact ins_sk hs;exact hs
  rcases frS_from (a:=a) (s:=frS id s m) hk he with h|⟨m',h1,h2⟩
  ·unfold frS at h
   split at h
   ·rcases(ins_mem hs).1 h with rfl|⟨h,_⟩
    ·exact .inr ⟨m,List.mem_cons_self ..,rfl⟩
    ·exact .inl h
   ·exact .inl h
  ·exact .inr ⟨m',List.mem_cons_of_mem _ h1,h2⟩
abbrev KeyR (r:Rc):Prop:=IntKind.i64.has r.1∧r.2.size≤maxLen
theorem Tell_eq (n:Nd)(t:Tm)(a b:List Mn)(st:List En)(hs:n.2.2.2.1.2.2.size≤1000)(ha:a.length≤900)(hb:b.length≤900)(hst:st.length≤1000)(hka: ∀m,m∈a→KeyR m.1)(hks: ∀e,e∈st→KeyR (kr e)):
  F.oper_Tell n t a b st=some (if mayP n t a b st=0 then((tellP n.2.1 n.2.2.2.1 n.1 a b st).1,(tellP n.2.1 n.2.2.2.1 n.1 a b st).2,0)else([],[],mayP n t a b st)):=by
 rw[F.oper_Tell]
 show(F.oper_may n t a b st).bind _=_
 rw[may_eq n t a b st hs (by omega) (by omega) hst,Option.bind_some]
 by_cases hm:mayP n t a b st=0
 ·rw[if_neg (fun h=>h hm),if_pos hm]
  have ok:=mayP_iff.1 hm
  have sk:=stP_sk ok.st
  obtain⟨m,hr,e⟩:=Rel.init sk (stP_id ok.st) n a b hst
  rw[e,F.oper_Tell_l2,if_neg (by omega)]
  have gl:=grp_len a
  have gf:=grp_flat a
  have core: ∀(out:List Rc) (m':List (Rc×Int)) (st':List En),Rel n.1 m' st'→out.length≤1000000→st'.length≤1000000→(∀e,e∈st'→KeyR (kr e))→F.oper_Tell_j1 n n.2.2.1 m' out n.1 n.2.1 n.2.2.2.1.1 n.2.2.2.1.2.1 n.2.2.2.1.2.2 n.2.2.2.2.1 n.2.2.2.2.2.1 n.2.2.2.2.2.2=some (sc out,if n.2.1=10 then []else st',0):=by
   intro out m' st' hr' hl hl' hk'
   have h1:=sortOut_eq out hl
   rw[F.oper_Tell_j1]
   cases hso:F.slices_SortFunc_api_Rec_api_Rec_rec_Compare out with
   |none=>rw[hso]at h1;cases h1
   |some r43=>
    rw[hso,Option.bind_some]at h1
    rw[Option.bind_some,h1,Option.bind_some]
    by_cases h10:n.2.1=10
    ·rw[if_pos h10,if_pos h10]
    ·rw[if_neg h10,if_neg h10]
     show(F.oper_teller_entries (n,[],m')).bind _=_
     rw[entries_eq n [] m' st' hr' (by rw[hr'.len];exact hl') (fun p hp=>hk' _ (hr'.back p hp)),Option.bind_some]
  have krst: ∀e,e∈st→KeyR (kr e):=hks
  unfold tellP raw
  by_cases h7:n.2.1=7
  ·rw[if_pos h7]
   show(F.oper_teller_counts (n,[],m) a).bind _=_
   rw[counts_eq (n,[],m) n.2.2.2.1 a b ok.ba (by omega) (by simp),Option.bind_some]
   have:=outG_len (kind:=7) (f:=n.2.2.2.1) (b:=b) (by omega) (grp a)
   rw[gf]at this
   refine(core _ m st hr (by show(([]:List Rc)++(grp a).flatMap (outG 7 n.2.2.2.1 b)).length≤_;rw[List.nil_append];omega) (by omega) krst).trans ?_
   rw[h7];rfl
  rw[if_neg h7]
  by_cases h8:n.2.1=8
  ·rw[if_pos h8]
   have hf:=ok.fn
   rw[h8]at hf
   show(F.oper_teller_reduces (n,[],m) a).bind _=_
   rw[reduces_eq (n,[],m) a b hf hs ok.ba (by omega) (by simp),Option.bind_some]
   have:=outG_len (kind:=8) (f:=n.2.2.2.1) (b:=b) (by omega) (grp a)
   rw[gf]at this
   refine(core _ m st hr (by show(([]:List Rc)++(grp a).flatMap (outG 8 n.2.2.2.1 b)).length≤_;rw[List.nil_append];omega) (by omega) krst).trans ?_
   rw[h8];rfl
  rw[if_neg h8]
  by_cases h9:n.2.1=9
  ·rw[if_pos h9]
   show(F.oper_teller_joins (n,[],m) a b).bind _=_
   rw[joins_eq (n,[],m) n.2.2.2.1 a b ok.ba (by omega) ok.bb (by omega) (by simp),Option.bind_some]
   have:=outG_len (kind:=9) (f:=n.2.2.2.1) (b:=b) (by omega) (grp a)
   rw[gf]at this
   refine(core _ m st hr (by show(([]:List Rc)++(grp a).flatMap (outG 9 n.2.2.2.1 b)).length≤_;rw[List.nil_append];omega) (by omega) krst).trans ?_
   rw[h9];rfl
  rw[if_neg h9]
  have h789: ¬(n.2.1=7∨n.2.1=8∨n.2.1=9):=by omega
  by_cases h11:n.2.1=11
  ·rw[if_pos h11,if_neg h789,if_pos h11]
   have hf:=ok.fn
   rw[h11]at hf
   show(F.oper_teller_totals (n,[],m) a).bind _=_
   obtain⟨m',h1,h2⟩:=totals_eq (n,[],m) st a hr (stP_2 ok.st h11) hf hs ok.ba (by omega) (by simp)
   rw[h1,Option.bind_some]
   obtain⟨l1,l2⟩:=totS_len n.2.2.2.1 n.1 (grp a) ([],st)
   refine(core _ m' _ h2 (by rw[l1];simp;omega) (by simp only[]at l2 ⊢;omega) fun e he=>?_).trans rfl
   rcases totS_from sk he with he|⟨kg,hk,hke⟩
   ·exact krst e he
   ·rw[hke]
    obtain⟨g1,g2⟩:=grp_all hk
    obtain⟨x,hx⟩:=List.exists_mem_of_ne_nil _ g1
    have h0:IntKind.i64.has x.1.1:=(hka x (grp_sub hk x hx)).1
    rw[g2 x hx]at h0
    exact⟨h0,by show(0:Nat)≤_;omega⟩
  ·rw[if_neg h11,if_neg h789,if_neg h11]
   show(F.oper_teller_fresh (n,[],m) a).bind _=_
   obtain⟨m',h1,h2⟩:=fresh_eq (n,[],m) st a hr (by omega) (by simp)
   rw[h1,Option.bind_some]
   obtain⟨l1,l2⟩:=frS_len n.1 a ([],st)
   refine(core _ m' _ h2 (by simp only[List.length_nil]at l1 ⊢;omega) (by simp only[]at l2 ⊢;omega) fun e he=>?_).trans rfl
   rcases frS_from sk he with he|⟨x,hx,hke⟩
   ·exact krst e he
   ·rw[hke];exact hka x hx
 ·rw[if_pos hm,if_neg hm]
end Go.Proofs.YtbljnlkhebiniaaGreatDoor
end
section
set_option maxRecDepth 20000
set_option linter.unusedVariables false
set_option linter.unusedSimpArgs false
namespace Go.Proofs.YtbljnlkhebiniaaGreatDoor
open Go.RowKit Go.Graph Go.Utf Go.Ent Go.Opr
theorem live_eq:F.L17_live=some true:=by kernel_rfl
def finT (g:ByteArray→Int){α:Type}(k:α→ByteArray):Int→List α→Int
 |y,[]=>y
 |y,x::r=>finT g k (y+g (k x)) r
theorem few_ok (l:List Rc)(hl:l.length≤maxLen): ∃b,F.L17_few l=some b∧(b=true→l.length≤100):=by
 have hl':l.length≤9223372036854775807:=by simpa[maxLen] using hl
 have hm:(min (l.length:Int) 100).toNat≤l.length:=by omega
 refine⟨bif decide ((l.length:Int)≤100)then decide (finT (fun s=>min (s.size:Int) 1000) (fun r:Rc=>r.2) 0 (List.take (min (l.length:Int) 100).toNat l)≤2000)else false,?_,fun h=>?_⟩
 ·have:=A.lp (List.take (min (l.length:Int) 100).toNat l) (fun f (y:Int) k=>F.L17_few_l1 l f y k) (fun _ r y=>some (bif decide ((l.length:Int)≤100)then decide (finT (fun s=>min (s.size:Int) 1000) (fun r:Rc=>r.2) y r≤2000)else false)) (fun k y=>0≤y∧y≤1000*k)
   (fun f y hp=>by
    show F.L17_few_l1 l (f+1) y _=_
    rw[F.L17_few_l1,if_neg (by omega)];rfl)
   (fun f y k x hx hk hp ih=>by
    show F.L17_few_l1 l (f+1) y _=_
    have h2:k<100:=by rw[List.length_take]at hk;omega
    have hn:(0:Int)≤(x.2.size:Int):=by omega
    rw[F.L17_few_l1,if_pos (by omega),A.ixn hx,Option.bind_some,A.gd1 ⟨by omega,by omega⟩,A.gd1 ⟨by omega,by omega⟩]
    exact ih _ ⟨by omega,by omega⟩)
   (by have:=FU_big;rw[List.length_take];omega) 0 ⟨by omega,by omega⟩
  rw[F.L17_few,A.gd1 ⟨by omega,hm⟩]
  exact this
 ·by_cases h2:(l.length:Int)≤100
  ·omega
  ·rw[decide_eq_false h2]at h;cases h
theorem thin_ok (l:List En)(hl:l.length≤maxLen): ∃b,F.L17_thin l=some b∧(b=true→l.length≤100):=by
 have hl':l.length≤9223372036854775807:=by simpa[maxLen] using hl
 have hm:(min (l.length:Int) 100).toNat≤l.length:=by omega
 refine⟨bif decide ((l.length:Int)≤100)then decide (finT (fun s=>min (s.size:Int) 1000) (fun r:En=>r.2.2.1) 0 (List.take (min (l.length:Int) 100).toNat l)≤2000)else false,?_,fun h=>?_⟩
 ·have:=A.lp (List.take (min (l.length:Int) 100).toNat l) (fun f (y:Int) k=>F.L17_thin_l1 l f y k) (fun _ r y=>some (bif decide ((l.length:Int)≤100)then decide (finT (fun s=>min (s.size:Int) 1000) (fun r:En=>r.2.2.1) y r≤2000)else false)) (fun k y=>0≤y∧y≤1000*k)
   (fun f y hp=>by
    show F.L17_thin_l1 l (f+1) y _=_
    rw[F.L17_thin_l1,if_neg (by omega)];rfl)
   (fun f y k x hx hk hp ih=>by
    show F.L17_thin_l1 l (f+1) y _=_
    have h2:k<100:=by rw[List.length_take]at hk;omega
    have hn:(0:Int)≤(x.2.2.1.size:Int):=by omega
    rw[F.L17_thin_l1,if_pos (by omega),A.ixn hx,Option.bind_some,A.gd1 ⟨by omega,by omega⟩,A.gd1 ⟨by omega,by omega⟩]
    exact ih _ ⟨by omega,by omega⟩)
   (by have:=FU_big;rw[List.length_take];omega) 0 ⟨by omega,by omega⟩
  rw[F.L17_thin,A.gd1 ⟨by omega,hm⟩]
  exact this
 ·by_cases h2:(l.length:Int)≤100
  ·omega
  ·rw[decide_eq_false h2]at h;cases h
theorem rare_ok: ∀(ls:List (List Mn)),ls.length≤100→(∀x,x∈ls→x.length≤maxLen)→∃b,F.L17_rare ls=some b∧(b=true→∀x,x∈ls→x.length≤40):=by
 intro ls hn hl
 have hFU:=FU_big
 have main: ∀(q j f:Nat),j+q=ls.length→q<f→∃b,F.L17_rare_l3 ls f (j:Int)=some b∧(b=true→∀x,x∈ls.drop j→x.length≤40):=by
  intro q
  induction q with
  |zero=>
   intro j f hj hf
   obtain⟨f,rfl⟩: ∃f',f=f'+1:=⟨f-1,by omega⟩
   exact⟨true,by rw[F.L17_rare_l3,if_neg (by omega)],fun _ x hx=>by rw[List.drop_eq_nil_of_le (by omega)]at hx;cases hx⟩
  |succ q ih=>
   intro j f hj hf
   obtain⟨f,rfl⟩: ∃f',f=f'+1:=⟨f-1,by omega⟩
   obtain⟨y,hy⟩: ∃y,ls[j]?=some y:=⟨_,List.getElem?_eq_getElem (by omega)⟩
   have hyl:y.length≤9223372036854775807:=by have:=hl y (List.mem_of_getElem? hy);simpa[maxLen] using this
   obtain⟨b,hb1,hb2⟩:=ih (j+1) f (by omega) (by omega)
   have hm:(min (y.length:Int) 100).toNat≤y.length:=by omega
   rw[F.L17_rare_l3,if_pos (by omega),A.ixn hy,Option.bind_some,A.gd1 ⟨by omega,hm⟩,A.dropx hy]
   have lp:=A.lp (List.take (min (y.length:Int) 100).toNat y) (fun n (s:List Rc) k=>F.L17_rare_l2 (F.L17_rare_l3 ls f) (j:Int) y n s k) (fun _ r s=>if(40:Int)<(y.length:Int)then F.L17_rare_j1 (F.L17_rare_l3 ls f) (j:Int) true else(F.L17_few (s++r.map (·.1))).bind fun r33=>F.L17_rare_j1 (F.L17_rare_l3 ls f) (j:Int) (!r33)) (fun k s=>s.length=k)
    (fun n s hp=>by
     show F.L17_rare_l2 _ _ y (n+1) s _=_
     rw[F.L17_rare_l2,if_neg (by omega)]
     simp)
    (fun n s k x hx hk hp ih=>by
     have h2:k<100:=by rw[List.length_take]at hk;omega
     show F.L17_rare_l2 _ _ y (n+1) s _=_
     rw[F.L17_rare_l2,if_pos (by omega),A.ixn hx,Option.bind_some,A.gd1 (by simp only[List.length_cons,List.length_nil];omega),A.gd1 ⟨by omega,by omega⟩]
     refine(ih (s++[x.1]) (by simp only[List.length_append,List.length_cons,List.length_nil];omega)).trans ?_
     simp)
    (by rw[List.length_take];omega) [] rfl
   rw[lp]
   by_cases h40:(40:Int)<(y.length:Int)
   ·rw[if_pos h40,F.L17_rare_j1,if_pos rfl]
    exact⟨false,rfl,fun h=>by cases h⟩
   ·rw[if_neg h40]
    obtain⟨c,hc1,_⟩:=few_ok ([]++(List.take (min (y.length:Int) 100).toNat y).map (·.1)) (by rw[List.nil_append,List.length_map,List.length_take];unfold maxLen;omega)
    rw[hc1,Option.bind_some,F.L17_rare_j1]
    cases c with
    |false=>rw[if_pos (by rfl)];exact⟨false,rfl,fun h=>by cases h⟩
    |true=>
     rw[if_neg (by simp),A.gd1 ⟨by omega,by omega⟩,show(j:Int)+1=((j+1:Nat):Int) by omega,hb1]
     exact⟨b,rfl,fun h x hx=>(List.mem_cons.1 hx).elim (fun e=>by subst e;omega) (hb2 h x)⟩
 obtain⟨b,h1,h2⟩:=main ls.length 0 A.FU (by omega) (by omega)
 exact⟨b,h1,fun h x hx=>h2 h x hx⟩
theorem EqRec_eq (a b:List Rc)(hl:a.length≤9223372036854775806):F.slices_Equal_api_Rec_api_Rec a b=some (decide (a=b)):=by
 rw[F.slices_Equal_api_Rec_api_Rec]
 by_cases h:a.length=b.length
 ·rw[if_neg (by omega)]
  have:=A.lp0 a (fun f y=>F.slices_Equal_api_Rec_api_Rec_l1 a b f y) (fun k r=>some (decide (r=b.drop k)))
   (fun f=>by
    rw[F.slices_Equal_api_Rec_api_Rec_l1,if_neg (by omega),h,List.drop_length];rfl)
   (fun f k x hx hk ih=>by
    obtain⟨y,hy⟩: ∃y,b[k]?=some y:=⟨_,List.getElem?_eq_getElem (by omega)⟩
    rw[F.slices_Equal_api_Rec_api_Rec_l1,if_pos (by omega),A.ixn hx,Option.bind_some,A.ixn hy,Option.bind_some,A.dropx hy]
    show(if x≠y then _ else _)=_
    by_cases e:x=y
    ·rw[if_neg (fun h=>h e),A.gd1 ⟨by omega,by omega⟩,ih]
     subst e;simp
    ·rw[if_pos e,decide_eq_false (fun h=>e (List.cons.inj h).1)])
   (by have:=FU_big;omega)
  rw[this];simp
 ·rw[if_pos (by omega),decide_eq_false (fun e=>h (by rw[e]))]
theorem EqEnt_eq (a b:List En)(hl:a.length≤9223372036854775806):F.slices_Equal_api_Entry_api_Entry a b=some (decide (a=b)):=by
 rw[F.slices_Equal_api_Entry_api_Entry]
 by_cases h:a.length=b.length
 ·rw[if_neg (by omega)]
  have:=A.lp0 a (fun f y=>F.slices_Equal_api_Entry_api_Entry_l1 a b f y) (fun k r=>some (decide (r=b.drop k)))
   (fun f=>by
    rw[F.slices_Equal_api_Entry_api_Entry_l1,if_neg (by omega),h,List.drop_length];rfl)
   (fun f k x hx hk ih=>by
    obtain⟨y,hy⟩: ∃y,b[k]?=some y:=⟨_,List.getElem?_eq_getElem (by omega)⟩
    rw[F.slices_Equal_api_Entry_api_Entry_l1,if_pos (by omega),A.ixn hx,Option.bind_some,A.ixn hy,Option.bind_some,A.dropx hy]
    show(if x≠y then _ else _)=_
    by_cases e:x=y
    ·rw[if_neg (fun h=>h e),A.gd1 ⟨by omega,by omega⟩,ih]
     subst e;simp
    ·rw[if_pos e,decide_eq_false (fun h=>e (List.cons.inj h).1)])
   (by have:=FU_big;omega)
  rw[this];simp
 ·rw[if_pos (by omega),decide_eq_false (fun e=>h (by rw[e]))]
theorem st_len {n:Nd}{a b:List Mn}{st:List En}:(tellP n.2.1 n.2.2.2.1 n.1 a b st).2.length≤st.length+a.length:=by
 have gl:=grp_len a
 unfold tellP raw
 by_cases h10:n.2.1=10
 ·rw[if_pos h10];simp
 ·simp only[if_neg h10]
  by_cases h789:n.2.1=7∨n.2.1=8∨n.2.1=9
  ·rw[if_pos h789];simp
  ·rw[if_neg h789]
   by_cases h11:n.2.1=11
   ·rw[if_pos h11]
    have:((grp a).foldl (totS n.2.2.2.1 n.1) ([],st)).2.length≤st.length+(grp a).length:=(totS_len n.2.2.2.1 n.1 (grp a) ([],st)).2
    omega
   ·rw[if_neg h11];exact(frS_len n.1 a ([],st)).2
end Go.Proofs.YtbljnlkhebiniaaGreatDoor
end
section
set_option maxRecDepth 100000
set_option linter.unusedVariables false
set_option linter.unusedSimpArgs false
namespace Go.Utf
open Go.Lib
abbrev cont (b:UInt8):Prop:=b.toNat / 64=2
theorem Ck.shape {c:Rn}(h:Ck c): ∃b t,c.1=b::t∧¬cont b∧∀x,x∈t→cont x:=by
 have hd:=h.dec []
 rw[List.append_nil,decodeL_N]at hd
 have hok:=h.ok
 have hlen:=h.four
 obtain⟨b,t,hc⟩: ∃b t,c.1=b::t:=by
  cases hc:c.1 with
  |nil=>exact absurd hc h.ne
  |cons b t=>exact⟨b,t,rfl⟩
 have hb:=b.toNat_lt
 refine⟨b,t,hc,?_⟩
 rw[hc]at hd hok hlen
 simp only[List.getD,List.getElem?_cons_zero,List.getElem?_cons_succ,Option.getD_some,List.length_cons]at hd hlen hok
 rcases decodeN_shape (t.length+1) b.toNat (t[0]?.getD 0).toNat (t[1]?.getD 0).toNat (t[2]?.getD 0).toNat with⟨c1,e⟩|⟨c1,c2,c3,cv,e⟩|⟨c1,c2,c3,c4,cv,cs,e⟩|⟨c1,c2,c3,c4,c5,cv,cw,e⟩|e
 ·rw[e]at hd
  have hl:t.length=0:=by have:=congrArg Prod.snd hd;simp only at this;omega
  rw[List.eq_nil_of_length_eq_zero hl]
  exact⟨by show ¬b.toNat / 64=2;omega,by simp⟩
 ·rw[e]at hd
  have hl:t.length=1:=by have:=congrArg Prod.snd hd;simp only at this;omega
  match t,hl with
  | [x],_=>
   simp only[List.getElem?_cons_zero,Option.getD_some]at c3
   exact⟨by show ¬b.toNat / 64=2;omega,fun y hy=>by rw[List.mem_singleton.1 hy];exact c3⟩
 ·rw[e]at hd
  have hl:t.length=2:=by have:=congrArg Prod.snd hd;simp only at this;omega
  match t,hl with
  | [x,y],_=>
   simp only[List.getElem?_cons_zero,List.getElem?_cons_succ,Option.getD_some]at c3 c4
   refine⟨by show ¬b.toNat / 64=2;omega,fun z hz=>?_⟩
   rcases List.mem_cons.1 hz with rfl|hz
   ·exact c3
   ·rw[List.mem_singleton.1 hz];exact c4
 ·rw[e]at hd
  have hl:t.length=3:=by have:=congrArg Prod.snd hd;simp only at this;omega
  match t,hl with
  | [x,y,z],_=>
   simp only[List.getElem?_cons_zero,List.getElem?_cons_succ,Option.getD_some]at c3 c4 c5
   refine⟨by show ¬b.toNat / 64=2;omega,fun q hq=>?_⟩
   rcases List.mem_cons.1 hq with rfl|hq
   ·exact c3
   ·rcases List.mem_cons.1 hq with rfl|hq
    ·exact c4
    ·rw[List.mem_singleton.1 hq];exact c5
 ·rw[e]at hd
  obtain⟨h1,h2⟩:=Prod.mk.inj hd
  exact(hok ⟨h1.symm,h2.symm⟩).elim
theorem Ck.ext {c d:Rn}(hc:Ck c)(hd:Ck d)(h:c.2=d.2):c=d:=Prod.ext (by rw[←hc.enc,←hd.enc,h]) h
end Go.Utf
end
section
set_option maxRecDepth 20000
set_option linter.unusedVariables false
set_option linter.unusedSimpArgs false
namespace Go.Proofs.YtbljnlkhebiniaaGreatDoor
open Go.RowKit Go.Graph Go.Utf Go.Ent Go.Opr
theorem chk_kind {k:Int}{f:Fun}(hne:kinds k≠[])(h:chk k f=0):f.1∈kinds k∧numberF f=true∧textP f=true:=by
 unfold chk at h
 rw[if_neg hne]at h
 unfold anyF at h
 split at h
 ·rename_i h1
  rw[List.any_eq_true]at h1
  obtain⟨y,hy,h2⟩:=h1
  simp only[Bool.and_eq_true,decide_eq_true_eq]at h2
  obtain⟨rfl,h3,h4⟩:=h2
  exact⟨hy,h3,h4⟩
 ·cases h
def insP8 (k:Int):Int:=if k<1∨16<k then-1 else if k=1 then 0 else if k=5∨k=9 then 2 else 1
abbrev t0:Tm:=(0,0,0,0,0,0)
structure OkB (n:Nd) (port:Int) (t:Tm) (l:List Rc):Prop where
 ins: ¬insP8 n.2.1<1
 holds:holdsP n.2.1=false
 port:0≤port∧port<insP8 n.2.1
 fn:chk n.2.1 n.2.2.2.1=0
 tm:tcP t=0
 txt: ∀r,r∈l→okT r.2=true
end Go.Proofs.YtbljnlkhebiniaaGreatDoor
end
section
set_option maxRecDepth 20000
set_option linter.unusedVariables false
set_option linter.unusedSimpArgs false
namespace Go.Proofs.YtbljnlkhebiniaaGreatDoor
open Go.RowKit Go.Graph Go.Utf Go.Ent Go.Opr
theorem R01_Check_eq (t:Tm):F.R01_Check t=some (tcP t):=by
 rw[F.R01_Check]
 unfold tcP
 simp only[A.bo,decide_eq_true_eq,or_assoc]
 by_cases h:t.1<0∨1073741824<t.1∨t.2.1<0∨4<t.2.1
 ·rw[if_pos h,if_pos h]
 ·rw[if_neg h,if_neg h]
  obtain⟨L,hL⟩: ∃L,L=[t.2.2.1,t.2.2.2.1,t.2.2.2.2.1,t.2.2.2.2.2]:=⟨_,rfl⟩
  have h4:L.length=4:=by rw[hL];rfl
  rw[←hL]
  exact A.lp0 L (fun f y=>F.R01_Check_l2 t f y) (fun k r=>some (tcL t.2.1 k r))
   (fun f=>by rw[F.R01_Check_l2,if_neg (by omega)];rfl)
   (fun f k x hx hk ih=>by
    have nx: ∀b:Bool,F.R01_Check_j1 (F.R01_Check_l2 t f) (k:Int) b=if b=true then some 10 else some (tcL t.2.1 (k+1) (L.drop (k+1))):=fun b=>by
     rw[F.R01_Check_j1]
     cases b with
     |true=>rw[if_pos rfl,if_pos rfl]
     |false=>rw[if_neg (show ¬(false=true) by simp),if_neg (show ¬(false=true) by simp),A.gd1 ⟨by omega,by omega⟩,ih]
    rw[F.R01_Check_l2,if_pos (by omega),←hL,A.ixn hx,Option.bind_some,Option.bind_some,Option.bind_some,tcL]
    by_cases h1:x<0
    ·rw[if_pos h1,nx,if_pos rfl,if_pos (.inl h1)]
    ·rw[if_neg h1]
     by_cases h2:1048576<x
     ·rw[if_pos h2,nx,if_pos rfl,if_pos (.inr h2)]
     ·rw[if_neg h2,if_neg (show ¬(x<0∨1048576<x)from fun h=>h.elim h1 h2)]
      by_cases h3:t.2.1≤(k:Int)
      ·rw[if_pos h3,nx]
       by_cases h5:x=0
       ·rw[decide_eq_false (show ¬(x≠0)from fun h=>h h5),if_neg (show ¬(false=true) by simp),if_neg (show ¬(t.2.1≤(k:Int)∧x≠0)from fun h=>h.2 h5)]
       ·rw[if_pos (decide_eq_true h5),if_pos ⟨h3,h5⟩]
      ·rw[if_neg h3,nx,if_neg (show ¬(false=true) by simp),if_neg (show ¬(t.2.1≤(k:Int)∧x≠0)from fun h=>h3 h.1)])
   (by have:=FU_big;omega)
theorem R17_Holds_eq (k:Int):F.R17_Holds k=some (holdsP k):=by
 rw[F.R17_Holds]
 simp only[A.ba,A.bo]
 unfold holdsP
 congr 2
 exact propext ⟨fun h=>by omega,fun h=>by omega⟩
theorem may_ok {k:Int}{f:Fun}{r:Rc}(hs:f.2.2.size≤1000)(hf:chk k f=0)(ho:okT r.2=true):F.R06_may k f r=some 0:=by
 rw[F.R06_may]
 show(F.R06_Check k f).bind _=_
 rw[R06_Check_eq k f (by omega),Option.bind_some,hf,if_neg (by simp)]
 show(F.R05_Check r).bind _=_
 rw[R05_Check_eq,Option.bind_some,ho];rfl
theorem Runes_ok {s:ByteArray}(ho:okT s=true):F.R05_Runes s=some (ats 0 (cks s.data.toList)):=Runes_ats s (by have:=(okT_iff.1 ho).1;omega) (okT_iff.1 ho).2
end Go.Proofs.YtbljnlkhebiniaaGreatDoor
end
section
set_option maxRecDepth 20000
set_option linter.unusedVariables false
set_option linter.unusedSimpArgs false
namespace Go.Proofs.YtbljnlkhebiniaaGreatDoor
open Go.RowKit Go.Graph Go.Utf Go.Ent
theorem R17_ahead_eq (a b:En):F.R17_ahead a b=some (rl (rec a) (rec b)):=by
 rw[F.R17_ahead]
 show(F.R05_Compare (rec a) (rec b)).bind _=_
 rw[R05_Compare_eq,Option.bind_some,cR_lt]
theorem R17_CheckState_eq (n:Nd)(l:List En)(hl:l.length≤9223372036854775807):F.R17_CheckState n l=some (if stP n l=true then 0 else 171):=
 A.lp0 l (fun f y=>F.R17_CheckState_l3 n l f y) (fun k r=>some (if stF n (prv l k) r=true then 0 else 171))
  (fun f=>by
   rw[F.R17_CheckState_l3,if_neg (by omega)]
   cases prv l l.length<;>rfl)
  (fun f k x hx hk ih=>by
   rw[F.R17_CheckState_l3,if_pos (by omega),A.ixn hx,Option.bind_some,F.R17_Keeps,Option.bind_some]
   rw[prv_s l k hx]at ih
   have nx: ∀b:Bool,F.R17_CheckState_j1 (F.R17_CheckState_l3 n l f) (k:Int) b=some (if(b&&stF n (some x) (l.drop (k+1)))=true then 0 else 171):=fun b=>by
    rw[F.R17_CheckState_j1]
    cases b with
    |false=>rw[if_pos (show(!false)=true from rfl)];rfl
    |true=>rw[if_neg (show ¬((!true)=true) by simp),A.gd1 ⟨by omega,by omega⟩,ih];rfl
   have j2: ∀a:Bool,(n.2.1=11∨n.2.1=16)→x.1=n.1→F.R17_CheckState_j2 (F.R17_CheckState_l3 n l f) n (k:Int) x a=some (if(entOk n x&&a&&stF n (some x) (l.drop (k+1)))=true then 0 else 171):=fun a hkd hx1=>by
    rw[F.R17_CheckState_j2]
    unfold entOk
    have hx1': ¬(x.1≠n.1):=fun h=>h hx1
    rw[if_neg hx1']
    by_cases h11:n.2.1=11
    ·rw[if_pos h11,if_pos h11,nx]
     by_cases a1:x.2.2.1=ByteArray.mk #[]<;>by_cases a2:(0:Int)≤x.2.2.2<;>by_cases a3:x.2.2.2≤1099511627776<;>cases a<;>simp[a1,a2,a3]
    ·have h16:n.2.1=16:=hkd.resolve_left h11
     rw[if_neg h11,if_neg h11,if_pos h16]
     cases a with
     |false=>rw[cond_false,if_neg (by simp),nx];simp
     |true=>
      rw[cond_true]
      by_cases h1:x.2.2.2=1
      ·rw[if_pos (decide_eq_true h1)]
       show(F.R05_Check (rec x)).bind _=_
       rw[R05_Check_eq,Option.bind_some,nx,decide_eq_true h1]
       show some (if(decide ((if okT x.2.2.1=true then(0:Int)else 50)=0)&&_)=true then _ else _)=_
       cases okT x.2.2.1<;>rfl
      ·rw[if_neg (by simpa using h1),nx,decide_eq_false h1];rfl
   simp only[A.bo,A.ba]
   have main: ∀a:Bool,(if decide ((n.2.1=11∨n.2.1=16)∧x.1=n.1)=true then F.R17_CheckState_j2 (F.R17_CheckState_l3 n l f) n (k:Int) x a else F.R17_CheckState_j2 (F.R17_CheckState_l3 n l f) n (k:Int) x false)=some (if(entOk n x&&a&&stF n (some x) (l.drop (k+1)))=true then 0 else 171):=fun a=>by
    by_cases hc:(n.2.1=11∨n.2.1=16)∧x.1=n.1
    ·rw[if_pos (decide_eq_true hc),j2 a hc.1 hc.2]
    ·rw[if_neg (by simpa using hc)]
     have he:entOk n x=false:=by
      unfold entOk
      by_cases h0:x.1=n.1
      ·rw[if_neg (fun h=>h h0),if_neg (fun h=>hc ⟨.inl h,h0⟩),if_neg (fun h=>hc ⟨.inr h,h0⟩)]
      ·rw[if_pos h0]
     rw[he,F.R17_CheckState_j2]
     by_cases h11:n.2.1=11
     ·rw[if_pos h11,nx];rfl
     ·rw[if_neg h11,if_neg (by simp),nx];rfl
   by_cases hk0:k=0
   ·subst hk0
    have:=main true
    rw[Bool.and_true]at this
    refine Eq.trans ?_ this
    rfl
   ·have hp:prv l k=l[k-1]?:=by unfold prv;rw[if_neg hk0]
    obtain⟨p,hpp⟩: ∃p,l[k-1]?=some p:=⟨_,List.getElem?_eq_getElem (by omega)⟩
    rw[hp,hpp,if_neg (show ¬((k:Int)=0) by omega),A.gd1 ⟨by omega,by omega⟩,show(k:Int)-1=((k-1:Nat):Int) by omega,A.ixn hpp,Option.bind_some]
    show(if _ then(F.R17_ahead p x).bind _ else _)=_
    rw[R17_ahead_eq,Option.bind_some]
    exact main _)
  (by have:=FU_big;omega)
end Go.Proofs.YtbljnlkhebiniaaGreatDoor
end
section
set_option maxRecDepth 20000
set_option linter.unusedVariables false
set_option linter.unusedSimpArgs false
namespace Go.Proofs.YtbljnlkhebiniaaGreatDoor
open Go.RowKit Go.Graph Go.Utf Go.Ent Go.Opr
end Go.Proofs.YtbljnlkhebiniaaGreatDoor
end
section
set_option maxRecDepth 20000
set_option linter.unusedVariables false
set_option linter.unusedSimpArgs false
namespace Go.Proofs.YtbljnlkhebiniaaGreatDoor
open Go.RowKit Go.Graph Go.Utf Go.Ent Go.Opr
theorem plus_ok:vld (ByteArray.mk #[43]) 1 0=true:=by decide
end Go.Proofs.YtbljnlkhebiniaaGreatDoor
end
section
set_option maxRecDepth 20000
set_option linter.unusedVariables false
set_option linter.unusedSimpArgs false
namespace Go.Proofs.YtbljnlkhebiniaaGreatDoor
open Go.RowKit Go.Graph Go.Utf Go.Ent Go.Opr
theorem count_eq (g:List Mn)(hl:g.length≤1000)(h1: ∀m,m∈g→1≤m.2)(h2: ∀m,m∈g→m.2≤1048576):F.R17_count g=some (cntM g):=by
 rw[F.R17_count]
 exact A.lp g (fun f (s:Int) y=>F.R17_count_l1 g f s y) (fun k (r:List Mn) s=>some (r.foldl (fun v m=>v+m.2) s)) (fun k s=>0≤s∧s≤k*1048576)
  (fun f s hp=>by show F.R17_count_l1 g (f+1) s _=_;rw[F.R17_count_l1,if_neg (by omega)];rfl)
  (fun f s k x hx hk hp ih=>by
   have a1:=h1 x (List.mem_of_getElem? hx)
   have a2:=h2 x (List.mem_of_getElem? hx)
   show F.R17_count_l1 g (f+1) s _=_
   rw[F.R17_count_l1,if_pos (by omega),A.ixn hx,Option.bind_some,A.gd1 ⟨by omega,by omega⟩,A.gd1 ⟨by omega,by omega⟩]
   exact ih (s+x.2) ⟨by omega,by omega⟩)
  (by have:=FU_big;omega) 0 ⟨by omega,by omega⟩
abbrev hexT:ByteArray:=ByteArray.mk #[48,49,50,51,52,53,54,55,56,57,97,98,99,100,101,102]
theorem digit_eq: ∀d:Fin 10,hexT.extract d.val (d.val+1)=ByteArray.mk #[UInt8.ofNat (48+d.val)]:=by decide
theorem u64_small {x:Int}(h0:0≤x)(h1:x<18446744073709551616):IntKind.u64.wrap x=x:=by
 simp[IntKind.wrap,IntKind.bits,IntKind.signed];omega
theorem number5_l (a0:Int)(h0: ¬a0<0)(f:Nat): ∀(at_ n:Nat) (y:ByteArray),n<10^at_→1≤at_→at_<f→n<9223372036854775808→y.size+at_≤1000→F.R05_Number_l1 a0 f (n:Int) y=some (⟨(dg at_ n).toArray⟩++y):=by
 induction f with
 |zero=>intro a n y _ _ h;omega
 |succ f ih=>
  intro a n y hn h1 hf hb hy
  obtain⟨a,rfl⟩: ∃b,a=b+1:=⟨a-1,by omega⟩
  have tm:Int.tmod (n:Int) 10=((n%10:Nat):Int):=by rw[Int.tmod_eq_emod_of_nonneg (by omega)];rfl
  have td:Int.tdiv (n:Int) 10=((n / 10:Nat):Int):=by rw[Int.tdiv_eq_ediv_of_nonneg (by omega)];rfl
  have w1:IntKind.u64.wrap (((n%10:Nat):Int)+1)=((n%10+1:Nat):Int):=by rw[u64_small (by omega) (by omega)];omega
  have w2:IntKind.u64.wrap ((n / 10:Nat):Int)=((n / 10:Nat):Int):=u64_small (by omega) (by omega)
  have hd:hexT.extract (n%10) (n%10+1)=ByteArray.mk #[UInt8.ofNat (48+n%10)]:=digit_eq ⟨n%10,by omega⟩
  have hs16:hexT.size=16:=rfl
  have hs1:(ByteArray.mk #[UInt8.ofNat (48+n%10)]).size=1:=rfl
  have e16:(((ByteArray.mk #[48,49,50,51,52,53,54,55,56,57,97,98,99,100,101,102]).size:Nat):Int)=16:=rfl
  rw[F.R05_Number_l1,A.gd1 (by decide),tm,td,w1,w2,Int.toNat_natCast,Int.toNat_natCast,hd,A.gd1 ⟨by omega,by omega,by rw[e16];omega⟩,A.gd1 (by omega),A.gd1 (by decide)]
  have happ: ∀t:List UInt8,ByteArray.mk (t++[UInt8.ofNat (48+n%10)]).toArray++y=ByteArray.mk t.toArray++(ByteArray.mk #[UInt8.ofNat (48+n%10)]++y):=fun t=>by
   refine ba_eq ?_
   rw[app_list,app_list,app_list];simp
  by_cases hz:n / 10=0
  ·rw[if_pos (by omega),if_neg h0,dg,if_pos hz]
  ·have ha:1≤a:=by
    cases a with
    |zero=>simp at hn;omega
    |succ a=>omega
   have hp:n / 10<10^a:=by rw[Nat.div_lt_iff_lt_mul (by omega)];rw[Nat.pow_succ]at hn;exact hn
   rw[if_neg (by omega),ih a (n / 10) _ hp ha (by omega) (by omega) (by rw[ByteArray.size_append,hs1];omega),dg,if_neg hz,happ]
theorem Number_dec (n:Int)(h0:0≤n)(h1:n<9223372036854775808):F.R05_Number n=some (dec n):=by
 obtain⟨k,rfl⟩: ∃k:Nat,n=k:=⟨n.toNat,by omega⟩
 have hk:k<10^20:=Nat.lt_of_lt_of_le (show k<9223372036854775808 by omega) (by decide)
 have e0:(ByteArray.mk #[]).size=0:=rfl
 have:=number5_l k (by omega) A.FU 20 k (ByteArray.mk #[]) hk (by omega) (by have:=FU_big;omega) (by omega) (by omega)
 rw[F.R05_Number,if_neg (by omega),F.R05_Number_j2,u64_small (by omega) (by omega),this]
 unfold dec
 rw[Int.toNat_natCast]
 refine congrArg some (ba_eq ?_)
 rw[app_list];simp
theorem Measure5_eq (f:Fun)(r:Rc)(hf:chk 11 f=0)(hs:f.2.2.size≤1000)(ho:okT r.2=true):F.R06_Measure f r=some (meas f r,0):=by
 rw[F.R06_Measure]
 show(F.R06_may 11 f r).bind _=_
 rw[may_ok hs hf ho,Option.bind_some,if_neg (by simp)]
 unfold meas
 by_cases h:f.1=41
 ·rw[if_pos h,if_pos h]
 ·rw[if_neg h,if_neg h,Runes_ok ho,Option.bind_some,ats_len];rfl
theorem cR_le (a b:Rc):decide (cR a b≤0)= !rl b a:=by
 have h1:=cR_lt a b
 have h2:=cR_ge a b
 have h3:=cR_lt b a
 cases hab:rl a b with
 |true=>
  rw[hab]at h1
  rw[rl_asy hab,decide_eq_true (by have:=of_decide_eq_true h1;omega)];rfl
 |false=>
  cases hba:rl b a with
  |true=>
   rw[hab]at h1 h2
   rw[decide_eq_false];rfl
   intro hle
   have hz:cR a b=0:=by have:=of_decide_eq_false h1;omega
   have:a=b:=by
    unfold cR at hz
    rcases cI_cases a.1 b.1 with⟨h,e⟩|⟨h,e⟩|⟨h,e⟩
    ·rw[e]at hz;simp at hz
    ·rw[e]at hz;simp at hz
     rcases cS_cases a.2 b.2 with⟨h4,e2⟩|⟨h4,h5,e2⟩|⟨h4,h5,h6,e2⟩
     ·rw[e2]at hz;cases hz
     ·exact Prod.ext h h4
     ·rw[e2]at hz;cases hz
    ·rw[e]at hz;simp at hz
   subst this
   rw[rl_irr]at hba;cases hba
  |false=>
   have:=rl_tri hab hba
   subst this
   have hz:cR a a=0:=by
    unfold cR cI cS
    simp[bl_irr]
   rw[hz];rfl
theorem cR_ne (a b:Rc):(cR a b≠0)↔a≠b:=by
 have h1:=cR_le a b
 have h2:=cR_ge a b
 constructor
 ·intro h e
  subst e
  rw[rl_irr]at h1 h2
  have:=of_decide_eq_true h1
  have:=of_decide_eq_true h2
  omega
 ·intro h e
  rw[e]at h1 h2
  have e1:rl b a=false:=by simpa using h1.symm
  have e2:rl a b=false:=by simpa using h2.symm
  exact h (rl_tri e2 e1)
theorem putE_eq (l:List En)(x:En)(hl:l.length≤1000)(hs:SK kr l):F.R17_putEntry l x=some (Opr.ins kr x l):=by
 have:=A.lp l (fun f (s:List En×Bool) y=>F.R17_putEntry_l6 l x f s.1 s.2 y) (fun k t s=>if s.2=true then some (s.1++t)else some (s.1++Opr.ins kr x t)) (fun k s=>(s.2=false→s.1.length≤k)∧(s.2=true→s.1.length≤k+1∧∀y,y∈l.drop k→rl (kr x) (kr y)=true))
  (fun f s hp=>by
   show F.R17_putEntry_l6 l x (f+1) s.1 s.2 _=_
   rw[F.R17_putEntry_l6,if_neg (by omega)]
   cases hs2:s.2 with
   |true=>rw[Bool.not_true,if_neg (by simp),if_pos rfl,F.R17_putEntry_j5,List.append_nil]
   |false=>rw[Bool.not_false,if_pos rfl,A.gd1 (by have:=hp.1 hs2;simp only[List.length_cons,List.length_nil];omega),if_neg (by simp),F.R17_putEntry_j5];rfl)
  (fun f s k y hy hk hp ih=>by
   have hsr:SK kr (y::l.drop (k+1)):=by rw[←A.dropx hy];exact hs.sublist (List.drop_sublist _ _)
   have hd:=(List.pairwise_cons.1 hsr).1
   show F.R17_putEntry_l6 l x (f+1) s.1 s.2 _=_
   have j3: ∀(xs:List En) (d:Bool),xs.length≤k+1→F.R17_putEntry_j3 (F.R17_putEntry_l6 l x f) l x (k:Int) xs d=F.R17_putEntry_l6 l x f (if kr y=kr x then xs else xs++[y]) d ((k:Int)+1):=fun xs d hx=>by
    have j2: ∀b:Bool,F.R17_putEntry_j2 (F.R17_putEntry_l6 l x f) l (k:Int) xs d b=F.R17_putEntry_l6 l x f (if b=true then xs++[y]else xs) d ((k:Int)+1):=fun b=>by
     rw[F.R17_putEntry_j2]
     cases b with
     |true=>rw[if_pos rfl,if_pos rfl,A.ixn hy,Option.bind_some,A.gd1 (by simp only[List.length_cons,List.length_nil];omega),F.R17_putEntry_j1,A.gd1 ⟨by omega,by omega⟩]
     |false=>rw[if_neg (by simp),if_neg (by simp),F.R17_putEntry_j1,A.gd1 ⟨by omega,by omega⟩]
    rw[F.R17_putEntry_j3,A.ixn hy,Option.bind_some]
    show(F.R17_ahead y x).bind _=_
    rw[R17_ahead_eq,Option.bind_some]
    by_cases h1:rl (kr y) (kr x)=true
    ·rw[if_pos h1,j2,if_pos rfl,if_neg (rl_ne h1)]
    ·rw[if_neg h1,Option.bind_some]
     show(F.R17_ahead x y).bind _=_
     rw[R17_ahead_eq,Option.bind_some,j2]
     by_cases h2:rl (kr x) (kr y)=true
     ·rw[if_pos h2,if_neg (fun e=>rl_ne h2 e.symm)]
     ·rw[if_neg h2,if_pos (rl_tri (by simpa using h1) (by simpa using h2))]
   have j4: ∀b:Bool,s.1.length≤k+1→(b=true→s.1.length≤k)→F.R17_putEntry_j4 (F.R17_putEntry_l6 l x f) l x s.1 s.2 (k:Int) b=F.R17_putEntry_l6 l x f (if kr y=kr x then(if b=true then s.1++[x]else s.1)else(if b=true then s.1++[x]else s.1)++[y]) (if b=true then true else s.2) ((k:Int)+1):=fun b h1 h2=>by
    rw[F.R17_putEntry_j4]
    cases b with
    |true=>have:=h2 rfl;rw[if_pos rfl,if_pos rfl,if_pos rfl,A.gd1 (by simp only[List.length_cons,List.length_nil];omega)];exact j3 _ _ (by simp only[List.length_append,List.length_cons,List.length_nil];omega)
    |false=>
     have ff: ¬(false=true):=by simp
     rw[if_neg ff,if_neg ff,if_neg ff];exact j3 _ _ h1
   rw[F.R17_putEntry_l6,if_pos (by omega)]
   cases hs2:s.2 with
   |true=>
    obtain⟨q1,q2⟩:=hp.2 hs2
    have hlt:=q2 y (by rw[A.dropx hy];exact List.mem_cons_self ..)
    have:=j4 false q1 (fun h=>by cases h)
    rw[hs2]at this
    rw[Bool.not_true,if_neg (by simp),this,if_neg (fun e=>rl_ne hlt e.symm),if_neg (by simp),if_neg (by simp),if_pos rfl]
    refine(ih (s.1++[y],true) ⟨fun h=>(by cases h),fun _=>⟨by simp only[List.length_append,List.length_cons,List.length_nil];omega,fun z hz=>q2 z (by rw[A.dropx hy];exact List.mem_cons_of_mem _ hz)⟩⟩).trans ?_
    simp
   |false=>
    have q1:=hp.1 hs2
    rw[Bool.not_false,if_pos rfl,A.ixn hy,Option.bind_some]
    show(F.R17_ahead y x).bind _=_
    rw[R17_ahead_eq,Option.bind_some]
    have:=j4 (!rl (kr y) (kr x)) (by omega) (fun _=>q1)
    rw[hs2]at this
    rw[this,if_neg (show ¬(false=true) by simp)]
    conv=>rhs;unfold Opr.ins
    cases h1:rl (kr y) (kr x)with
    |true=>
     have hne:=rl_ne h1
     rw[Bool.not_true,if_neg hne,if_neg hne,if_neg (show ¬(false=true) by simp),if_neg (show ¬(false=true) by simp),if_neg (by rw[rl_asy h1];simp)]
     refine(ih (s.1++[y],false) ⟨fun _=>by simp only[List.length_append,List.length_cons,List.length_nil];omega,fun h=>by cases h⟩).trans ?_
     simp
    |false=>
     rw[Bool.not_false,if_pos rfl,if_pos rfl]
     by_cases he:kr y=kr x
     ·rw[if_pos he,if_pos he]
      refine(ih (s.1++[x],true) ⟨fun h=>(by cases h),fun _=>⟨by simp only[List.length_append,List.length_cons,List.length_nil];omega,fun z hz=>he▸hd z hz⟩⟩).trans ?_
      simp
     ·have h2:rl (kr x) (kr y)=true:=by
       cases h3:rl (kr x) (kr y)with
       |true=>rfl
       |false=>exact absurd (rl_tri h1 h3) he
      rw[if_neg he,if_neg he,if_pos h2]
      refine(ih (s.1++[x]++[y],true) ⟨fun h=>(by cases h),fun _=>⟨by simp only[List.length_append,List.length_cons,List.length_nil];omega,fun z hz=>rl_tr h2 (hd z hz)⟩⟩).trans ?_
      simp)
  (by have:=FU_big;omega) ([],false) ⟨by simp,by simp⟩
 rw[F.R17_putEntry]
 exact this
theorem Put_eq (l:List Rc)(x:Rc)(hl:l.length≤100000)(hs:SK id l):F.R17_Put l x=some (Opr.ins id x l):=by
 have:=A.lp l (fun f (s:List Rc×Bool) y=>F.R17_Put_l4 l x f s.1 s.2 y) (fun k t s=>if s.2=true then some (s.1++t)else some (s.1++Opr.ins id x t)) (fun k s=>(s.2=false→s.1.length≤k)∧(s.2=true→s.1.length≤k+1∧∀y,y∈l.drop k→rl x y=true))
  (fun f s hp=>by
   show F.R17_Put_l4 l x (f+1) s.1 s.2 _=_
   rw[F.R17_Put_l4,if_neg (by omega)]
   cases hs2:s.2 with
   |true=>rw[Bool.not_true,if_neg (by simp),if_pos rfl,F.R17_Put_j3,List.append_nil]
   |false=>rw[Bool.not_false,if_pos rfl,A.gd1 (by have:=hp.1 hs2;simp only[List.length_cons,List.length_nil];omega),if_neg (by simp),F.R17_Put_j3];rfl)
  (fun f s k y hy hk hp ih=>by
   have hsr:SK id (y::l.drop (k+1)):=by rw[←A.dropx hy];exact hs.sublist (List.drop_sublist _ _)
   have hd: ∀z,z∈l.drop (k+1)→rl y z=true:=(List.pairwise_cons.1 hsr).1
   show F.R17_Put_l4 l x (f+1) s.1 s.2 _=_
   have j2: ∀(xs:List Rc) (d:Bool),xs.length≤k+1→F.R17_Put_j2 (F.R17_Put_l4 l x f) l (k:Int) (cR x y) xs d=F.R17_Put_l4 l x f (if x=y then xs else xs++[y]) d ((k:Int)+1):=fun xs d hx=>by
    rw[F.R17_Put_j2]
    by_cases he:x=y
    ·rw[if_neg (fun h=>(cR_ne x y).1 h he),if_pos he,F.R17_Put_j1,A.gd1 ⟨by omega,by omega⟩]
    ·rw[if_pos ((cR_ne x y).2 he),if_neg he,A.ixn hy,Option.bind_some,A.gd1 (by simp only[List.length_cons,List.length_nil];omega),F.R17_Put_j1,A.gd1 ⟨by omega,by omega⟩]
   rw[F.R17_Put_l4,if_pos (by omega),A.ixn hy,Option.bind_some]
   show(F.R05_Compare x y).bind _=_
   rw[R05_Compare_eq,Option.bind_some]
   cases hs2:s.2 with
   |true=>
    obtain⟨q1,q2⟩:=hp.2 hs2
    have hlt:=q2 y (by rw[A.dropx hy];exact List.mem_cons_self ..)
    rw[Bool.not_true,cond_false,if_neg (show ¬(false=true) by simp),j2 _ _ q1,if_neg (rl_ne hlt),if_pos rfl]
    refine(ih (s.1++[y],true) ⟨fun h=>(by cases h),fun _=>⟨by simp only[List.length_append,List.length_cons,List.length_nil];omega,fun z hz=>q2 z (by rw[A.dropx hy];exact List.mem_cons_of_mem _ hz)⟩⟩).trans ?_
    simp
   |false=>
    have q1:=hp.1 hs2
    rw[Bool.not_false,cond_true,cR_le,if_neg (show ¬(false=true) by simp)]
    conv=>rhs;unfold Opr.ins
    cases h1:rl y x with
    |true=>
     have hne: ¬x=y:=fun e=>rl_ne h1 e.symm
     rw[Bool.not_true,if_neg (show ¬(false=true) by simp),j2 _ _ (by omega),if_neg hne,if_neg (show ¬(id y=id x)from rl_ne h1),if_neg (show ¬(rl (id x) (id y)=true) by rw[show rl (id x) (id y)=false from rl_asy h1];simp)]
     refine(ih (s.1++[y],false) ⟨fun _=>by simp only[List.length_append,List.length_cons,List.length_nil];omega,fun h=>(by cases h)⟩).trans ?_
     simp
    |false=>
     rw[Bool.not_false,if_pos rfl,A.gd1 (by simp only[List.length_cons,List.length_nil];omega),j2 _ _ (by simp only[List.length_append,List.length_cons,List.length_nil];omega)]
     by_cases he:x=y
     ·rw[if_pos he,if_pos (show id y=id x from he.symm)]
      refine(ih (s.1++[x],true) ⟨fun h=>(by cases h),fun _=>⟨by simp only[List.length_append,List.length_cons,List.length_nil];omega,fun z hz=>by rw[he];exact hd z hz⟩⟩).trans ?_
      simp
     ·have h2:rl x y=true:=by
       cases h3:rl x y with
       |true=>rfl
       |false=>exact absurd (rl_tri h3 h1) he
      rw[if_neg he,if_neg (show ¬(id y=id x)from fun e=>he e.symm),if_pos (show rl (id x) (id y)=true from h2)]
      refine(ih (s.1++[x]++[y],true) ⟨fun h=>(by cases h),fun _=>⟨by simp only[List.length_append,List.length_cons,List.length_nil];omega,fun z hz=>rl_tr h2 (hd z hz)⟩⟩).trans ?_
      simp)
  (by have:=FU_big;omega) ([],false) ⟨by simp,by simp⟩
 rw[F.R17_Put]
 exact this
theorem cut5_eq {s:ByteArray}(hs:s.size≤5000)(hv:vld s s.size 0=true):F.R05_Cut s 64=some (cut s):=R05_Cut_eq s 64 hs hv
abbrev puts (out l:List Rc):List Rc:=l.foldl (fun a r=>Opr.ins id r a) out
theorem puts_sk: ∀(l out:List Rc),SK id out→SK id (puts out l)
 | [],_,h=>h
 |r::l,out,h=>puts_sk l _ (ins_sk h)
theorem puts_len: ∀(l out:List Rc),(puts out l).length≤out.length+l.length
 | [],_=>Nat.le_refl _
 |r::l,out=>by
  have h1:=puts_len l (Opr.ins id r out)
  have h2:=ins_len (k:=id) (e:=r) out
  show(puts (Opr.ins id r out) l).length≤_
  rw[List.length_cons];omega
theorem joins5_eq (k:Int)(out:List Rc)(a b:List Mn)(ho:SK id out)(hol:out.length≤2000)(ha:Bag a)(hb:Bag b)(hal:a.length≤100)(hbl:b.length≤100)(hk: ∀m,m∈a→m.1.1=k):F.R17_joins out a b=some (puts out (joinsG k a b)):=by
 have hFU:=FU_big
 have inner: ∀(j:Nat) (p:Mn) (out:List Rc) (k3:List Rc→Int→Option (List Rc)),a[j]?=some p→j<a.length→SK id out→out.length≤2000+100*j→F.R17_joins_l1 k3 a b (j:Int) A.FU out 0=k3 (puts out (b.map fun q=>(k,cut ((p.1.2++ByteArray.mk #[43])++q.1.2)))) ((j:Int)+1):=fun j p out k3 hp hj hs hl=>by
  have hpm:=List.mem_of_getElem? hp
  have p64:=okT_iff.1 (ha.txt p hpm)
  refine(A.lp b (fun n (s:List Rc) y=>F.R17_joins_l1 k3 a b (j:Int) n s y) (fun _ r s=>k3 (puts s (r.map fun q=>(k,cut ((p.1.2++ByteArray.mk #[43])++q.1.2)))) ((j:Int)+1)) (fun i s=>SK id s∧s.length≤2000+100*j+i)
   (fun n s hq=>by
    show F.R17_joins_l1 k3 a b (j:Int) (n+1) s _=_
    rw[F.R17_joins_l1,if_neg (by omega),A.gd1 ⟨by omega,by omega⟩];rfl)
   (fun n s i q hq hi hps ih=>by
    have q64:=okT_iff.1 (hb.txt q (List.mem_of_getElem? hq))
    have e43:(ByteArray.mk #[43]).size=1:=rfl
    have v1:=(vld_app (vld_app p64.2 plus_ok).1 q64.2).1
    have hps1:=hps.1
    have hps2:=hps.2
    have h2:=ins_len (k:=id) (e:=((k,cut ((p.1.2++ByteArray.mk #[43])++q.1.2)):Rc)) s
    show F.R17_joins_l1 k3 a b (j:Int) (n+1) s _=_
    rw[F.R17_joins_l1,if_pos (by omega),A.ixn hp,Option.bind_some,A.gd1 (by omega),A.ixn hq,Option.bind_some,A.gd1 (by rw[ByteArray.size_append];omega),cut5_eq (by rw[ByteArray.size_append,ByteArray.size_append];omega) v1,Option.bind_some,Option.bind_some,hk p hpm,Put_eq s _ (by omega) hps1,Option.bind_some,A.gd1 ⟨by omega,by omega⟩]
    exact ih _ ⟨ins_sk hps1,by omega⟩)
   (by omega) out ⟨hs,by omega⟩).trans rfl
 have:=A.lp a (fun n (s:List Rc) y=>F.R17_joins_l2 a b n s y) (fun _ r s=>some (puts s (joinsG k r b))) (fun j s=>SK id s∧s.length≤2000+100*j)
  (fun n s hq=>by
   show F.R17_joins_l2 a b (n+1) s _=_
   rw[F.R17_joins_l2,if_neg (by omega)];rfl)
  (fun n s j p hp hj hps ih=>by
   show F.R17_joins_l2 a b (n+1) s _=_
   have hl:=puts_len (b.map fun q=>(k,cut ((p.1.2++ByteArray.mk #[43])++q.1.2))) s
   rw[List.length_map]at hl
   rw[F.R17_joins_l2,if_pos (by omega),inner j p s _ hp hj hps.1 hps.2]
   refine(ih _ ⟨puts_sk _ _ hps.1,by have:=hps.2;omega⟩).trans ?_
   show some (puts (puts s _) _)=some (puts s (joinsG k (p::a.drop (j+1)) b))
   have e:joinsG k (p::a.drop (j+1)) b=(b.map fun q=>(k,cut ((p.1.2++ByteArray.mk #[43])++q.1.2)))++joinsG k (a.drop (j+1)) b:=List.flatMap_cons ..
   rw[e,puts,puts,puts,List.foldl_append])
  (by omega) out ⟨ho,by omega⟩
 rw[F.R17_joins]
 exact this
theorem has_eq5 (st:List En)(r:Rc)(hl:st.length≤1000):F.R17_has st r=some (st.any fun e=>decide (kr e=r)):=by
 have:=A.lp0 st (fun f y=>F.R17_has_l2 st r f y) (fun _ t=>some (t.any fun e=>decide (kr e=r)))
  (fun f=>by rw[F.R17_has_l2,if_neg (by omega)];rfl)
  (fun f k x hx hk ih=>by
   have j1: ∀b:Bool,F.R17_has_j1 (F.R17_has_l2 st r f) (k:Int) b=some (b||(st.drop (k+1)).any fun e=>decide (kr e=r)):=fun b=>by
    rw[F.R17_has_j1]
    cases b with
    |true=>rw[if_pos rfl];rfl
    |false=>rw[if_neg (by simp),A.gd1 ⟨by omega,by omega⟩,ih];rfl
   rw[F.R17_has_l2,if_pos (by omega),A.ixn hx,Option.bind_some,List.any_cons]
   by_cases h1:x.2.1=r.1
   ·rw[if_pos h1,Option.bind_some,j1]
    congr 2
    congr 1
    exact propext ⟨fun h2=>Prod.ext h1 h2,fun h=>(Prod.mk.inj (h:((x.2.1,x.2.2.1):Rc)=(r.1,r.2))).2⟩
   ·rw[if_neg h1,j1,decide_eq_false (fun h:kr x=r=>h1 (Prod.mk.inj (h:((x.2.1,x.2.2.1):Rc)=(r.1,r.2))).1)])
  (by have:=FU_big;omega)
 rw[F.R17_has]
 exact this
theorem total_eq (n:Nd)(k:Int)(g:List Mn)(st:List En)(hf:chk 11 n.2.2.2.1=0)(hs:n.2.2.2.1.2.2.size≤1000)(hg:Bag g)(hgl:g.length≤1000)(hst:SK kr st)(h2:St2 n.1 st)(hsl:st.length≤1000):F.R17_total n (k,g) st=some (tot n.2.2.2.1 (vE st (k,nil8)) g):=by
 have hFU:=FU_big
 have second: ∀v,0≤v→v≤1099511627776→F.R17_total_l2 n (k,g) A.FU v 0=some (tot n.2.2.2.1 v g):=fun v h0 h1=>
  A.lp g (fun f (s:Int) y=>F.R17_total_l2 n (k,g) f s y) (fun _ r s=>some (tot n.2.2.2.1 s r)) (fun _ s=>0≤s∧s≤1099511627776)
   (fun f s hp=>by show F.R17_total_l2 n (k,g) (f+1) s _=_;rw[F.R17_total_l2,if_neg (by simp)];rfl)
   (fun f s j y hy hj hp ih=>by
    have hym:=List.mem_of_getElem? hy
    have hot:=hg.txt y hym
    obtain⟨q1,q2⟩:=meas_top n.2.2.2.1 y.1 hot
    obtain⟨q3,q4⟩:=mul_top q1 q2 (hg.one y hym) (hg.top y hym)
    have gR:Z.R64 (meas n.2.2.2.1 y.1*y.2)∧Z.R64 (s+meas n.2.2.2.1 y.1*y.2):=⟨⟨by omega,by omega⟩,by omega,by omega⟩
    show F.R17_total_l2 n (k,g) (f+1) s _=_
    rw[F.R17_total_l2,if_pos (by show(j:Int)<(g.length:Int);omega)]
    show(A.ix g (j:Int)).bind _=_
    rw[A.ixn hy,Option.bind_some]
    show(F.R06_Measure n.2.2.2.1 y.1).bind _=_
    rw[Measure5_eq _ _ hf hs hot,Option.bind_some,Option.bind_some,A.gd1 (by exact gR),A.gd1 ⟨by omega,by omega⟩]
    refine(ih (min 1099511627776 (s+meas n.2.2.2.1 y.1*y.2)) ⟨by omega,by omega⟩).trans ?_
    show some (tot n.2.2.2.1 (min 1099511627776 (s+meas n.2.2.2.1 y.1*y.2)) _)=some (tot n.2.2.2.1 (min (s+meas n.2.2.2.1 y.1*y.2) 1099511627776) _)
    rw[Int.min_comm])
   (by omega) v ⟨h0,h1⟩
 have lst: ∀(l:List En) (v:Int),SK kr l→St2 n.1 l→l.foldl (fun v e=>if e.2.1=k then num e else v) v=if l.any (fun e=>decide (kr e=(k,nil8)))then vE l (k,nil8)else v:=by
  intro l
  induction l with
  |nil=>intro v _ _;rfl
  |cons x l ih=>
   intro v hs h2
   obtain⟨s1,s2⟩:=List.pairwise_cons.1 hs
   have hx:=(h2 x (List.mem_cons_self ..)).2.1
   have ih2:=fun v=>ih v s2 fun e he=>h2 e (List.mem_cons_of_mem _ he)
   rw[List.foldl_cons,ih2,List.any_cons]
   by_cases h1:x.2.1=k
   ·have hk:kr x=(k,nil8):=Prod.ext h1 hx
    have hno:(l.any fun e=>decide (kr e=(k,nil8)))=false:=by
     rw[List.any_eq_false]
     intro e he h3
     exact rl_ne (s1 e he) (hk.trans (of_decide_eq_true h3).symm)
    rw[hno,if_pos h1,decide_eq_true hk]
    unfold vE
    rw[if_pos hk];rfl
   ·have hk: ¬kr x=(k,nil8):=fun h=>h1 (Prod.mk.inj (h:((x.2.1,x.2.2.1):Rc)=(k,nil8))).1
    rw[if_neg h1,decide_eq_false hk,Bool.false_or]
    conv=>rhs;unfold vE
    rw[if_neg hk]
 have fin:st.foldl (fun v e=>if e.2.1=k then num e else v) 0=vE st (k,nil8):=by
  rw[lst st 0 hst h2]
  cases h:(st.any fun e=>decide (kr e=(k,nil8)))with
  |true=>rfl
  |false=>
   rw[if_neg (by simp)]
   refine(vE_none fun e he h3=>?_).symm
   exact List.any_eq_false.1 h e he (decide_eq_true h3)
 have hv:=vE_rng h2 (k,nil8)
 have first:=A.lp st (fun f (s:Int) y=>F.R17_total_l3 n (k,g) st f s y) (fun _ r s=>if 0≤s∧s≤1099511627776 then some (tot n.2.2.2.1 (r.foldl (fun v e=>if e.2.1=k then num e else v) s) g)else none) (fun _ s=>0≤s∧s≤1099511627776)
  (fun f s hp=>by
   show F.R17_total_l3 n (k,g) st (f+1) s _=_
   rw[F.R17_total_l3,if_neg (by omega),second s hp.1 hp.2,if_pos hp];rfl)
  (fun f s j x hx hj hp ih=>by
   have hx2:=(h2 x (List.mem_of_getElem? hx)).2.2
   have j1: ∀v,0≤v∧v≤1099511627776→F.R17_total_j1 (F.R17_total_l3 n (k,g) st f) (j:Int) v=some (tot n.2.2.2.1 ((st.drop (j+1)).foldl (fun v e=>if e.2.1=k then num e else v) v) g):=fun v hv=>by
    rw[F.R17_total_j1,A.gd1 ⟨by omega,by omega⟩]
    refine(ih v hv).trans ?_
    rw[if_pos hv]
   show F.R17_total_l3 n (k,g) st (f+1) s _=_
   rw[F.R17_total_l3,if_pos (by omega),A.ixn hx,Option.bind_some,if_pos hp,List.foldl_cons]
   by_cases h1:x.2.1=k
   ·rw[if_pos (show x.2.1=(k,g).1 from h1),if_pos h1,Option.bind_some]
    exact j1 _ hx2
   ·rw[if_neg (show ¬x.2.1=(k,g).1 from h1),if_neg h1]
    exact j1 _ hp)
  (by omega) 0 ⟨by omega,by omega⟩
 rw[F.R17_total]
 refine first.trans ?_
 rw[if_pos ⟨by omega,by omega⟩,fin]
end Go.Proofs.YtbljnlkhebiniaaGreatDoor
end
section
set_option maxRecDepth 20000
set_option linter.unusedVariables false
set_option linter.unusedSimpArgs false
namespace Go.Proofs.YtbljnlkhebiniaaGreatDoor
open Go.RowKit Go.Graph Go.Utf Go.Ent Go.Opr
theorem R05_CheckBag_eq (l:List Mn)(hl:l.length≤maxLen):F.R05_CheckBag l=some (chkB l):=by
 have hl':l.length≤9223372036854775807:=by simpa[maxLen] using hl
 have second:F.R05_CheckBag_l2 l A.FU 0=some (if bagF none l=true then 0 else 51):=
  A.lp0 l (fun f y=>F.R05_CheckBag_l2 l f y) (fun k r=>some (if bagF (prvM l k) r=true then 0 else 51))
   (fun f=>by rw[F.R05_CheckBag_l2,if_neg (by omega)];cases prvM l l.length<;>rfl)
   (fun f k x hx hk ih=>by
    rw[F.R05_CheckBag_l2,if_pos (by omega),A.ixn hx,Option.bind_some]
    rw[prvM_s l k hx]at ih
    have nx: ∀b:Bool,F.R05_CheckBag_j1 (F.R05_CheckBag_l2 l f) (k:Int) b=some (if(!b&&bagF (some x) (l.drop (k+1)))=true then 0 else 51):=fun b=>by
     rw[F.R05_CheckBag_j1]
     cases b with
     |true=>rw[if_pos rfl];rfl
     |false=>rw[if_neg (by simp),A.gd1 ⟨by omega,by omega⟩,ih];rfl
    by_cases h1:x.2<1
    ·rw[if_pos h1,nx]
     have:bagF (prvM l k) (x::l.drop (k+1))=false:=by
      cases prvM l k<;>unfold bagF<;>rw[decide_eq_false (show ¬1≤x.2 by omega)]<;>rfl
     rw[this];rfl
    rw[if_neg h1,Option.bind_some]
    by_cases h2:(1048576:Int)<x.2
    ·rw[if_pos h2,nx]
     have:bagF (prvM l k) (x::l.drop (k+1))=false:=by
      cases prvM l k<;>unfold bagF<;>rw[decide_eq_false (show ¬x.2≤1048576 by omega),Bool.and_false]<;>rfl
     rw[this];rfl
    rw[if_neg h2]
    by_cases hk0:k=0
    ·subst hk0
     rw[if_neg (by omega),nx]
     show _=some (if(decide (1≤x.2)&&decide (x.2≤1048576)&&bagF (some x) (l.drop (0+1)))=true then 0 else 51)
     rw[decide_eq_true (show 1≤x.2 by omega),decide_eq_true (show x.2≤1048576 by omega)];rfl
    ·have hp:prvM l k=l[k-1]?:=by unfold prvM;rw[if_neg hk0]
     obtain⟨p,hpp⟩: ∃p,l[k-1]?=some p:=⟨_,List.getElem?_eq_getElem (by omega)⟩
     rw[if_pos (by omega),A.gd1 ⟨by omega,by omega⟩,show(k:Int)-1=((k-1:Nat):Int) by omega,A.ixn hpp,Option.bind_some,Option.bind_some]
     show(F.R05_Compare p.1 x.1).bind _=_
     rw[R05_Compare_eq,Option.bind_some,nx,cR_ge,hp,hpp]
     show _=some (if(decide (1≤x.2)&&decide (x.2≤1048576)&&rl p.1 x.1&&bagF (some x) (l.drop (k+1)))=true then 0 else 51)
     rw[decide_eq_true (show 1≤x.2 by omega),decide_eq_true (show x.2≤1048576 by omega),Bool.not_not];rfl)
   (by have:=FU_big;omega)
 have first:=A.lp0 l (fun f y=>F.R05_CheckBag_l3 l f y) (fun k r=>some (if(r.any fun m=> !okT m.1.2)=true then 50 else if bagF none l=true then 0 else 51))
  (fun f=>by rw[F.R05_CheckBag_l3,if_neg (by omega),second];rfl)
  (fun f k x hx hk ih=>by
   rw[F.R05_CheckBag_l3,if_pos (by omega),A.ixn hx,Option.bind_some]
   show(F.R05_Check x.1).bind _=_
   rw[R05_Check_eq,Option.bind_some,List.any_cons]
   cases ho:okT x.1.2 with
   |true=>rw[if_pos rfl,if_neg (by simp),A.gd1 ⟨by omega,by omega⟩,ih];rfl
   |false=>rfl)
  (by have:=FU_big;omega)
 rw[F.R05_CheckBag]
 exact first
def gpu (m:Mn):List (Int×List Mn)→List (Int×List Mn)
 | []=>[(m.1.1,[m])]
 | [g]=>if g.1=m.1.1 then [(g.1,g.2++[m])]else [g,(m.1.1,[m])]
 |g::h::r=>g::gpu m (h::r)
theorem gpu_last (m:Mn)(g:Int×List Mn): ∀ys:List (Int×List Mn),gpu m (ys++[g])=if g.1=m.1.1 then ys++[(g.1,g.2++[m])]else ys++[g]++[(m.1.1,[m])]
 | []=>rfl
 | [y]=>by
  show y::gpu m [g]=_
  unfold gpu
  split<;>rfl
 |y::z::ys=>by
  have ih:=gpu_last m g (z::ys)
  show y::gpu m (z::ys++[g])=_
  rw[ih]
  split<;>rfl
theorem grp_snoc (m:Mn): ∀l:List Mn,grp (l++[m])=gpu m (grp l)
 | []=>rfl
 |x::l=>by
  have ih:=grp_snoc m l
  rw[List.cons_append,grp_cons,ih,grp_cons]
  rcases grp_head l with⟨rfl,h⟩|⟨m',t,g,r,rfl,h⟩
  ·rw[h]
   show(if x.1.1=m.1.1 then [(m.1.1,x::[m])]else [(x.1.1,[x]),(m.1.1,[m])])=gpu m [(x.1.1,[x])]
   unfold gpu
   by_cases e:x.1.1=m.1.1
   ·rw[if_pos e,if_pos e,e];rfl
   ·rw[if_neg e,if_neg e]
  ·rw[h]
   cases r with
   |nil=>
    by_cases e1:m'.1.1=m.1.1
    ·have:gpu m [(m'.1.1,m'::g)]=[(m'.1.1,(m'::g)++[m])]:=by unfold gpu;rw[if_pos e1]
     rw[this]
     by_cases e2:x.1.1=m'.1.1
     ·simp only[if_pos e2];unfold gpu;rw[if_pos e1];rfl
     ·simp only[if_neg e2]
      show _=(x.1.1,[x])::gpu m [(m'.1.1,m'::g)]
      rw[this]
    ·have:gpu m [(m'.1.1,m'::g)]=[(m'.1.1,m'::g),(m.1.1,[m])]:=by unfold gpu;rw[if_neg e1]
     rw[this]
     by_cases e2:x.1.1=m'.1.1
     ·simp only[if_pos e2];unfold gpu;rw[if_neg e1]
     ·simp only[if_neg e2]
      show _=(x.1.1,[x])::gpu m [(m'.1.1,m'::g)]
      rw[this]
   |cons h2 r2=>
    show(if x.1.1=m'.1.1 then(m'.1.1,x::m'::g)::gpu m (h2::r2)else(x.1.1,[x])::(m'.1.1,m'::g)::gpu m (h2::r2))=_
    by_cases e2:x.1.1=m'.1.1
    ·simp only[if_pos e2];rfl
    ·simp only[if_neg e2];rfl
theorem grp_fold: ∀(l a:List Mn),l.foldl (fun s m=>gpu m s) (grp a)=grp (a++l)
 | [],a=>by rw[List.append_nil];rfl
 |m::l,a=>by
  show l.foldl (fun s m=>gpu m s) (gpu m (grp a))=_
  rw[←grp_snoc,grp_fold l (a++[m]),List.append_assoc];rfl
theorem ixlast {α:Type}(ys:List α)(g:α):A.ix (ys++[g]) (((ys++[g]).length:Int)-1)=some g:=by
 rw[show(((ys++[g]).length:Int)-1)=((ys.length:Nat):Int) by rw[List.length_append,List.length_singleton];omega]
 exact A.ixn (by simp)
theorem setlast {α:Type}(ys:List α)(g v:α):List.set (ys++[g]) (((ys++[g]).length:Int)-1).toNat v=ys++[v]:=by
 have e:(((ys++[g]).length:Int)-1).toNat=ys.length:=by rw[List.length_append,List.length_singleton];omega
 rw[e,List.set_append_right _ _ (Nat.le_refl _),Nat.sub_self];rfl
theorem Keys5_eq (l:List Mn)(hl:l.length≤1000):F.R17_Keys l=some (if chkB l≠0 then []else grp l):=by
 have hFU:=FU_big
 rw[F.R17_Keys,R05_CheckBag_eq l (by unfold maxLen;omega),Option.bind_some]
 by_cases h:chkB l≠0
 ·rw[if_pos h,if_pos h]
 rw[if_neg h,if_neg h]
 refine(A.lp l (fun f (s:List (Int×List Mn)) y=>F.R17_Keys_l3 l f s y) (fun _ r s=>some (r.foldl (fun s m=>gpu m s) s)) (fun k s=>s.length≤k∧∀g,g∈s→g.2.length≤k)
  (fun f s hp=>by show F.R17_Keys_l3 l (f+1) s _=_;rw[F.R17_Keys_l3,if_neg (by omega)];rfl)
  (fun f s k x hx hk hp ih=>by
   obtain⟨p1,p2⟩:=hp
   show F.R17_Keys_l3 l (f+1) s _=some ((l.drop (k+1)).foldl (fun s m=>gpu m s) (gpu x s))
   rw[F.R17_Keys_l3,if_pos (by omega)]
   rcases List.eq_nil_or_concat s with rfl|⟨ys,g,rfl⟩
   ·rw[if_neg (by simp),F.R17_Keys_j2,if_neg (by simp),A.ixn hx,Option.bind_some,Option.bind_some,A.gd1 (by simp),F.R17_Keys_j1,A.gd1 ⟨by omega,by omega⟩]
    exact ih [(x.1.1,[x])] ⟨by simp,fun g hg=>by obtain rfl:=List.mem_singleton.1 hg;simp⟩
   ·rw[List.concat_eq_append]at p1 p2 ⊢
    have hlen:(ys++[g]).length=ys.length+1:=by simp
    have hg:=p2 g (by simp)
    have hr:Z.R64 (((ys++[g]).length:Int)-1):=⟨by omega,by omega⟩
    rw[if_pos (by omega),A.gd1 hr,ixlast,Option.bind_some,A.ixn hx,Option.bind_some,F.R17_Keys_j2,gpu_last]
    by_cases e:g.1=x.1.1
    ·rw[if_pos (decide_eq_true e),if_pos e,A.gd1 hr,A.gd1 hr,ixlast,Option.bind_some,A.ixn hx,Option.bind_some,A.gd1 (by simp only[List.length_cons,List.length_nil];omega),Option.bind_some,F.R17_Keys_j1,A.gd1 ⟨by omega,by omega⟩,setlast]
     refine ih (ys++[(g.1,g.2++[x])]) ⟨by simp only[List.length_append,List.length_cons,List.length_nil]at p1 ⊢;omega,fun q hq=>?_⟩
     rcases List.mem_append.1 hq with hq|hq
     ·have:=p2 q (List.mem_append_left _ hq);omega
     ·obtain rfl:=List.mem_singleton.1 hq
      simp only[List.length_append,List.length_cons,List.length_nil];omega
    ·rw[if_neg (by simpa using e),if_neg e,A.ixn hx,Option.bind_some,Option.bind_some,A.gd1 (by simp only[List.length_append,List.length_cons,List.length_nil]at p1 ⊢;omega),F.R17_Keys_j1,A.gd1 ⟨by omega,by omega⟩]
     refine ih (ys++[g]++[(x.1.1,[x])]) ⟨by simp only[List.length_append,List.length_cons,List.length_nil]at p1 ⊢;omega,fun q hq=>?_⟩
     rcases List.mem_append.1 hq with hq|hq
     ·have:=p2 q hq;omega
     ·obtain rfl:=List.mem_singleton.1 hq
      simp only[List.length_cons,List.length_nil];omega)
  (by omega) [] ⟨by simp,by simp⟩).trans ?_
 exact congrArg some ((grp_fold l []).trans (by rw[List.nil_append]))
theorem SameBag_eq (p:List Mn)(hl:p.length≤1000):F.R05_SameBag p p=some true:=by
 rw[F.R05_SameBag,if_neg (by simp)]
 exact A.lp0 p (fun f y=>F.R05_SameBag_l1 p p f y) (fun _ _=>some true)
  (fun f=>by rw[F.R05_SameBag_l1,if_neg (by omega)])
  (fun f k x hx hk ih=>by
   rw[F.R05_SameBag_l1,if_pos (by omega),A.ixn hx,Option.bind_some,Option.bind_some,if_neg (by simp),A.gd1 ⟨by omega,by omega⟩,ih])
  (by have:=FU_big;omega)
theorem bd_all (n:Nat): ∀(cs:List Rn) (p:Nat),p+(flat cs).length≤n→bd n p cs=p+(flat cs).length
 | [],p,_=>by simp[bd,flat]
 |c::cs,p,h=>by
  rw[flat_cons,List.length_append]at h
  rw[bd,if_pos (by omega),bd_all n cs _ (by omega),flat_cons,List.length_append];omega
theorem cut_id {s:ByteArray}(h:okT s=true):cut s=s:=by
 obtain⟨h1,h2⟩:=okT_iff.1 h
 have h3:=(vld_cks h2).1
 have h4:(flat (cks s.data.toList)).length=s.size:=by rw[h3];rfl
 unfold cut
 rw[bd_all 64 _ 0 (by omega),h4,Nat.zero_add]
 refine ByteArray.ext ?_
 simp
theorem longer_eq {a b:ByteArray}(ha:okT a=true)(hb:okT b=true):F.R06_longer a b=some (decide (rns b<rns a)):=by
 rw[F.R06_longer,Runes_ok ha,Option.bind_some,Runes_ok hb,Option.bind_some,ats_len,ats_len];rfl
theorem bl_of {a b:Rc}(h:rl a b=true)(e:a.1=b.1):bl a.2 b.2=true:=by
 unfold rl at h
 rw[decide_eq_false (show ¬a.1<b.1 by omega),decide_eq_true e]at h
 simpa using h
theorem Reduce5_eq (f:Fun)(g:List Mn)(hf:chk 8 f=0)(hs:f.2.2.size≤1000)(hg:Bag g)(hl:g.length≤60)(hne:g≠[])(k:Int)(hk: ∀m,m∈g→m.1.1=k):F.R06_Reduce f g=some (red f.1 g,0):=by
 have hkd:=(chk_kind (k:=8) (by decide) hf).1
 have hFU:=FU_big
 have h8:f.1=31∨f.1=32∨f.1=33∨f.1=34:=by simpa[kinds] using hkd
 rw[F.R06_Reduce]
 show(F.R06_Check 8 f).bind _=_
 rw[R06_Check_eq 8 f (by omega),Option.bind_some,hf,if_neg (by simp),R05_CheckBag_eq g (by unfold maxLen;omega),Option.bind_some,chkB_iff.2 hg,if_neg (by simp)]
 cases g with
 |nil=>exact absurd rfl hne
 |cons m g=>
  have e0:A.ix (m::g) 0=some m:=rfl
  rw[if_neg (by simp only[List.length_cons];omega),e0,Option.bind_some]
  have hm:=hk m (List.mem_cons_self ..)
  have txt: ∀x,x∈m::g→okT x.1.2=true:=hg.txt
  have hup:(m::g).Pairwise fun a b=>bl a.1.2 b.1.2=true:=by
   have h1:SM (m::g):=hg.srt
   have: ∀(l:List Mn),(∀x,x∈l→x.1.1=k)→SM l→l.Pairwise fun a b=>bl a.1.2 b.1.2=true:=by
    intro l
    induction l with
    |nil=>intro _ _;exact List.Pairwise.nil
    |cons x l ih=>
     intro h2 h3
     obtain⟨h4,h5⟩:=List.pairwise_cons.1 h3
     exact List.pairwise_cons.2 ⟨fun y hy=>bl_of (h4 y hy) ((h2 x (List.mem_cons_self ..)).trans (h2 y (List.mem_cons_of_mem _ hy)).symm),ih (fun y hy=>h2 y (List.mem_cons_of_mem _ hy)) h5⟩
   exact this _ hk h1
  obtain⟨u1,u2⟩:=List.pairwise_cons.1 hup
  rw[List.length_cons]at hl
  have main:=A.lp g (fun n (s:List UInt8×ByteArray) y=>F.R06_Reduce_l4 f (m::g) n s.1 m.1.1 s.2 (y+1)) (fun _ r s=>some ((m.1.1,cut (redT f.1 (if f.1=34 then ByteArray.mk s.1.toArray else s.2) r)),(0:Int)))
   (fun j s=>s.1.length≤64*(j+1)∧okT s.2=true∧(∀y,y∈g.drop j→bl s.2 y.1.2=true)∧vld (ByteArray.mk s.1.toArray) (ByteArray.mk s.1.toArray).size 0=true)
   (fun n s hp=>by
    obtain⟨p1,p2,_,p4⟩:=hp
    show F.R06_Reduce_l4 f (m::g) (n+1) s.1 m.1.1 s.2 ((g.length:Int)+1)=some ((m.1.1,cut (if f.1=34 then ByteArray.mk s.1.toArray else s.2)),0)
    rw[F.R06_Reduce_l4,if_neg (by simp only[List.length_cons];omega)]
    by_cases h34:f.1=34
    ·rw[if_pos h34,if_pos h34,cut5_eq (by show s.1.toArray.size≤_;simp;omega) p4,Option.bind_some,F.R06_Reduce_j3]
    ·rw[if_neg h34,if_neg h34,F.R06_Reduce_j3,cut_id p2])
   (fun n s j x hx hj hp ih=>by
    obtain⟨p1,p2,p3,p4⟩:=hp
    have hxm:x∈m::g:=List.mem_cons_of_mem _ (List.mem_of_getElem? hx)
    have hox:=txt x hxm
    have hx64:=(okT_iff.1 hox).1
    have hkx:x.1.1=m.1.1:=(hk x hxm).trans hm.symm
    have hdr:g.drop j=x::g.drop (j+1):=A.dropx hx
    have hsx:bl s.2 x.1.2=true:=p3 x (by rw[hdr];exact List.mem_cons_self ..)
    have hpx:(x::g.drop (j+1)).Pairwise fun a b=>bl a.1.2 b.1.2=true:=hdr▸u2.sublist (List.drop_sublist _ _)
    obtain⟨q1,_⟩:=List.pairwise_cons.1 hpx
    have hmk:ByteArray.mk (s.1++x.1.2.data.toList).toArray=ByteArray.mk s.1.toArray++x.1.2:=ByteArray.ext (by simp)
    have v2:=(vld_app p4 (okT_iff.1 hox).2).1
    rw[←hmk]at v2
    have hix:A.ix (m::g) ((j:Int)+1)=some x:=by
     rw[show(j:Int)+1=((j+1:Nat):Int) by omega];exact A.ixn (by rw[List.getElem?_cons_succ];exact hx)
    have nx: ∀b:Bool,F.R06_Reduce_j2 (F.R06_Reduce_l4 f (m::g) n) s.1 m.1.1 s.2 ((j:Int)+1) x b=some ((m.1.1,cut (redT f.1 (if f.1=34 then ByteArray.mk (s.1++x.1.2.data.toList).toArray else if b=true then x.1.2 else s.2) (g.drop (j+1)))),0):=fun b=>by
     rw[F.R06_Reduce_j2]
     cases b with
     |true=>
      rw[if_pos rfl,F.R06_Reduce_j1,A.gd1 ⟨by omega,by omega⟩,hkx]
      exact ih (s.1++x.1.2.data.toList,x.1.2) ⟨by rw[List.length_append,size_list];omega,hox,q1,v2⟩
     |false=>
      rw[if_neg (by simp),F.R06_Reduce_j1,A.gd1 ⟨by omega,by omega⟩]
      exact ih (s.1++x.1.2.data.toList,s.2) ⟨by rw[List.length_append,size_list];omega,p2,fun y hy=>bl_tr hsx (q1 y hy),v2⟩
    show F.R06_Reduce_l4 f (m::g) (n+1) s.1 m.1.1 s.2 ((j:Int)+1)=some ((m.1.1,cut (redT f.1 (if f.1=34 then(if f.1=34 then ByteArray.mk s.1.toArray else s.2)++x.1.2 else if aheadP f.1 x.1.2 (if f.1=34 then ByteArray.mk s.1.toArray else s.2)=true then x.1.2 else(if f.1=34 then ByteArray.mk s.1.toArray else s.2)) (g.drop (j+1)))),0)
    rw[F.R06_Reduce_l4,if_pos (by simp only[List.length_cons];omega),hix,Option.bind_some,if_neg (fun h=>h hkx),A.gd1 (by omega)]
    rcases h8 with h|h|h|h
    ·rw[if_neg (by omega),if_neg (by omega),nx]
     simp only[if_neg (show ¬f.1=34 by omega)]
     have:aheadP f.1 x.1.2 s.2=false:=by unfold aheadP;rw[if_pos h];exact bl_asy hsx
     rw[this]
    ·rw[if_pos h,nx]
     simp only[if_neg (show ¬f.1=34 by omega)]
     have hne2:x.1.2≠s.2:=fun e=>by rw[e,bl_irr]at hsx;cases hsx
     have:aheadP f.1 x.1.2 s.2=true:=by unfold aheadP;rw[if_neg (by omega),if_pos h,bl_asy hsx,decide_eq_false hne2];rfl
     simp only[this,if_true,eq_self]
    ·rw[if_neg (by omega),if_pos h,longer_eq hox p2,Option.bind_some,nx]
     simp only[if_neg (show ¬f.1=34 by omega)]
     have:aheadP f.1 x.1.2 s.2=decide (rns s.2<rns x.1.2):=by unfold aheadP;rw[if_neg (by omega),if_neg (by omega),bl_asy hsx,Bool.and_false,Bool.or_false]
     rw[this]
    ·rw[if_neg (by omega),if_neg (by omega),nx]
     simp only[if_pos h]
     rw[hmk])
   (by omega) (m.1.2.data.toList,m.1.2) ⟨by rw[size_list];have:=(okT_iff.1 (txt m (List.mem_cons_self ..))).1;show m.1.2.size≤_;omega,txt m (List.mem_cons_self ..),fun y hy=>u1 y (by simpa using hy),(okT_iff.1 (txt m (List.mem_cons_self ..))).2⟩
  refine main.trans ?_
  show some ((m.1.1,cut (redT f.1 (if f.1=34 then m.1.2 else m.1.2) g)),(0:Int))=_
  rw[ite_self];rfl
end Go.Proofs.YtbljnlkhebiniaaGreatDoor
end
section
set_option maxRecDepth 20000
set_option linter.unusedVariables false
set_option linter.unusedSimpArgs false
namespace Go.Proofs.YtbljnlkhebiniaaGreatDoor
open Go.RowKit Go.Graph Go.Utf Go.Ent Go.Opr
def tG (kind:Int)(f:Fun)(id:Int)(b:List Mn)(s:List Rc×List En)(kg:Int×List Mn):List Rc×List En:=
 if kind=7∨kind=8∨kind=9 then(s.1++sc (outG kind f b kg),s.2)else if kind=11 then totS f id s kg else if kind=10 then(s.1++kg.2.map (·.1),s.2)else kg.2.foldl (frS id) s
theorem frS_app (id:Int)(st:List En): ∀(l:List Mn) (o:List Rc) (st:List En),l.foldl (frS id) (o,st)=(o++(l.foldl (frS id) ([],st)).1,(l.foldl (frS id) ([],st)).2)
 | [],o,st=>by simp
 |m::l,o,st=>by
  rw[List.foldl_cons,List.foldl_cons]
  by_cases h:vE st m.1=0
  ·have e: ∀o:List Rc,frS id (o,st) m=(o++[m.1],Opr.ins kr (id,m.1.1,m.1.2,1) st):=fun o=>if_pos h
   rw[e,e,frS_app id st l (o++[m.1]),frS_app id st l ([]++[m.1])]
   simp
  ·have e: ∀o:List Rc,frS id (o,st) m=(o,st):=fun o=>if_neg h
   rw[e,e,frS_app id st l o]
theorem tG_app (kind:Int)(f:Fun)(id:Int)(b:List Mn)(o:List Rc)(st:List En)(kg:Int×List Mn):tG kind f id b (o,st) kg=(o++(tG kind f id b ([],st) kg).1,(tG kind f id b ([],st) kg).2):=by
 unfold tG
 split
 ·simp
 ·(split)
  ·simp[totS]
  ·(split)
   ·simp
   ·exact frS_app id st kg.2 o st
theorem puts_nil (l:List Rc):(sc l).length≤l.length:=by
 have:=puts_len l []
 rw[List.length_nil]at this
 show(puts [] l).length≤_
 omega
theorem tG_len (kind:Int)(f:Fun)(id:Int)(b:List Mn)(st:List En)(kg:Int×List Mn)(hb:b.length≤1000)(hg:kg.2.length≤60)(hne:kg.2≠[]):(tG kind f id b ([],st) kg).1.length≤70000∧(tG kind f id b ([],st) kg).2.length≤st.length+kg.2.length:=by
 have h0:0<kg.2.length:=List.length_pos_iff.2 hne
 unfold tG
 split
 ·have h1:=outG_len (kind:=kind) (f:=f) hb [kg]
  rw[List.flatMap_singleton,List.flatMap_singleton,List.length_singleton]at h1
  have h2:=puts_nil (outG kind f b kg)
  rw[List.nil_append]
  exact⟨by show(sc (outG kind f b kg)).length≤70000;omega,by simp⟩
 ·(split)
  ·refine⟨by simp[totS],?_⟩
   have:=ins_len (k:=kr) (e:=(id,kg.1,nil8,tot f (vE st (kg.1,nil8)) kg.2)) st
   show(Opr.ins kr (id,kg.1,nil8,tot f (vE st (kg.1,nil8)) kg.2) st).length≤_
   omega
  ·(split)
   ·simp;omega
   ·obtain⟨h1,h2⟩:=frS_len id kg.2 ([],st)
    simp only[List.length_nil]at h1 h2
    exact⟨by omega,h2⟩
def jF (k:Int)(g:List Mn)(s:List Rc)(h:Int×List Mn):List Rc:=if h.1=k then puts s (joinsG k g h.2)else s
theorem jF_none {k:Int}{g:List Mn}: ∀{gs:List (Int×List Mn)} {s:List Rc},(∀h,h∈gs→h.1≠k)→gs.foldl (jF k g) s=s
 | [],_,_=>rfl
 |h::gs,s,hn=>by
  rw[List.foldl_cons,show jF k g s h=s from if_neg (hn h (List.mem_cons_self ..))]
  exact jF_none fun h2 hh=>hn h2 (List.mem_cons_of_mem _ hh)
theorem jF_all {k:Int}{g:List Mn}: ∀{gs:List (Int×List Mn)},(gs.Pairwise fun a b=>a.1<b.1)→gs.foldl (jF k g) []=sc (joinsG k g ((gs.filter fun kg=>decide (kg.1=k)).flatMap (·.2)))
 | [],_=>by
  show []=sc (joinsG k g [])
  have:joinsG k g []=[]:=by unfold joinsG;simp
  rw[this];rfl
 |h::gs,hp=>by
  obtain⟨p1,p2⟩:=List.pairwise_cons.1 hp
  rw[List.foldl_cons]
  by_cases e:h.1=k
  ·have hn: ∀h2,h2∈gs→h2.1≠k:=fun h2 hh e2=>by have:=p1 h2 hh;omega
   rw[show jF k g [] h=puts [] (joinsG k g h.2)from if_pos e,jF_none hn,List.filter_cons_of_pos (by simpa using e)]
   have:gs.filter (fun kg=>decide (kg.1=k))=[]:=List.filter_eq_nil_iff.2 fun x hx=>by simpa using hn x hx
   rw[this,List.flatMap_singleton];rfl
  ·rw[show jF k g [] h=[]from if_neg e,List.filter_cons_of_neg (by simpa using e)]
   exact jF_all p2
theorem tells_eq (n:Nd)(kg:Int×List Mn)(b:List Mn)(st:List En)(hh:holdsP n.2.1=true)(hf:chk n.2.1 n.2.2.2.1=0)(hs:n.2.2.2.1.2.2.size≤1000)(hg:Bag kg.2)(hne:kg.2≠[])(hk: ∀m,m∈kg.2→m.1.1=kg.1)(hgl:kg.2.length≤60)(hb:Bag b)(hbl:b.length≤60)
  (hst:SK kr st) (hsl:st.length≤900) (h2:n.2.1=11→St2 n.1 st) (h1:n.2.1=16→St1 n.1 st):F.R17_tells n kg (grp b) st=some (tG n.2.1 n.2.2.2.1 n.1 b ([],st) kg):=by
 have hFU:=FU_big
 have hkind:n.2.1=7∨n.2.1=8∨n.2.1=9∨n.2.1=10∨n.2.1=11∨n.2.1=16:=by unfold holdsP at hh;simpa using hh
 have one: ∀r:Rc,sc [r]=[r]:=fun r=>rfl
 rw[F.R17_tells]
 unfold tG
 by_cases h7:n.2.1=7
 ·rw[if_pos h7,if_pos (.inl h7),count_eq kg.2 (by omega) hg.one hg.top,Option.bind_some]
  obtain⟨_,t1,t2⟩:=times_eq kg.2 (by omega) hg.one hg.top
  rw[Number_dec _ t1 (by omega),Option.bind_some]
  have:outG n.2.1 n.2.2.2.1 b kg=[(kg.1,dec (cntM kg.2))]:=by unfold outG;rw[if_pos h7]
  rw[this,one];rfl
 rw[if_neg h7]
 by_cases h8:n.2.1=8
 ·have hf8:=hf
  rw[h8]at hf8
  rw[if_pos h8,if_pos (.inr (.inl h8))]
  show(F.R06_Reduce n.2.2.2.1 kg.2).bind _=_
  rw[Reduce5_eq n.2.2.2.1 kg.2 hf8 hs hg hgl hne kg.1 hk,Option.bind_some]
  have:outG n.2.1 n.2.2.2.1 b kg=[red n.2.2.2.1.1 kg.2]:=by unfold outG;rw[if_neg h7,if_pos h8]
  rw[this,one];rfl
 rw[if_neg h8]
 by_cases h11:n.2.1=11
 ·have hf11:=hf
  rw[h11]at hf11
  have hst2:=h2 h11
  have tr:=tot_rng (f:=n.2.2.2.1) (g:=kg.2) (v:=vE st (kg.1,nil8)) hg.one (vE_rng hst2 _).1 (vE_rng hst2 _).2
  rw[if_pos h11,if_neg (by omega),if_pos h11]
  show(F.R17_total n (kg.1,kg.2) st).bind _=_
  rw[total_eq n kg.1 kg.2 st hf11 hs hg (by omega) hst hst2 (by omega),Option.bind_some,Number_dec _ tr.1 (by omega),Option.bind_some]
  show(F.R17_putEntry st (n.1,kg.1,nil8,tot n.2.2.2.1 (vE st (kg.1,nil8)) kg.2)).bind _=_
  rw[putE_eq st _ (by omega) hst,Option.bind_some,F.R17_tells_j1];rfl
 rw[if_neg h11]
 by_cases h9:n.2.1=9
 ·rw[if_pos h9,if_pos (.inr (.inr h9))]
  have hlen:=grp_len b
  have asc:=grp_asc hb.kl
  have:=A.lp (grp b) (fun f (s:List Rc) y=>F.R17_tells_l3 kg (grp b) st f s y) (fun _ r s=>some (r.foldl (jF kg.1 kg.2) s,st)) (fun j s=>s=[]∨∀h,h∈(grp b).drop j→h.1≠kg.1)
   (fun f s hp=>by show F.R17_tells_l3 kg (grp b) st (f+1) s _=_;rw[F.R17_tells_l3,if_neg (by omega)];rfl)
   (fun f s j x hx hj hp ih=>by
    have hxm:=List.mem_of_getElem? hx
    have hdr:(grp b).drop j=x::(grp b).drop (j+1):=A.dropx hx
    have hpa:(x::(grp b).drop (j+1)).Pairwise fun a b=>a.1<b.1:=hdr▸asc.sublist (List.drop_sublist _ _)
    obtain⟨q1,_⟩:=List.pairwise_cons.1 hpa
    have j2: ∀s':List Rc,(s'=[]∨∀h,h∈(grp b).drop (j+1)→h.1≠kg.1)→F.R17_tells_j2 (F.R17_tells_l3 kg (grp b) st f) (j:Int) s'=some (((grp b).drop (j+1)).foldl (jF kg.1 kg.2) s',st):=fun s' hs'=>by
     rw[F.R17_tells_j2,A.gd1 ⟨by omega,by omega⟩];exact ih s' hs'
    show F.R17_tells_l3 kg (grp b) st (f+1) s _=some (((grp b).drop (j+1)).foldl (jF kg.1 kg.2) (jF kg.1 kg.2 s x),st)
    rw[F.R17_tells_l3,if_pos (by omega),A.ixn hx,Option.bind_some]
    by_cases e:x.1=kg.1
    ·have hs0:s=[]:=hp.resolve_right fun h=>h x (by rw[hdr];exact List.mem_cons_self ..) e
     subst hs0
     have gl:=grp_size hb.kl hxm
     rw[if_pos e,Option.bind_some,joins5_eq kg.1 [] kg.2 x.2 List.Pairwise.nil (by simp) hg (grp_bag hb hxm) (by omega) (by omega) hk,Option.bind_some,j2 _ (.inr fun h hh e2=>by have:=q1 h hh;omega)]
     rw[show jF kg.1 kg.2 [] x=puts [] (joinsG kg.1 kg.2 x.2)from if_pos e]
    ·rw[if_neg e,j2 s (hp.imp id fun h=>fun y hy=>h y (by rw[hdr];exact List.mem_cons_of_mem _ hy)),show jF kg.1 kg.2 s x=s from if_neg e])
   (by omega) [] (.inl rfl)
  refine this.trans ?_
  rw[jF_all asc,grp_oth_flat hb.kl]
  have:outG n.2.1 n.2.2.2.1 b kg=joinsG kg.1 kg.2 (oth b kg.1):=by unfold outG;rw[if_neg h7,if_neg h8]
  rw[this];rfl
 rw[if_neg h9,if_neg (by omega),if_neg h11]
 by_cases h10:n.2.1=10
 ·rw[if_pos h10]
  have:=A.lp kg.2 (fun f (s:List Rc) y=>F.R17_tells_l5 n kg f st s y) (fun _ r s=>some (s++r.map (·.1),st)) (fun j s=>s.length≤j)
   (fun f s hp=>by show F.R17_tells_l5 n kg (f+1) st s _=_;rw[F.R17_tells_l5,if_neg (by omega)];simp)
   (fun f s j x hx hj hp ih=>by
    show F.R17_tells_l5 n kg (f+1) st s _=some (s++(x.1::((kg.2.drop (j+1)).map (·.1))),st)
    rw[F.R17_tells_l5,if_pos (by omega),A.ixn hx,Option.bind_some,if_pos h10,A.gd1 (by simp only[List.length_cons,List.length_nil];omega),F.R17_tells_j4,A.gd1 ⟨by omega,by omega⟩]
    refine(ih (s++[x.1]) (by rw[List.length_append,List.length_singleton];omega)).trans ?_
    simp)
   (by omega) [] (by simp)
  exact this
 ·rw[if_neg h10]
  have h16:n.2.1=16:=by omega
  have:=A.lp kg.2 (fun f (s:List Rc×List En) y=>F.R17_tells_l5 n kg f s.2 s.1 y) (fun _ r s=>some (r.foldl (frS n.1) s)) (fun j s=>s.1.length≤j∧SK kr s.2∧St1 n.1 s.2∧s.2.length≤900+j)
   (fun f s hp=>by show F.R17_tells_l5 n kg (f+1) s.2 s.1 _=_;rw[F.R17_tells_l5,if_neg (by omega)];rfl)
   (fun f s j x hx hj hp ih=>by
    obtain⟨p1,p2,p3,p4⟩:=hp
    show F.R17_tells_l5 n kg (f+1) s.2 s.1 _=some ((kg.2.drop (j+1)).foldl (frS n.1) (frS n.1 s x))
    rw[F.R17_tells_l5,if_pos (by omega),A.ixn hx,Option.bind_some,if_neg h10]
    show(F.R17_has s.2 x.1).bind _=_
    rw[has_eq5 _ _ (by omega),Option.bind_some]
    have hv:=vE_zero p2 p3 x.1
    have hany:(s.2.any fun e=>decide (kr e=x.1))=true↔x.1∈s.2.map kr:=by
     rw[List.any_eq_true,List.mem_map]
     exact⟨fun⟨e,h1,h2⟩=>⟨e,h1,of_decide_eq_true h2⟩,fun⟨e,h1,h2⟩=>⟨e,h1,decide_eq_true h2⟩⟩
    by_cases hm:x.1∈s.2.map kr
    ·rw[hany.2 hm,if_neg (by simp),F.R17_tells_j4,A.gd1 ⟨by omega,by omega⟩]
     have e:frS n.1 s x=s:=if_neg fun h=>hv.1 h hm
     rw[e]
     exact ih s ⟨by omega,p2,p3,by omega⟩
    ·have hfa:(s.2.any fun e=>decide (kr e=x.1))=false:=by
      cases h:(s.2.any fun e=>decide (kr e=x.1))with
      |false=>rfl
      |true=>exact absurd (hany.1 h) hm
     rw[hfa,if_pos (show(!false)=true from rfl),A.gd1 (by simp only[List.length_cons,List.length_nil];omega)]
     show(F.R17_putEntry s.2 (n.1,x.1.1,x.1.2,1)).bind _=_
     rw[putE_eq _ _ (by omega) p2,Option.bind_some,F.R17_tells_j4,A.gd1 ⟨by omega,by omega⟩]
     have e:frS n.1 s x=(s.1++[x.1],Opr.ins kr (n.1,x.1.1,x.1.2,1) s.2):=if_pos (hv.2 hm)
     rw[e]
     have il:=ins_len (k:=kr) (e:=((n.1,x.1.1,x.1.2,1):En)) s.2
     refine ih (s.1++[x.1],Opr.ins kr (n.1,x.1.1,x.1.2,1) s.2) ⟨by rw[List.length_append,List.length_singleton];omega,ins_sk p2,fun e he=>?_,by show(Opr.ins kr (n.1,x.1.1,x.1.2,1) s.2).length≤_;omega⟩
     rcases(ins_mem p2).1 he with rfl|⟨he,_⟩
     ·exact⟨rfl,rfl⟩
     ·exact p3 e he)
   (by omega) ([],st) ⟨by simp,hst,h1 h16,by show st.length≤_;omega⟩
  exact this
end Go.Proofs.YtbljnlkhebiniaaGreatDoor
end
section
set_option maxRecDepth 20000
set_option linter.unusedVariables false
set_option linter.unusedSimpArgs false
namespace Go.Proofs.YtbljnlkhebiniaaGreatDoor
open Go.RowKit Go.Graph Go.Utf Go.Ent Go.Opr
theorem flat_sc (h:Int×List Mn→List Rc): ∀(gs:List (Int×List Mn)),(gs.Pairwise fun a b=>a.1<b.1)→(∀kg,kg∈gs→∀r,r∈h kg→r.1=kg.1)→gs.flatMap (fun kg=>sc (h kg))=sc (gs.flatMap h):=fun gs hp hk=>by
 refine sk_ext (k:=id) ?_ (sc_ok _).1 fun r=>?_
 ·have: ∀gs:List (Int×List Mn),(gs.Pairwise fun a b=>a.1<b.1)→(∀kg,kg∈gs→∀r,r∈h kg→r.1=kg.1)→SK id (gs.flatMap fun kg=>sc (h kg)):=by
   intro gs
   induction gs with
   |nil=>intro _ _;exact List.Pairwise.nil
   |cons kg gs ih=>
    intro hp hk
    obtain⟨p1,p2⟩:=List.pairwise_cons.1 hp
    rw[List.flatMap_cons]
    refine List.pairwise_append.2 ⟨(sc_ok _).1,ih p2 fun k2 h2=>hk k2 (List.mem_cons_of_mem _ h2),fun x hx y hy=>?_⟩
    obtain⟨k2,h2,hy⟩:=List.mem_flatMap.1 hy
    have e1:=hk kg (List.mem_cons_self ..) x (((sc_ok _).2 x).1 hx)
    have e2:=hk k2 (List.mem_cons_of_mem _ h2) y (((sc_ok _).2 y).1 hy)
    have:=p1 k2 h2
    unfold rl
    rw[decide_eq_true (show(id x:Rc).1<(id y:Rc).1 by show x.1<y.1;omega)];rfl
  exact this gs hp hk
 ·rw[(sc_ok _).2,List.mem_flatMap,List.mem_flatMap]
  exact⟨fun⟨kg,h1,h2⟩=>⟨kg,h1,((sc_ok _).2 r).1 h2⟩,fun⟨kg,h1,h2⟩=>⟨kg,h1,((sc_ok _).2 r).2 h2⟩⟩
theorem tot_keys (f:Fun)(id:Int): ∀(gs:List (Int×List Mn)) (s:List Rc×List En),∃l,(gs.foldl (totS f id) s).1=s.1++l∧l.map (·.1)=gs.map (·.1)
 | [],s=>⟨[],by simp,rfl⟩
 |kg::gs,s=>by
  obtain⟨l,h1,h2⟩:=tot_keys f id gs (totS f id s kg)
  refine⟨(kg.1,dec (tot f (vE s.2 (kg.1,nil8)) kg.2))::l,?_,by rw[List.map_cons,List.map_cons,h2]⟩
  rw[List.foldl_cons,h1]
  show s.1++[(kg.1,dec (tot f (vE s.2 (kg.1,nil8)) kg.2))]++l=_
  simp
theorem fr_sub (id:Int): ∀(l:List Mn) (s:List Rc×List En),∃t,(l.foldl (frS id) s).1=s.1++t∧t.Sublist (l.map (·.1))
 | [],s=>⟨[],by simp,List.Sublist.refl _⟩
 |m::l,s=>by
  obtain⟨t,h1,h2⟩:=fr_sub id l (frS id s m)
  rw[List.foldl_cons,h1,List.map_cons]
  by_cases h:vE s.2 m.1=0
  ·exact⟨m.1::t,by rw[show frS id s m=(s.1++[m.1],Opr.ins kr (id,m.1.1,m.1.2,1) s.2)from if_pos h];simp,h2.cons_cons _⟩
  ·exact⟨t,by rw[show frS id s m=s from if_neg h],h2.cons _⟩
theorem fr_all (id:Int): ∀(l:List Mn) (s:List Rc×List En),SK kr s.2→St1 id s.2→(∀m,m∈l→m.1∉s.2.map kr)→SM l→(l.foldl (frS id) s).1=s.1++l.map (·.1)
 | [],s,_,_,_,_=>by simp
 |m::l,s,hs,h1,hn,hl=>by
  obtain⟨l1,l2⟩:=List.pairwise_cons.1 hl
  have hv:vE s.2 m.1=0:=(vE_zero hs h1 m.1).2 (hn m (List.mem_cons_self ..))
  rw[List.foldl_cons,show frS id s m=(s.1++[m.1],Opr.ins kr (id,m.1.1,m.1.2,1) s.2)from if_pos hv]
  rw[fr_all id l _ (ins_sk hs) (fun e he=>?_) (fun x hx hm=>?_) l2]
  ·simp
  ·rcases(ins_mem hs).1 he with rfl|⟨he,_⟩
   ·exact⟨rfl,rfl⟩
   ·exact h1 e he
  ·obtain⟨e,he,hke⟩:=List.mem_map.1 hm
   rcases(ins_mem hs).1 he with rfl|⟨he,_⟩
   ·exact rl_ne (l1 x hx) hke
   ·exact hn x (List.mem_cons_of_mem _ hx) (List.mem_map.2 ⟨e,he,hke⟩)
theorem sk_map {l:List Mn}(h:SM l):SK id (l.map (·.1)):=List.pairwise_map.2 h
theorem all_tell {n:Nd}{t:Tm}{a b:List Mn}{st:List En}(ok:Ok n t a b st):(grp a).foldl (tG n.2.1 n.2.2.2.1 n.1 b) ([],st)=tellP n.2.1 n.2.2.2.1 n.1 a b st:=by
 have hkind:n.2.1=7∨n.2.1=8∨n.2.1=9∨n.2.1=10∨n.2.1=11∨n.2.1=16:=by have hh:=ok.holds;unfold holdsP at hh;simpa using hh
 have asc:=grp_asc ok.ba.kl
 have ssk:=stP_sk ok.st
 unfold tellP raw
 by_cases h789:n.2.1=7∨n.2.1=8∨n.2.1=9
 ·rw[if_pos h789,if_neg (show ¬n.2.1=10 by omega),←flat_sc _ _ asc fun kg hk r hr=>outG_key hk hr]
  have: ∀(gs:List (Int×List Mn)) (o:List Rc),gs.foldl (tG n.2.1 n.2.2.2.1 n.1 b) (o,st)=(o++gs.flatMap fun kg=>sc (outG n.2.1 n.2.2.2.1 b kg),st):=by
   intro gs
   induction gs with
   |nil=>intro o;simp
   |cons kg gs ih=>
    intro o
    rw[List.foldl_cons,show tG n.2.1 n.2.2.2.1 n.1 b (o,st) kg=(o++sc (outG n.2.1 n.2.2.2.1 b kg),st)from if_pos h789,ih,List.flatMap_cons,List.append_assoc]
  rw[this,List.nil_append]
 rw[if_neg h789]
 by_cases h11:n.2.1=11
 ·rw[if_pos h11,if_neg (show ¬n.2.1=10 by omega)]
  have e:tG n.2.1 n.2.2.2.1 n.1 b=totS n.2.2.2.1 n.1:=by
   funext s kg
   show(if _ then _ else _)=_
   rw[if_neg h789,if_pos h11]
  rw[e]
  obtain⟨l,h1,h2⟩:=tot_keys n.2.2.2.1 n.1 (grp a) ([],st)
  rw[List.nil_append]at h1
  have hs:SK id l:=by
   have h3:(l.map (·.1)).Pairwise (· < ·):=by rw[h2];exact List.pairwise_map.2 asc
   exact(List.pairwise_map.1 h3).imp fun {x y} hxy=>by
    unfold rl
    rw[decide_eq_true (show(id x:Rc).1<(id y:Rc).1 from hxy)];rfl
  rw[h1,sc_sorted hs,←h1]
 rw[if_neg h11]
 by_cases h10:n.2.1=10
 ·rw[if_pos h10]
  have hst:st=[]:=stP_nil ok.st (by omega) (by omega)
  subst hst
  rw[fr_all n.1 a ([],[]) List.Pairwise.nil (fun e he=>by cases he) (fun m _ h=>by cases h) ok.ba.srt,List.nil_append,sc_sorted (sk_map ok.ba.srt)]
  have: ∀(gs:List (Int×List Mn)) (o:List Rc),gs.foldl (tG n.2.1 n.2.2.2.1 n.1 b) (o,[])=(o++(gs.flatMap (·.2)).map (·.1),[]):=by
   intro gs
   induction gs with
   |nil=>intro o;simp
   |cons kg gs ih=>
    intro o
    have e:tG n.2.1 n.2.2.2.1 n.1 b (o,[]) kg=(o++kg.2.map (·.1),[]):=by unfold tG;rw[if_neg h789,if_neg h11,if_pos h10]
    rw[List.foldl_cons,e,ih,List.flatMap_cons,List.map_append,List.append_assoc]
  rw[this,grp_flat,List.nil_append]
 ·rw[if_neg h10]
  have e:tG n.2.1 n.2.2.2.1 n.1 b=fun s kg=>kg.2.foldl (frS n.1) s:=by
   funext s kg
   show(if _ then _ else _)=_
   rw[if_neg h789,if_neg h11,if_neg h10]
  rw[e,←List.foldl_flatMap,grp_flat]
  obtain⟨l,h1,h2⟩:=fr_sub n.1 a ([],st)
  rw[List.nil_append]at h1
  rw[h1,sc_sorted ((sk_map ok.ba.srt).sublist h2),←h1]
theorem R17_Tell_eq (n:Nd)(t:Tm)(a b:List Mn)(st:List En)(hs:n.2.2.2.1.2.2.size≤1000)(ha:a.length≤60)(hb:b.length≤60)(hst:st.length≤200):
  F.R17_Tell n t a b st=some (if mayP n t a b st=0 then((tellP n.2.1 n.2.2.2.1 n.1 a b st).1,(tellP n.2.1 n.2.2.2.1 n.1 a b st).2,0)else([],[],mayP n t a b st)):=by
 have hFU:=FU_big
 by_cases hm:mayP n t a b st=0
 ·have ok:=mayP_iff.1 hm
  rw[if_pos hm,F.R17_Tell,R17_Holds_eq,Option.bind_some,ok.holds,if_neg (by simp)]
  show(F.R06_Check n.2.1 n.2.2.2.1).bind _=_
  rw[R06_Check_eq _ _ (by omega),Option.bind_some,ok.fn,if_neg (by simp)]
  show(F.R01_Check t).bind _=_
  rw[R01_Check_eq,Option.bind_some,ok.tm,if_neg (by simp),R05_CheckBag_eq a (by unfold maxLen;omega),Option.bind_some,chkB_iff.2 ok.ba,if_neg (by simp),R05_CheckBag_eq b (by unfold maxLen;omega),Option.bind_some,chkB_iff.2 ok.bb,if_neg (by simp)]
  rw[A.ba,if_neg (by
   intro h
   obtain⟨h1,h2⟩:=of_decide_eq_true h
   rcases ok.one with e|e
   ·rw[e]at h1;simp at h1
   ·exact h2 e)]
  show(F.R17_CheckState n st).bind _=_
  rw[R17_CheckState_eq n st (by omega),Option.bind_some,if_pos ok.st,if_neg (by simp),A.gd1 (by simp only[List.length_nil];omega),Keys5_eq a (by omega),Option.bind_some,Keys5_eq b (by omega),Option.bind_some,if_neg (fun h=>h (chkB_iff.2 ok.ba)),if_neg (fun h=>h (chkB_iff.2 ok.bb))]
  have gl:=grp_len a
  have gf:=grp_flat a
  have main:=A.lp (grp a) (fun f (s:List Rc×List En) y=>F.R17_Tell_l1 n (grp a) (grp b) f s.2 s.1 y) (fun _ r s=>some ((r.foldl (tG n.2.1 n.2.2.2.1 n.1 b) s).1,(r.foldl (tG n.2.1 n.2.2.2.1 n.1 b) s).2,(0:Int)))
   (fun j s=>s.1.length≤70000*j∧SK kr s.2∧(n.2.1=11→St2 n.1 s.2)∧(n.2.1=16→St1 n.1 s.2)∧s.2.length+(((grp a).drop j).flatMap (·.2)).length≤300)
   (fun f s hp=>by show F.R17_Tell_l1 n (grp a) (grp b) (f+1) s.2 s.1 _=_;rw[F.R17_Tell_l1,if_neg (by omega)];rfl)
   (fun f s j kg hx hj hp ih=>by
    obtain⟨p1,p2,p3,p4,p5⟩:=hp
    have hkg:=List.mem_of_getElem? hx
    have hdr:(grp a).drop j=kg::(grp a).drop (j+1):=A.dropx hx
    rw[hdr,List.flatMap_cons,List.length_append]at p5
    obtain⟨g1,g2⟩:=grp_all hkg
    have gz:=grp_size ok.ba.kl hkg
    show F.R17_Tell_l1 n (grp a) (grp b) (f+1) s.2 s.1 _=some ((((grp a).drop (j+1)).foldl (tG n.2.1 n.2.2.2.1 n.1 b) (tG n.2.1 n.2.2.2.1 n.1 b s kg)).1,(((grp a).drop (j+1)).foldl (tG n.2.1 n.2.2.2.1 n.1 b) (tG n.2.1 n.2.2.2.1 n.1 b s kg)).2,0)
    rw[F.R17_Tell_l1,if_pos (by omega),A.ixn hx,Option.bind_some]
    show(F.R17_tells n kg (grp b) s.2).bind _=_
    rw[tells_eq n kg b s.2 ok.holds ok.fn hs (grp_bag ok.ba hkg) g1 g2 (by omega) ok.bb hb p2 (by omega) p3 p4,Option.bind_some]
    obtain⟨t1,t2⟩:=tG_len n.2.1 n.2.2.2.1 n.1 b s.2 kg (by omega) (by omega) g1
    have happ:=tG_app n.2.1 n.2.2.2.1 n.1 b s.1 s.2 kg
    rw[show(s.1,s.2)=s from rfl]at happ
    rw[A.gd1 (by omega),A.gd1 ⟨by omega,by omega⟩,happ]
    refine ih (s.1++(tG n.2.1 n.2.2.2.1 n.1 b ([],s.2) kg).1,(tG n.2.1 n.2.2.2.1 n.1 b ([],s.2) kg).2) ⟨by rw[List.length_append];omega,?_,?_,?_,by show(tG n.2.1 n.2.2.2.1 n.1 b ([],s.2) kg).2.length+_≤300;omega⟩
    ·unfold tG
     split
     ·exact p2
     ·(split)
      ·exact ins_sk p2
      ·(split)
       ·exact p2
       ·exact frS_sk kg.2 (s:=([],s.2)) p2
    ·intro h11
     have e:tG n.2.1 n.2.2.2.1 n.1 b ([],s.2) kg=totS n.2.2.2.1 n.1 ([],s.2) kg:=by unfold tG;rw[if_neg (by omega),if_pos h11]
     rw[e]
     have tr:=tot_rng (f:=n.2.2.2.1) (g:=kg.2) (v:=vE s.2 (kg.1,nil8)) (grp_bag ok.ba hkg).one (vE_rng (p3 h11) _).1 (vE_rng (p3 h11) _).2
     intro e2 he
     rcases(ins_mem p2).1 he with rfl|⟨he,_⟩
     ·exact⟨rfl,rfl,tr.1,tr.2⟩
     ·exact p3 h11 e2 he
    ·intro h16
     have e:tG n.2.1 n.2.2.2.1 n.1 b ([],s.2) kg=kg.2.foldl (frS n.1) ([],s.2):=by unfold tG;rw[if_neg (by omega),if_neg (by omega),if_neg (by omega)]
     rw[e,frS_snd]
     exact(frT_ok n.1 kg.2 p2 (p4 h16)).2.1)
   (by omega) ([],st) ⟨by simp,stP_sk ok.st,stP_2 ok.st,stP_1 ok.st,by rw[List.drop_zero,gf];show st.length+a.length≤300;omega⟩
  refine main.trans ?_
  rw[all_tell ok]
 ·rw[if_neg hm,F.R17_Tell,R17_Holds_eq,Option.bind_some]
  unfold mayP at hm ⊢
  cases hh:holdsP n.2.1 with
  |false=>rw[if_pos (by simp)];rfl
  |true=>
   rw[hh]at hm
   rw[if_neg (by simp)]
   simp only[if_neg (show ¬(true=false) by simp)]at hm ⊢
   show(F.R06_Check n.2.1 n.2.2.2.1).bind _=_
   rw[R06_Check_eq _ _ (by omega),Option.bind_some]
   by_cases h1:chk n.2.1 n.2.2.2.1≠0
   ·simp only[if_pos h1]
   simp only[if_neg h1]at hm ⊢
   show(F.R01_Check t).bind _=_
   rw[R01_Check_eq,Option.bind_some]
   by_cases h2:tcP t≠0
   ·simp only[if_pos h2]
   simp only[if_neg h2]at hm ⊢
   rw[R05_CheckBag_eq a (by unfold maxLen;omega),Option.bind_some]
   by_cases h3:chkB a≠0
   ·simp only[if_pos h3]
   simp only[if_neg h3]at hm ⊢
   rw[R05_CheckBag_eq b (by unfold maxLen;omega),Option.bind_some]
   by_cases h4:chkB b≠0
   ·simp only[if_pos h4]
   simp only[if_neg h4]at hm ⊢
   rw[A.ba]
   by_cases h5:b≠[]∧n.2.1≠9
   ·have:=List.length_pos_iff.2 h5.1
    rw[if_pos (decide_eq_true (⟨by omega,h5.2⟩:(0:Int)<(b.length:Int)∧n.2.1≠9)),if_pos h5]
   ·rw[if_neg (by
     intro h
     obtain⟨q1,q2⟩:=of_decide_eq_true h
     exact h5 ⟨fun e=>by rw[e]at q1;simp at q1,q2⟩)]
    simp only[if_neg h5]at hm ⊢
    show(F.R17_CheckState n st).bind _=_
    rw[R17_CheckState_eq n st (by omega),Option.bind_some]
    by_cases h6:stP n st=true
    ·rw[if_pos h6]at hm;exact absurd rfl hm
    ·simp only[if_neg h6];rfl
theorem opKeys_eq (l:List Mn)(hl:l.length≤1000):F.oper_Keys l=some (if chkB l≠0 then []else l):=by
 rw[F.oper_Keys,rec_CheckBag_eq l (by unfold maxLen;omega),Option.bind_some]
 by_cases h:chkB l≠0
 ·rw[if_pos h,if_pos h,F.oper_Keys_j1,F.slices_Clone_api_Many_api_Many,A.gd1 (by simp),Option.bind_some];rfl
 ·rw[if_neg h,if_neg h,F.oper_Keys_j1,F.slices_Clone_api_Many_api_Many,A.gd1 (by simp;omega),Option.bind_some];rfl
theorem keys_law (gs:List (Int×List Mn))(hl:gs.length≤1000)(hg: ∀kg,kg∈gs→kg.2.length≤1000): ∀(r:List (Int×List Mn)) (k:Nat),k≤gs.length→gs.drop k=r→F.L17_OperTells_l2 gs r (k:Int)=some true
 | [],k,hk,hd=>by
  have:k=gs.length:=by
   have:=congrArg List.length hd
   rw[List.length_drop,List.length_nil]at this;omega
  rw[F.L17_OperTells_l2,this];simp
 |x::r,k,hk,hd=>by
  have hlt:k<gs.length:=by
   have:=congrArg List.length hd
   rw[List.length_drop,List.length_cons]at this;omega
  have hx:gs[k]?=some x:=by
   have:(gs.drop k)[0]?=some x:=by rw[hd];rfl
   rwa[List.getElem?_drop,Nat.add_zero]at this
  have hr:gs.drop (k+1)=r:=by
   have:=congrArg List.tail hd
   rwa[List.tail_drop,List.tail_cons]at this
  have ih:=keys_law gs hl hg r (k+1) (by omega) hr
  rw[F.L17_OperTells_l2,if_neg (by omega),A.ixn hx,Option.bind_some,if_neg (by simp),Option.bind_some,SameBag_eq _ (hg x (List.mem_of_getElem? hx)),Option.bind_some,F.L17_OperTells_j1,if_neg (by simp),A.gd1 ⟨by omega,by omega⟩]
  exact ih
theorem operTells_plain {P:Prop}(n:Nd)(al:Tm×List Mn×List Mn×List En)(_:P)(h1:T32.ok al):F.L17_OperTells n al=some true:=by
 obtain⟨t,a,b,st⟩:=al
 have hFU:=FU_big
 have la:a.length≤maxLen:=h1.2.1.1
 have lb:b.length≤maxLen:=h1.2.2.1.1
 have ls:st.length≤maxLen:=h1.2.2.2.1
 have hka: ∀m,m∈a→KeyR m.1:=fun m hm=>(h1.2.1.2 m hm).1
 have hks: ∀e,e∈st→KeyR (kr e):=fun e he=>⟨(h1.2.2.2.2 e he).2.1,(h1.2.2.2.2 e he).2.2.1⟩
 rw[F.L17_OperTells,live_eq,Option.bind_some,if_neg (by simp)]
 obtain⟨r,hr1,hr2⟩:=rare_ok [a,b] (by simp) (fun x hx=>by
  rcases List.mem_cons.1 hx with rfl|hx
  ·exact la
  ·obtain rfl:=List.mem_singleton.1 hx;exact lb)
 show(F.L17_rare [a,b]).bind _=_
 rw[hr1,Option.bind_some]
 cases r with
 |false=>rfl
 |true=>
  rw[if_neg (by simp)]
  obtain⟨th,ht1,ht2⟩:=thin_ok st ls
  show(F.L17_thin st).bind _=_
  rw[ht1,Option.bind_some]
  cases th with
  |false=>rfl
  |true=>
   have ha:=hr2 rfl a (by simp)
   have hb:=hr2 rfl b (by simp)
   have hst:=ht2 rfl
   show F.L17_OperTells_j4 n (t,a,b,st) (decide ((300:Int)<(n.2.2.2.1.2.2.size:Int)))=_
   by_cases h300:(300:Int)<(n.2.2.2.1.2.2.size:Int)
   ·rw[decide_eq_true h300];rfl
   ·have hs:n.2.2.2.1.2.2.size≤1000:=by omega
    rw[decide_eq_false h300,F.L17_OperTells_j4,if_neg (by simp)]
    show(F.oper_Tell n t a b st).bind _=_
    rw[Tell_eq n t a b st hs (by omega) (by omega) (by omega) hka hks,Option.bind_some]
    show(F.R17_Tell n t a b st).bind _=_
    rw[R17_Tell_eq n t a b st hs (by omega) (by omega) (by omega),Option.bind_some]
    obtain⟨R,hR⟩: ∃R,R=(if mayP n t a b st=0 then((tellP n.2.1 n.2.2.2.1 n.1 a b st).1,(tellP n.2.1 n.2.2.2.1 n.1 a b st).2,(0:Int))else([],[],mayP n t a b st)):=⟨_,rfl⟩
    have hl:R.1.length≤1000000∧R.2.1.length≤1000000:=by
     rw[hR]
     by_cases hm:mayP n t a b st=0
     ·rw[if_pos hm]
      have h2:=st_len (n:=n) (a:=a) (b:=b) (st:=st)
      refine⟨?_,by show(tellP n.2.1 n.2.2.2.1 n.1 a b st).2.length≤_;omega⟩
      have h3:=puts_nil (raw n.2.1 n.2.2.2.1 n.1 a b st).1
      have gl:=grp_len a
      have gf:=grp_flat a
      have h4:(raw n.2.1 n.2.2.2.1 n.1 a b st).1.length≤1000000:=by
       unfold raw
       split
       ·have:=outG_len (kind:=n.2.1) (f:=n.2.2.2.1) (b:=b) (by omega) (grp a)
        rw[gf]at this
        show((grp a).flatMap _).length≤_
        omega
       ·(split)
        ·have:=(totS_len n.2.2.2.1 n.1 (grp a) ([],st)).1
         simp only[List.length_nil]at this;omega
        ·have:=(frS_len n.1 a ([],st)).1
         simp only[List.length_nil]at this;omega
      show(sc (raw n.2.1 n.2.2.2.1 n.1 a b st).1).length≤_
      omega
     ·rw[if_neg hm];simp
    rw[←hR,EqRec_eq _ _ (by omega),Option.bind_some,decide_eq_true rfl,if_neg (by simp),EqEnt_eq _ _ (by omega),Option.bind_some,decide_eq_true rfl,if_neg (by simp)]
    show(F.oper_CheckState n st).bind _=_
    rw[CheckState_eq n st (by omega),Option.bind_some]
    show(F.R17_CheckState n st).bind _=_
    rw[R17_CheckState_eq n st (by omega),Option.bind_some,F.L17_OperTells_j3,if_neg (by simp)]
    show(F.oper_Keys a).bind _=_
    rw[opKeys_eq a (by omega),Option.bind_some]
    show(F.R17_Keys a).bind _=_
    rw[Keys5_eq a (by omega),Option.bind_some]
    by_cases hc:chkB a≠0
    ·rw[if_pos hc,if_pos hc,Keys_it [] (by simp),Option.bind_some]
     exact keys_law [] (by simp) (by simp) [] 0 (by simp) rfl
    ·rw[if_neg hc,if_neg hc,Keys_it a (by omega),Option.bind_some]
     have ba:=chkB_iff.1 (Classical.byContradiction fun h=>hc h)
     have gl:=grp_len a
     exact keys_law (grp a) (by omega) (fun kg hk=>by have:=grp_size ba.kl hk;omega) (grp a) 0 (by omega) rfl
end Go.Proofs.YtbljnlkhebiniaaGreatDoor
end
section
namespace Go.Z
open Go.RowKit
def OpenT (P:Program)(T:TypeId)(t:Ty):Prop:=
 P.cellsOf T=t.size∧∀(H:Type) (enc:TypeId×Value→H) (w:World) (base:Nat) (spare:Nat→Bool) (held:Bool) (fuel:Nat) (cs:List Value) (x:DataW H×List MemPlace),
  DataW.trod enc P w base spare held fuel T cs=some x→∃y:t.den,t.rep w (nt []) cs y
section
variable {P:Program}{T e:TypeId}
theorem ot_int {k:IntKind}(hc:P.cellsOf T=1)(ht:P.underlying T=some (.int k)):OpenT P T (.int k):=⟨hc,fun H enc w base spare held fuel cs x h=>by
 obtain⟨n,rfl,_,hw⟩:=DataW.trod_int ht h
 refine⟨n,rfl,?_⟩
 simp only[Lit.wf,Bool.and_eq_true,decide_eq_true_eq]at hw
 exact hw⟩
theorem ot_str (hc:P.cellsOf T=1)(ht:P.underlying T=some .string):OpenT P T .str:=⟨hc,fun H enc w base spare held fuel cs x h=>by
 obtain⟨s,rfl,_,hs⟩:=DataW.trod_string ht h
 exact⟨s,rfl,hs⟩⟩
def OpenPs (P:Program):List (TypeId×Nat)→Nat→Ty→Prop
 | [],_,_=>False
 | [(T,o')],o,t=>o'=o∧OpenT P T t
 |(T,o')::p::ps,o,.pair a b=>o'=o∧OpenT P T a∧OpenPs P (p::ps) (o+a.size) b
 |_::_::_,_,_=>False
theorem open_ps {H:Type}{enc:TypeId×Value→H}{w:World}{base:Nat}{spare:Nat→Bool}{held:Bool}{fuel:Nat}{cs:List Value}:
  ∀(ps:List (TypeId×Nat)) (o:Nat) (t:Ty),OpenPs P ps o t→(∀p∈ps,∃x,DataW.trod enc P w base spare held fuel p.1 ((cs.drop p.2).take (P.cellsOf p.1))=some x)→∃y:t.den,t.rep w (nt []) ((cs.drop o).take t.size) y
 | [],_,_,h,_=>h.elim
 | [(T,o')],o,t,h,hx=>by
  obtain⟨rfl,⟨hc,ho⟩⟩:=h
  obtain⟨x,hx⟩:=hx (T,o') (List.mem_singleton.2 rfl)
  rw[←hc];exact ho _ _ _ _ _ _ _ _ _ hx
 |(T,o')::p::ps,o,.pair a b,h,hx=>by
  obtain⟨rfl,⟨hc,ho⟩,hr⟩:=h
  obtain⟨x,h1⟩:=hx (T,o') (List.mem_cons_self ..)
  obtain⟨ya,hya⟩:=ho _ _ _ _ _ _ _ _ _ h1
  obtain⟨yb,hyb⟩:=open_ps (p::ps) _ b hr fun q hq=>hx q (List.mem_cons_of_mem _ hq)
  refine⟨(ya,yb),_,_,?_,hya,hyb⟩
  show(cs.drop o').take (a.size+b.size)=_
  rw[hc,List.take_add,List.drop_drop]
 |_::_::_,_,.int _,h,_=>h.elim
 |_::_::_,_,.byte,h,_=>h.elim
 |_::_::_,_,.bool,h,_=>h.elim
 |_::_::_,_,.str,h,_=>h.elim
 |_::_::_,_,.slice _,h,_=>h.elim
theorem ot_struct {fs:List Field}{t:Ty}(hc:P.cellsOf T=t.size)(ht:P.underlying T=some (.struct fs.toArray))(h:OpenPs P (fs.map fun f=>(f.type,f.offset)) 0 t):OpenT P T t:=⟨hc,fun H enc w base spare held fuel cs x hx=>by
 obtain⟨xs,n,_,_,hl,hs,hf⟩:=DataW.trod_struct ht hx
 have hcs:cs=(cs.drop 0).take t.size:=by rw[List.drop_zero,List.take_of_length_le (by omega)]
 rw[hcs]
 refine open_ps (fuel:=n) (enc:=enc) (base:=base) (spare:=spare) (held:=held) _ 0 t h fun p hp=>?_
 obtain⟨f,hf1,rfl⟩:=List.mem_map.1 hp
 obtain⟨i,hi,he⟩:=List.getElem_of_mem hf1
 have h1:=hf i f (by rw[List.getElem?_toArray,List.getElem?_eq_getElem hi,he])
 rw[h1,List.getElem?_eq_getElem (by rw[hs];simpa using hi)]
 exact⟨_,rfl⟩⟩
theorem ot_array {n c:Nat}{t:Ty}(hc:P.cellsOf T=t.size)(ht:P.underlying T=some (.array n e))(he:P.cellsOf e=c)(h:OpenPs P ((List.range n).map fun i=>(e,i*c)) 0 t):OpenT P T t:=⟨hc,fun H enc w base spare held fuel cs x hx=>by
 subst he
 obtain⟨xs,m,_,_,hl,hs,hf⟩:=DataW.trod_array ht hx
 have hcs:cs=(cs.drop 0).take t.size:=by rw[List.drop_zero,List.take_of_length_le (by omega)]
 rw[hcs]
 refine open_ps (fuel:=m) (enc:=enc) (base:=base) (spare:=spare) (held:=held) _ 0 t h fun p hp=>?_
 obtain⟨i,hi,rfl⟩:=List.mem_map.1 hp
 have hi':=List.mem_range.1 hi
 rw[hf i hi',List.getElem?_eq_getElem (by omega)]
 exact⟨_,rfl⟩⟩
theorem rows_of {t:Ty}{w:World}{g:Addr}: ∀(n:Nat),(∀i,i<n→∃(cs:List Value) (y:t.den),cs.length=t.size∧(∀j u,cs[j]?=some u→w.cell? (g.add (i*t.size+j))=some u)∧t.rep w (nt []) cs y)→
  ∃(cells:List Value) (ys:List t.den),ys.length=n∧cells.length=n*t.size∧(∀j u,cells[j]?=some u→w.cell? (g.add j)=some u)∧∀(i:Nat) (y:t.den),ys[i]?=some y→t.rep w (nt []) ((cells.drop (i*t.size)).take t.size) y
 |0,_=>⟨[],[],rfl,by simp,by simp,by simp⟩
 |n+1,h=>by
  obtain⟨cells,ys,h1,h2,h3,h4⟩:=rows_of n fun i hi=>h i (by omega)
  obtain⟨cs,y,c1,c2,c3⟩:=h n (by omega)
  refine⟨cells++cs,ys++[y],by simp[h1],by rw[List.length_append,h2,c1,Nat.succ_mul],fun j u hj=>?_,?_⟩
  ·by_cases hlt:j<cells.length
   ·rw[List.getElem?_append_left hlt]at hj;exact h3 j u hj
   ·rw[List.getElem?_append_right (by omega)]at hj
    have:=c2 _ u hj
    rwa[h2,show n*t.size+(j-n*t.size)=j by omega]at this
  ·refine rep_append (xs:=ys) (ys:=[y]) (by rw[h2,h1]) h4 fun i y' hi=>?_
   have:i=0:=by have:=(List.getElem?_eq_some_iff.1 hi).1;simp at this;omega
   subst this
   simp at hi;subst hi
   rw[Nat.zero_mul,List.drop_zero,List.take_of_length_le (by omega)];exact c3
theorem ot_slice {t:Ty}(hc:P.cellsOf T=1)(ht:P.underlying T=some (.slice e))(h:OpenT P e t):OpenT P T (.slice t):=⟨hc,fun H enc w base spare held fuel cs x hx=>by
 rcases DataW.trod_slice ht hx with⟨rfl,_⟩|⟨ad,len,cap,elems,rest,n,_,rfl,_,hb,hl,hm,hlen,hel,_,_⟩
 ·exact⟨[],rep_nil _⟩
 ·have each: ∀i,i<len→∃(cs:List Value) (y:t.den),cs.length=t.size∧(∀j u,cs[j]?=some u→w.cell? (ad.add (i*t.size+j))=some u)∧t.rep w (nt []) cs y:=fun i hi=>by
   have h1:=hel i hi
   rw[List.getElem?_eq_getElem (by omega),Option.bind_eq_some_iff]at h1
   obtain⟨cs',h2,h3⟩:=h1
   obtain⟨_,h4,h5⟩:=World.cells?_some h2
   obtain⟨y,hy⟩:=h.2 _ _ _ _ _ _ _ _ _ h3
   rw[h.1]at h4 h5
   refine⟨cs',y,h4,fun j u hj=>?_,hy⟩
   have hlt:=(List.getElem?_eq_some_iff.1 hj).1
   have:=h5 j (by omega)
   rw[add_add]at this
   rw[this,hj]
  obtain⟨cells,ys,h1,h2,h3,h4⟩:=rows_of len each
  by_cases hz:len=0
  ·subst hz
   have:ys=[]:=List.eq_nil_of_length_eq_zero h1
   subst this
   exact⟨[],some ad,cap,[],rfl,by simp,hm,by simp,.inl rfl,by simp⟩
  ·have hp:=pos_size t
   have hlt:0<cells.length:=by rw[h2];exact Nat.mul_pos (by omega) hp
   have h0:=h3 0 _ (List.getElem?_eq_getElem hlt)
   have hspot:=World.cell?_spot h0
   obtain⟨b,off,spot⟩:=ad
   simp only[Addr.add]at hspot
   subst hspot
   refine⟨ys,some ⟨b,off,none⟩,cap,cells,by rw[h1],by omega,hm,by rw[h1];exact h2,.inr ⟨b,off,rfl,by simp[nt],fun j u hj=>?_⟩,h4⟩
   have:=h3 j u hj
   rwa[Addr.add_lit]at this⟩
end
end Go.Z
end
