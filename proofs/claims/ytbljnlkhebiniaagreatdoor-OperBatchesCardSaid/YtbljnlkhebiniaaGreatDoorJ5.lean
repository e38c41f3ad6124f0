/- Plain: a text's runes by the program and by the reference; texts cut. * Plain: texts of records, by the program and by the reference. * Plain: a row turned round; a text in capitals; parts of a text. * Plain: what a function of records makes of one, by the program and by the reference. * Plain: entries in order, by node, key and text; what they add up to. No program in sight. * Plain: records and entries in order, groups by key, what a node that holds makes of them. No program in sight. * Plain: what a node that holds makes of all of a time: by keys, one time behind the other. No program in sight. * Plain: records and entries held against one another; states, by the program and by the reference. * Plain: two times one behind the other are one time that has both bags. No program in sight. * Plain: bags, their keys, numbers in digits, by the program. * Plain: counts, what keys come to, joins, by the program. * Plain: totals, new records, the state behind it; records sorted, each once: by the program. * Plain: what a node that holds makes of all of a time, by the program. * Plain: bags added, small arguments, states behind a time: what the laws of nodes that hold need. * Plain: a text that has a rune; a text in pieces between runes. No program in sight. * Plain: what comes at once of records, by the program. * Plain: what comes at once of records, by the reference; OperBatches, OperEach. * Plain: OperBatches, OperEach, OperStays. * A layer over the small logic, continued: a contract that asks for a variable of the library's own: its cell holds some number, by the world's shape. No program in sight. * A small logic over the model's walk, continued: arguments of a row, opened: what a reader treads reads as a datum. No program in sight. * The law 'OperBatches' as it is given: whatever the input, the call returns true, and each argument reads behind it as it read before. No condition but that utf8's two tables hold what the library's text lays, which the card ties. -/
import Derived.Test.YtbljnlkhebiniaaGreatDoorJ4
import Derived.Test.YtbljnlkhebiniaaGreatDoorJ0
import Derived.Lib.IndexMore
import Derived.Test.YtbljnlkhebiniaaGreatDoorJ2
import Derived.Shelf.Vars
import Derived.SizedLaws
import Derived.ChangeAgain
import Derived.OpenShut
import Derived.ShutString
import Derived.ChangeOld
import Derived.ChangeArms
import Derived.DataReads
import Derived.Test.YtbljnlkhebiniaaGreatDoorRows
import Derived.Test.YtbljnlkhebiniaaGreatDoorTie
import Derived.Test.YtbljnlkhebiniaaGreatDoorCards
import Derived.WalkKit
import Derived.ProofKit
import Derived.Below
import Derived.LaidMore
import Derived.Stop.Joined
import Derived.SevenTiedAt
import Derived.Lib.LaidIn
import Derived.Lib.LaidU8T
import Derived.PinnedBridge
section
set_option maxRecDepth 20000
set_option linter.unusedVariables false
set_option linter.unusedSimpArgs false
namespace Go.Proofs.YtbljnlkhebiniaaGreatDoor
open Go.RowKit Go.Graph Go.Utf
theorem drop_ne {s:ByteArray}{p:Nat}(h:p<s.size):s.data.toList.drop p≠[]:=fun e=>by
 have:=congrArg List.length e
 rw[List.length_drop,size_list]at this
 simp only[List.length_nil]at this;omega
theorem drop_nil {s:ByteArray}{p:Nat}(h: ¬p<s.size):s.data.toList.drop p=[]:=List.drop_eq_nil_of_le (by rw[size_list];omega)
theorem ck_step {s:ByteArray}{n p:Nat}(h:p<s.size):ckF (n+1) (s.data.toList.drop p)=((s.data.toList.drop p).take (Utf8.decode s p).2,((Utf8.decode s p).1:Int))::ckF n (s.data.toList.drop (p+(Utf8.decode s p).2)):=by
 rw[ckF,if_neg (drop_ne h),Lib.decodeL_drop,List.drop_drop]
theorem ck_end {s:ByteArray}{n p:Nat}(h: ¬p<s.size):ckF n (s.data.toList.drop p)=[]:=by
 rw[drop_nil h]
 cases n with
 |zero=>rfl
 |succ n=>rw[ckF,if_pos rfl]
theorem cks_0 (s:ByteArray):cks s.data.toList=ckF s.size (s.data.toList.drop 0):=rfl
theorem dec_fits {s:ByteArray}{p:Nat}(h:p<s.size):1≤(Utf8.decode s p).2∧p+(Utf8.decode s p).2≤s.size:=by
 rw[←Lib.decodeL_drop]
 have h1:=Lib.decodeL_width (s.data.toList.drop p)
 have h2:=Lib.decodeL_le _ (drop_ne h)
 rw[List.length_drop,size_list]at h2
 omega
theorem runes_F (s:ByteArray)(hs:s.size≤1099511627776):F.fn_runes s=some ((cks s.data.toList).map (·.2)):=by
 have loop: ∀(n p f:Nat) (xs:List Int),s.size-p≤n→n<f→xs.length≤p→F.fn_runes_l1 s f p xs=some (xs++(ckF n (s.data.toList.drop p)).map (·.2)):=by
  intro n
  induction n with
  |zero=>
   intro p f xs hp hf _
   obtain⟨f,rfl⟩: ∃f',f=f'+1:=⟨f-1,by omega⟩
   rw[F.fn_runes_l1,if_neg (by omega),ck_end (by omega)];simp
  |succ n ih=>
   intro p f xs hp hf hx
   obtain⟨f,rfl⟩: ∃f',f=f'+1:=⟨f-1,by omega⟩
   by_cases h:p<s.size
   ·have hd:=dec_fits h
    rw[F.fn_runes_l1,if_pos h,A.gd1 (by simp only[List.length_cons,List.length_nil];omega),ih _ _ _ (by omega) (by omega) (by simp only[List.length_append,List.length_cons,List.length_nil];omega),ck_step h]
    simp
   ·rw[F.fn_runes_l1,if_neg h,ck_end h];simp
 have:=loop s.size 0 A.FU [] (by omega) (by have:=FU_big;omega) (by simp)
 rw[F.fn_runes,this,cks_0];simp
theorem flat_append (a b:List Rn):flat (a++b)=flat a++flat b:=List.flatMap_append
theorem i32_small {x:Int}(h0:0≤x)(h1:x<2147483648):IntKind.i32.wrap x=x:=by
 simp[IntKind.wrap,IntKind.bits,IntKind.signed]
 omega
theorem dec_shape {s:ByteArray}{p:Nat}(hw:wid s p≠0):
  (wid s p=1∧(Utf8.decode s p).1=(Z.bat s p).toNat)∨
  (wid s p=2∧(Utf8.decode s p).1=(Z.bat s p).toNat%32*64+(Z.bat s (p+1)).toNat%64)∨
  (wid s p=3∧(Utf8.decode s p).1=(Z.bat s p).toNat%16*4096+(Z.bat s (p+1)).toNat%64*64+(Z.bat s (p+2)).toNat%64)∨
  (wid s p=4∧(Utf8.decode s p).1=(Z.bat s p).toNat%8*262144+(Z.bat s (p+1)).toNat%64*4096+(Z.bat s (p+2)).toNat%64*64+(Z.bat s (p+3)).toNat%64):=by
 have h2:=wid_dec hw
 have h3:Utf8.decode s p≠(65533,1):=fun e=>hw (by unfold wid;rw[if_pos e])
 rw[←h2]
 rw[dec_at]at h3 ⊢
 rcases Lib.decodeN_shape (s.size-p) (Z.bat s p).toNat (Z.bat s (p+1)).toNat (Z.bat s (p+2)).toNat (Z.bat s (p+3)).toNat with⟨c,e⟩|⟨c1,c2,c3,cv,e⟩|⟨c1,c2,c3,c4,cv,cs,e⟩|⟨c1,c2,c3,c4,c5,cv,cw,e⟩|e
 ·rw[e];exact .inl ⟨rfl,rfl⟩
 ·rw[e];exact .inr (.inl ⟨rfl,rfl⟩)
 ·rw[e];exact .inr (.inr (.inl ⟨rfl,rfl⟩))
 ·rw[e];exact .inr (.inr (.inr ⟨rfl,rfl⟩))
 ·exact absurd e h3
theorem Runes_ats (s:ByteArray)(hs:s.size≤5000)(hv:vld s s.size 0=true):F.R05_Runes s=some (ats 0 (cks s.data.toList)):=by
 have loop: ∀(n p f:Nat) (xs:List (Int×Int)),s.size-p≤n→n<f→xs.length≤p→p≤5010→vld s n p=true→F.R05_Runes_l2 s f xs (p:Int)=some (xs++ats p (ckF n (s.data.toList.drop p))):=by
  intro n
  induction n with
  |zero=>
   intro p f xs hp hf _ _ _
   obtain⟨f,rfl⟩: ∃f',f=f'+1:=⟨f-1,by omega⟩
   rw[F.R05_Runes_l2,if_neg (by omega),ck_end (by omega)];simp[ats]
  |succ n ih=>
   intro p f xs hp hf hxs hp5 hv
   obtain⟨f,rfl⟩: ∃f',f=f'+1:=⟨f-1,by omega⟩
   rw[F.R05_Runes_l2]
   rw[vld]at hv
   by_cases h:p<s.size
   ·rw[if_pos h]at hv
    have hl:=wid_le h
    have h4:=wid_4 s p
    by_cases hw:wid s p=0
    ·rw[if_pos hw]at hv;cases hv
    rw[if_neg hw]at hv
    have hd:=dec_fits h
    have hj: ∀(w c:Int),w=(wid s p:Int)→c=((Utf8.decode s p).1:Int)→F.R05_Runes_j1 (F.R05_Runes_l2 s f) xs (p:Int) w c=some (xs++ats p (ckF (n+1) (s.data.toList.drop p))):=fun w c hwc hc=>by
     subst hwc;subst hc
     rw[F.R05_Runes_j1,A.gd1 (by simp only[List.length_cons,List.length_nil];omega),A.gd1 ⟨by omega,by omega⟩]
     have e:(p:Int)+(wid s p:Int)=((p+wid s p:Nat):Int):=by omega
     have e2:((s.data.toList.drop p).take (Utf8.decode s p).2).length=wid s p:=by
      rw[List.length_take,List.length_drop,size_list,←wid_dec hw];omega
     rw[e,ih (p+wid s p) f (xs++[((p:Int),((Utf8.decode s p).1:Int))]) (by omega) (by omega) (by simp only[List.length_append,List.length_cons,List.length_nil];omega) (by omega) hv,ck_step h,ats,e2,wid_dec hw,←e]
     simp
    have i0:=ixb (s:=s) h
    have i1:A.ix s.data.toList ((p:Int)+1)=if p+1<s.size then some (Z.bat s (p+1))else none:=ixk s p 1
    have i2:A.ix s.data.toList ((p:Int)+2)=if p+2<s.size then some (Z.bat s (p+2))else none:=ixk s p 2
    have i3:A.ix s.data.toList ((p:Int)+3)=if p+3<s.size then some (Z.bat s (p+3))else none:=ixk s p 3
    have r1:Z.R64 ((p:Int)+1):=⟨by omega,by omega⟩
    have r2:Z.R64 ((p:Int)+2):=⟨by omega,by omega⟩
    have r3:Z.R64 ((p:Int)+3):=⟨by omega,by omega⟩
    have k0:=(Z.bat s p).toNat_lt
    have k1:=(Z.bat s (p+1)).toNat_lt
    have k2:=(Z.bat s (p+2)).toNat_lt
    have k3:=(Z.bat s (p+3)).toNat_lt
    rw[if_pos (by omega),width_eq s p h hs,Option.bind_some]
    have tm: ∀(b m:Nat),Int.tmod (b:Int) (m:Int)=((b%m:Nat):Int):=fun b m=>by
     rw[Int.tmod_eq_emod_of_nonneg (by omega)];rfl
    rcases dec_shape hw with⟨w1,e⟩|⟨w2,e⟩|⟨w3,e⟩|⟨w4,e⟩
    ·rw[if_pos (by omega),i0,Option.bind_some]
     exact hj _ _ rfl (by rw[e,i32_small (by omega) (by omega)])
    ·rw[if_neg (by omega),if_pos (by omega),A.gd1 r1,i0,Option.bind_some,A.gd1 (by decide),i1,if_pos (by omega),Option.bind_some,A.gd1 (by decide)]
     refine hj _ _ rfl ?_
     have t1:Int.tmod ((Z.bat s p).toNat:Int) 32=(((Z.bat s p).toNat%32:Nat):Int):=tm _ 32
     have t2:Int.tmod ((Z.bat s (p+1)).toNat:Int) 64=(((Z.bat s (p+1)).toNat%64:Nat):Int):=tm _ 64
     rw[e,t1,t2]
     rw[i32_small (x:=(((Z.bat s p).toNat%32:Nat):Int)) (by omega) (by omega),i32_small (x:=(((Z.bat s p).toNat%32:Nat):Int)*64) (by omega) (by omega),i32_small (x:=(((Z.bat s (p+1)).toNat%64:Nat):Int)) (by omega) (by omega),i32_small (by omega) (by omega)]
     omega
    ·rw[if_neg (by omega),if_neg (by omega),if_pos (by omega),A.gd1 ⟨r1,r2⟩,i0,Option.bind_some,A.gd1 (by decide),i1,if_pos (by omega),Option.bind_some,A.gd1 (by decide),i2,if_pos (by omega),Option.bind_some,A.gd1 (by decide)]
     refine hj _ _ rfl ?_
     have t1:Int.tmod ((Z.bat s p).toNat:Int) 16=(((Z.bat s p).toNat%16:Nat):Int):=tm _ 16
     have t2:Int.tmod ((Z.bat s (p+1)).toNat:Int) 64=(((Z.bat s (p+1)).toNat%64:Nat):Int):=tm _ 64
     have t3:Int.tmod ((Z.bat s (p+2)).toNat:Int) 64=(((Z.bat s (p+2)).toNat%64:Nat):Int):=tm _ 64
     rw[e,t1,t2,t3]
     generalize hu:(Z.bat s p).toNat%16=u
     generalize hx:(Z.bat s (p+1)).toNat%64=x
     generalize hy:(Z.bat s (p+2)).toNat%64=y
     have hu':u<16:=by omega
     have hx':x<64:=by omega
     have hy':y<64:=by omega
     rw[i32_small (x:=(u:Int)) (by omega) (by omega),i32_small (x:=(u:Int)*64) (by omega) (by omega),i32_small (x:=(x:Int)) (by omega) (by omega),i32_small (x:=(u:Int)*64+(x:Int)) (by omega) (by omega),i32_small (x:=((u:Int)*64+(x:Int))*64) (by omega) (by omega),i32_small (x:=(y:Int)) (by omega) (by omega),i32_small (by omega) (by omega)]
     omega
    ·rw[if_neg (by omega),if_neg (by omega),if_neg (by omega),if_pos (by omega),A.gd1 ⟨r1,r2,r3⟩,i0,Option.bind_some,A.gd1 (by decide),i1,if_pos (by omega),Option.bind_some,A.gd1 (by decide),i2,if_pos (by omega),Option.bind_some,A.gd1 (by decide),i3,if_pos (by omega),Option.bind_some,A.gd1 (by decide)]
     refine hj _ _ rfl ?_
     have t1:Int.tmod ((Z.bat s p).toNat:Int) 8=(((Z.bat s p).toNat%8:Nat):Int):=tm _ 8
     have t2:Int.tmod ((Z.bat s (p+1)).toNat:Int) 64=(((Z.bat s (p+1)).toNat%64:Nat):Int):=tm _ 64
     have t3:Int.tmod ((Z.bat s (p+2)).toNat:Int) 64=(((Z.bat s (p+2)).toNat%64:Nat):Int):=tm _ 64
     have t4:Int.tmod ((Z.bat s (p+3)).toNat:Int) 64=(((Z.bat s (p+3)).toNat%64:Nat):Int):=tm _ 64
     rw[e,t1,t2,t3,t4]
     generalize hu:(Z.bat s p).toNat%8=u
     generalize hx:(Z.bat s (p+1)).toNat%64=x
     generalize hy:(Z.bat s (p+2)).toNat%64=y
     generalize hz:(Z.bat s (p+3)).toNat%64=z
     have hu':u<8:=by omega
     have hx':x<64:=by omega
     have hy':y<64:=by omega
     have hz':z<64:=by omega
     rw[i32_small (x:=(u:Int)) (by omega) (by omega),i32_small (x:=(u:Int)*64) (by omega) (by omega),i32_small (x:=(x:Int)) (by omega) (by omega),i32_small (x:=(u:Int)*64+(x:Int)) (by omega) (by omega),i32_small (x:=((u:Int)*64+(x:Int))*64) (by omega) (by omega),i32_small (x:=(y:Int)) (by omega) (by omega),
      i32_small (x:=((u:Int)*64+(x:Int))*64+(y:Int)) (by omega) (by omega),i32_small (x:=(((u:Int)*64+(x:Int))*64+(y:Int))*64) (by omega) (by omega),i32_small (x:=(z:Int)) (by omega) (by omega),i32_small (by omega) (by omega)]
     omega
   ·rw[if_neg (by omega),ck_end h];simp[ats]
 have:=loop s.size 0 A.FU [] (by omega) (by have:=FU_big;omega) (by simp) (by omega) hv
 rw[F.R05_Runes]
 exact this
theorem iter_F (s:ByteArray):F.rec_Runes_1_it s=some (ats 0 (cks s.data.toList))∨9223372036854775807<s.size:=by
 by_cases hs:s.size≤9223372036854775807
 ·left
  have loop: ∀(n p f:Nat),s.size-p≤n→n<f→F.rec_Runes_1_it_l1 s f p=some (ats p (ckF n (s.data.toList.drop p))):=by
   intro n
   induction n with
   |zero=>
    intro p f hp hf
    obtain⟨f,rfl⟩: ∃f',f=f'+1:=⟨f-1,by omega⟩
    rw[F.rec_Runes_1_it_l1,if_neg (by omega),ck_end (by omega)];rfl
   |succ n ih=>
    intro p f hp hf
    obtain⟨f,rfl⟩: ∃f',f=f'+1:=⟨f-1,by omega⟩
    by_cases h:p<s.size
    ·have hd:=dec_fits h
     rw[F.rec_Runes_1_it_l1,if_pos h,ih _ _ (by omega) (by omega),ck_step h,ats]
     have e2:((s.data.toList.drop p).take (Utf8.decode s p).2).length=(Utf8.decode s p).2:=by
      rw[List.length_take,List.length_drop,size_list];omega
     rw[e2]
     simp[A.cns]
    ·rw[F.rec_Runes_1_it_l1,if_neg h,ck_end h];rfl
  exact loop s.size 0 A.FU (by omega) (by have:=FU_big;omega)
 ·right;omega
theorem ext_all (s:ByteArray):s.extract 0 s.size=s:=by
 refine ba_eq ?_
 rw[ByteArray.data_extract,Array.toList_extract]
 simp[List.extract_eq_take_drop]
 exact List.take_of_length_le (Nat.le_of_eq (size_list s))
theorem rcut_l (s:ByteArray)(n:Nat): ∀(cs:List Rn) (p e:Nat),p+(flat cs).length=s.size→e≤s.size→F.rec_Cut_l1 s n (ats p cs) e=some (s.extract 0 (if p≤n then bd n p cs else e))
 | [],p,e,hp,he=>by
  simp only[List.flatMap_nil,List.length_nil,Nat.add_zero]at hp
  subst hp
  rw[ats,F.rec_Cut_l1,bd]
  by_cases h:s.size≤n
  ·rw[if_pos (by omega),if_pos h,ext_all]
  ·rw[if_neg (by omega),if_neg h,A.gd1 ⟨by omega,by omega⟩,Int.toNat_natCast]
 |c::cs,p,e,hp,he=>by
  rw[flat_cons,List.length_append]at hp
  rw[ats,F.rec_Cut_l1,bd]
  by_cases h:p≤n
  ·rw[if_neg (by simp;omega),if_pos h]
   have e1:(p:Int)+(c.1.length:Int)=((p+c.1.length:Nat):Int):=by omega
   show F.rec_Cut_l1 s n (ats ((p:Int)+(c.1.length:Int)) cs) (p:Int)=_
   rw[e1]
   exact rcut_l s n cs (p+c.1.length) p (by omega) (by omega)
  ·rw[if_pos (by simp;omega),if_neg h,A.gd1 ⟨by omega,by omega⟩,Int.toNat_natCast]
theorem rec_Cut_eq (s:ByteArray)(n:Nat)(hs:s.size≤9223372036854775807):F.rec_Cut s n=some (s.extract 0 (bd n 0 (cks s.data.toList))):=by
 rw[F.rec_Cut,F.rec_Runes,Option.bind_some]
 rcases iter_F s with h|h
 ·rw[h,Option.bind_some]
  have hf:(flat (cks s.data.toList)).length=s.size:=by
   have:flat (cks s.data.toList)=s.data.toList:=flat_ckF _ _ (Nat.le_refl _)
   rw[this,size_list]
  have:=rcut_l s n (cks s.data.toList) 0 0 (by omega) (by omega)
  rw[if_pos (Nat.zero_le _)]at this
  exact this
 ·omega
theorem R05_Cut_eq (s:ByteArray)(n:Nat)(hs:s.size≤5000)(hv:vld s s.size 0=true):F.R05_Cut s n=some (s.extract 0 (bd n 0 (cks s.data.toList))):=by
 rw[F.R05_Cut,Runes_ats s hs hv,Option.bind_some]
 obtain⟨cs,hcs⟩: ∃cs,cs=cks s.data.toList:=⟨_,rfl⟩
 have hf:flat cs=s.data.toList:=by rw[hcs];exact flat_ckF _ _ (Nat.le_refl _)
 have hfl:(flat cs).length=s.size:=by rw[hf,size_list]
 have hcl:cs.length≤s.size:=by
  rw[hcs]
  have: ∀(n:Nat) (l:List UInt8),(ckF n l).length≤n:=by
   intro n
   induction n with
   |zero=>intro l;simp[ckF]
   |succ n ih=>intro l;unfold ckF;split<;>simp;exact ih _
  exact this _ _
 rw[←hcs]
 have loop: ∀(m k f e:Nat),k+m=cs.length→m<f→e≤s.size→((flat (cs.take k)).length≤n→e=(flat (cs.take k)).length)→F.R05_Cut_l3 s n (ats 0 cs) f e k=some (s.extract 0 (if(flat (cs.take k)).length≤n then bd n (flat (cs.take k)).length (cs.drop k)else e)):=by
  intro m
  induction m with
  |zero=>
   intro k f e hk hf he hp
   obtain⟨f,rfl⟩: ∃f',f=f'+1:=⟨f-1,by omega⟩
   rw[F.R05_Cut_l3,if_neg (by rw[ats_len];omega),List.drop_eq_nil_of_le (by omega),bd,A.gd1 ⟨by omega,by omega⟩,Int.toNat_natCast]
   split
   ·rename_i h;rw[hp h]
   ·rfl
  |succ m ih=>
   intro k f e hk hf he hp
   obtain⟨f,rfl⟩: ∃f',f=f'+1:=⟨f-1,by omega⟩
   have hck:cs[k]?=some cs[k]:=List.getElem?_eq_getElem (by omega)
   have htk:cs.take (k+1)=cs.take k++[cs[k]]:=by rw[List.take_add_one,hck];rfl
   have hq:(flat (cs.take (k+1))).length=(flat (cs.take k)).length+cs[k].1.length:=by rw[htk,flat_append,List.length_append];simp
   have hqs:(flat (cs.take (k+1))).length≤s.size:=by
    have h1:=congrArg List.length (flat_take cs (k+1))
    rw[List.length_take]at h1;omega
   have next: ∀q:Nat,q=(flat (cs.take (k+1))).length→F.R05_Cut_j2 (F.R05_Cut_l3 s n (ats 0 cs) f) n e k q=some (s.extract 0 (if(flat (cs.take k)).length≤n then bd n (flat (cs.take k)).length (cs.drop k)else e)):=fun q hqq=>by
    have ek:(k:Int)+1=((k+1:Nat):Int):=by omega
    rw[F.R05_Cut_j2,A.dropx hck,bd,←hq,←hqq]
    by_cases h:q≤n
    ·rw[if_pos (by omega),F.R05_Cut_j1,A.gd1 ⟨by omega,by omega⟩,ek,ih (k+1) f q (by omega) (by omega) (by omega) (fun _=>hqq),←hqq,if_pos h,if_pos h,if_pos (by omega)]
    ·rw[if_neg (by omega),F.R05_Cut_j1,A.gd1 ⟨by omega,by omega⟩,ek,ih (k+1) f e (by omega) (by omega) he (fun h2=>by omega),←hqq,if_neg h,if_neg h]
     split
     ·rename_i h3;rw[hp h3]
     ·rfl
   rw[F.R05_Cut_l3,if_pos (by rw[ats_len];omega),A.gd1 ⟨by omega,by omega⟩]
   by_cases hl:k+1<cs.length
   ·have hx:(ats 0 cs)[k+1]?=some ((0:Int)+((flat (cs.take (k+1))).length:Int),cs[k+1].2):=by
     rw[ats_get,List.getElem?_eq_getElem hl];rfl
    rw[if_pos (by rw[ats_len];omega),A.gd1 ⟨by omega,by omega⟩,show(k:Int)+1=((k+1:Nat):Int) by omega,A.ixn hx,Option.bind_some]
    show F.R05_Cut_j2 _ _ _ _ ((0:Int)+((flat (cs.take (k+1))).length:Int))=_
    rw[Int.zero_add]
    exact next _ rfl
   ·rw[if_neg (by rw[ats_len];omega)]
    exact next _ (by rw[List.take_of_length_le (by omega),hfl])
 have:=loop cs.length 0 A.FU 0 (by omega) (by have:=FU_big;omega) (by omega) (by simp)
 simpa using this
end Go.Proofs.YtbljnlkhebiniaaGreatDoor
end
section
set_option maxRecDepth 20000
set_option linter.unusedVariables false
set_option linter.unusedSimpArgs false
namespace Go.Proofs.YtbljnlkhebiniaaGreatDoor
open Go.RowKit Go.Graph Go.Utf
abbrev Rec:=Int×ByteArray
def okT (s:ByteArray):Bool:=decide (s.size≤64)&&vld s s.size 0
theorem rec_Check_eq (r:Rec):F.rec_Check r=some (if okT r.2=true then 0 else 50):=by
 rw[F.rec_Check]
 unfold okT
 by_cases h:r.2.size≤64
 ·rw[if_neg (by omega),F.utf8_ValidString,validD_eq,Option.bind_some,F.rec_Check_j1,decide_eq_true h,Bool.true_and]
  cases vld r.2 r.2.size 0<;>rfl
 ·rw[if_pos (by omega),F.rec_Check_j1,if_pos rfl,decide_eq_false h];rfl
theorem R05_Check_eq (r:Rec):F.R05_Check r=some (if okT r.2=true then 0 else 50):=by
 rw[F.R05_Check]
 unfold okT
 by_cases h:r.2.size≤64
 ·rw[if_neg (by omega),Valid_eq _ (by omega),Option.bind_some,F.R05_Check_j1,decide_eq_true h,Bool.true_and]
  cases vld r.2 r.2.size 0<;>rfl
 ·rw[if_pos (by omega),F.R05_Check_j1,if_pos rfl,decide_eq_false h];rfl
theorem okT_iff {s:ByteArray}:okT s=true↔s.size≤64∧vld s s.size 0=true:=by unfold okT;simp
theorem vld_cks {s:ByteArray}(h:vld s s.size 0=true):flat (cks s.data.toList)=s.data.toList∧∀c,c∈cks s.data.toList→Ck c:=valid_cks (by rw[validD_eq];exact h)
theorem vld_of {s:ByteArray}{cs:List Rn}(h:s.data.toList=flat cs)(hc: ∀c,c∈cs→Ck c):vld s s.size 0=true:=by
 rw[←validD_eq,h];exact valid_flat hc
theorem cks_of {s:ByteArray}{cs:List Rn}(h:s.data.toList=flat cs)(hc: ∀c,c∈cs→Ck c):cks s.data.toList=cs:=by rw[h];exact cks_flat hc
theorem app_list (s t:ByteArray):(s++t).data.toList=s.data.toList++t.data.toList:=by rw[ByteArray.data_append,Array.toList_append]
theorem vld_app {s t:ByteArray}(hs:vld s s.size 0=true)(ht:vld t t.size 0=true):vld (s++t) (s++t).size 0=true∧cks (s++t).data.toList=cks s.data.toList++cks t.data.toList:=by
 obtain⟨h1,h2⟩:=vld_cks hs
 obtain⟨h3,h4⟩:=vld_cks ht
 have e:(s++t).data.toList=flat (cks s.data.toList++cks t.data.toList):=by rw[flat_append,h1,h3,app_list]
 have hc: ∀c,c∈cks s.data.toList++cks t.data.toList→Ck c:=fun c hc=>(List.mem_append.1 hc).elim (h2 c) (h4 c)
 exact⟨vld_of e hc,cks_of e hc⟩
theorem cks_len (s:ByteArray):(cks s.data.toList).length≤s.size:=by
 have: ∀(n:Nat) (l:List UInt8),(ckF n l).length≤n:=by
  intro n
  induction n with
  |zero=>intro l;simp[ckF]
  |succ n ih=>intro l;unfold ckF;split<;>simp;exact ih _
 exact this _ _
end Go.Proofs.YtbljnlkhebiniaaGreatDoor
end
section
set_option maxRecDepth 20000
set_option linter.unusedVariables false
set_option linter.unusedSimpArgs false
namespace Go.Proofs.YtbljnlkhebiniaaGreatDoor
open Go.RowKit Go.Graph Go.Utf
theorem Reverse_eq (l:List Int)(hl:l.length≤4611686018427387904):F.slices_Reverse_rune_rune l=some l.reverse:=by
 have loop: ∀(m f:Nat) (X0 M B:List Int),M.length≤m→m<f→X0.length+M.length≤4611686018427387904→F.slices_Reverse_rune_rune_l1 f (X0++M++B) (X0.length:Int) ((X0.length:Int)+(M.length:Int)-1)=some (X0++M.reverse++B):=by
  intro m
  induction m with
  |zero=>
   intro f X0 M B hm hf _
   obtain⟨f,rfl⟩: ∃f',f=f'+1:=⟨f-1,by omega⟩
   obtain rfl:M=[]:=List.eq_nil_of_length_eq_zero (by omega)
   rw[F.slices_Reverse_rune_rune_l1,if_neg (by simp only[List.length_nil];omega)];simp
  |succ m ih=>
   intro f X0 M B hm hf hlen
   obtain⟨f,rfl⟩: ∃f',f=f'+1:=⟨f-1,by omega⟩
   by_cases h2:M.length<2
   ·have hr:M.reverse=M:=by
     match M,h2 with
     | [],_=>rfl
     | [x],_=>rfl
    rw[F.slices_Reverse_rune_rune_l1,if_neg (by omega),hr]
   ·obtain⟨x,M1,rfl⟩: ∃x M1,M=x::M1:=by
     cases M with
     |nil=>simp at h2
     |cons x M1=>exact⟨x,M1,rfl⟩
    obtain⟨M2,y,rfl⟩: ∃M2 y,M1=M2++[y]:=by
     have hne:M1≠[]:=fun e=>by subst e;simp at h2
     exact⟨M1.dropLast,M1.getLast hne,(List.dropLast_concat_getLast hne).symm⟩
    simp only[List.length_cons,List.length_append,List.length_nil]at hm hlen h2 ⊢
    have ei:(X0.length:Int)+((M2.length+(0+1)+1:Nat):Int)-1=((X0.length+M2.length+1:Nat):Int):=by omega
    rw[ei]
    have hy:(X0++(x::(M2++[y]))++B)[X0.length+M2.length+1]?=some y:=by
     rw[List.append_assoc,List.getElem?_append_right (by omega),show X0.length+M2.length+1-X0.length=M2.length+1 by omega,List.cons_append,List.getElem?_cons_succ,List.append_assoc,List.getElem?_append_right (Nat.le_refl _)]
     simp
    have hx:(X0++(x::(M2++[y]))++B)[X0.length]?=some x:=by
     rw[List.append_assoc,List.getElem?_append_right (Nat.le_refl _)];simp
    have hs1:(X0++(x::(M2++[y]))++B).set X0.length y=X0++(y::(M2++[y]))++B:=by
     rw[List.append_assoc,List.set_append_right _ _ (Nat.le_refl _)];simp
    have hy2:(X0++(y::(M2++[y]))++B)[X0.length+M2.length+1]?=some y:=by
     rw[List.append_assoc,List.getElem?_append_right (by omega),show X0.length+M2.length+1-X0.length=M2.length+1 by omega,List.cons_append,List.getElem?_cons_succ,List.append_assoc,List.getElem?_append_right (Nat.le_refl _)]
     simp
    have hs2:(X0++(y::(M2++[y]))++B).set (X0.length+M2.length+1) x=(X0++[y])++M2++([x]++B):=by
     rw[List.append_assoc,List.set_append_right _ _ (by omega),show X0.length+M2.length+1-X0.length=M2.length+1 by omega,List.cons_append,List.set_cons_succ,List.append_assoc,List.set_append_right _ _ (Nat.le_refl _)]
     simp
    rw[F.slices_Reverse_rune_rune_l1,if_pos (by omega),A.ixn hy,Option.bind_some,A.ixn hx,Option.bind_some,Option.bind_some,Int.toNat_natCast,hs1,A.ixn hy2,Option.bind_some,A.gd1 ⟨⟨by omega,by omega⟩,by omega,by omega⟩,Int.toNat_natCast,hs2]
    have:=ih f (X0++[y]) M2 ([x]++B) (by omega) (by omega) (by simp only[List.length_append,List.length_cons,List.length_nil];omega)
    simp only[List.length_append,List.length_cons,List.length_nil]at this
    rw[show((X0.length:Nat):Int)+1=((X0.length+(0+1):Nat):Int) by omega,show((X0.length+M2.length+1:Nat):Int)-1=((X0.length+(0+1):Nat):Int)+(M2.length:Int)-1 by omega,this]
    simp
 have:=loop l.length A.FU [] l [] (Nat.le_refl _) (by have:=FU_big;omega) (by simp;omega)
 rw[F.slices_Reverse_rune_rune,A.gd1 ⟨by omega,by omega⟩]
 simpa using this
def upB (b:UInt8):UInt8:=if 97≤b.toNat∧b.toNat≤122 then UInt8.ofNat (b.toNat-32)else b
def upper (s:ByteArray):ByteArray:=⟨(s.data.toList.map upB).toArray⟩
theorem up_set {l:List UInt8}{k:Nat}{x:UInt8}(h:l[k]?=some x):((l.take k).map upB++l.drop k).set k (upB x)=(l.take (k+1)).map upB++l.drop (k+1):=by
 have hlt:=(List.getElem?_eq_some_iff.1 h).1
 have hk:((l.take k).map upB).length=k:=by rw[List.length_map,List.length_take];omega
 rw[List.set_append_right _ _ (by omega),hk,Nat.sub_self,A.dropx h,List.take_add_one,h]
 simp
theorem up_get {l:List UInt8}{k:Nat}{x:UInt8}(h:l[k]?=some x):((l.take k).map upB++l.drop k)[k]?=some x:=by
 have hlt:=(List.getElem?_eq_some_iff.1 h).1
 have hk:((l.take k).map upB).length=k:=by rw[List.length_map,List.length_take];omega
 rw[List.getElem?_append_right (by omega),hk,Nat.sub_self,A.dropx h];rfl
theorem up_same {l:List UInt8}{k:Nat}{x:UInt8}(h:l[k]?=some x)(hx:upB x=x):(l.take k).map upB++l.drop k=(l.take (k+1)).map upB++l.drop (k+1):=by
 rw[←up_set h,hx]
 refine(List.ext_getElem? fun i=>?_)
 rw[List.getElem?_set]
 split
 ·rename_i e;subst e
  rw[up_get h]
  split
  ·rfl
  ·rename_i h2
   have:=up_get h
   rw[List.getElem?_eq_none (by omega)]at this;cases this
 ·rfl
theorem b8_up {x:UInt8}(h:97≤x.toNat∧x.toNat≤122):A.b8 ((x.toNat:Int)-32)=upB x:=by
 unfold A.b8 upB
 rw[if_pos h]
 congr 1;omega
theorem wrap8 {x:Int}(h0:0≤x)(h1:x<256):IntKind.u8.wrap x=x:=by
 simp[IntKind.wrap,IntKind.bits,IntKind.signed];omega
theorem upper_F (s:ByteArray)(hs:s.size≤9223372036854775806):F.fn_upper s=some (upper s):=by
 have:=A.lp s.data.toList (fun f (xs:List UInt8) y=>F.fn_upper_l2 s f xs y) (fun _ _ _=>some (upper s)) (fun k xs=>xs=(s.data.toList.take k).map upB++s.data.toList.drop k)
  (fun f xs hp=>by
   show F.fn_upper_l2 s (f+1) xs _=_
   rw[F.fn_upper_l2,if_neg (by omega),hp,List.take_length,List.drop_length,List.append_nil];rfl)
  (fun f xs k x hx hk hp ih=>by
   subst hp
   have hkz:k<s.size:=by rw[←size_list];exact hk
   show F.fn_upper_l2 s (f+1) _ _=_
   rw[F.fn_upper_l2,if_pos (by omega),A.ixn (up_get hx),Option.bind_some]
   simp only[A.ba]
   by_cases h:97≤x.toNat∧x.toNat≤122
   ·rw[if_pos (by simp;omega),Option.bind_some,F.fn_upper_j1,A.gd1 ⟨by omega,by omega⟩,wrap8 (by omega) (by omega),show(x.toNat:Int)-97+65=(x.toNat:Int)-32 by omega,b8_up h,Int.toNat_natCast,up_set hx]
    exact ih _ rfl
   ·have hx2:upB x=x:=by unfold upB;rw[if_neg h]
    rw[if_neg (by simp;omega),F.fn_upper_j1,A.gd1 ⟨by omega,by omega⟩,up_same hx hx2]
    exact ih _ rfl)
  (by have:=FU_big;rw[size_list];omega) s.data.toList (by simp)
 rw[F.fn_upper];exact this
theorem R06_upper_eq (s:ByteArray)(hs:s.size≤9223372036854775806):F.R06_upper s=some (upper s):=by
 have:=A.lp s.data.toList (fun f (xs:List UInt8) y=>F.R06_upper_l3 s f xs y) (fun _ _ _=>some (upper s)) (fun k xs=>xs=(s.data.toList.take k).map upB++s.data.toList.drop k)
  (fun f xs hp=>by
   show F.R06_upper_l3 s (f+1) xs _=_
   rw[F.R06_upper_l3,if_neg (by omega),hp,List.take_length,List.drop_length,List.append_nil];rfl)
  (fun f xs k x hx hk hp ih=>by
   subst hp
   have hkz:k<s.size:=by rw[←size_list];exact hk
   show F.R06_upper_l3 s (f+1) _ _=_
   have no:upB x=x→F.R06_upper_j2 (F.R06_upper_l3 s f) ((s.data.toList.take k).map upB++s.data.toList.drop k) (k:Int) false=some (upper s):=fun hx2=>by
    rw[F.R06_upper_j2,if_neg (by simp),F.R06_upper_j1,A.gd1 ⟨by omega,by omega⟩,up_same hx hx2]
    exact ih _ rfl
   rw[F.R06_upper_l3,if_pos (by omega),A.ixn (up_get hx),Option.bind_some]
   by_cases h:97≤x.toNat
   ·rw[if_pos (by omega),Option.bind_some]
    by_cases h2:x.toNat≤122
    ·rw[show decide ((x.toNat:Int)≤122)=true from decide_eq_true (by omega),F.R06_upper_j2,if_pos rfl,A.ixn (up_get hx),Option.bind_some,Option.bind_some,F.R06_upper_j1,A.gd1 ⟨by omega,by omega⟩,b8_up ⟨h,h2⟩,Int.toNat_natCast,up_set hx]
     exact ih _ rfl
    ·rw[show decide ((x.toNat:Int)≤122)=false from decide_eq_false (by omega)]
     exact no (by unfold upB;rw[if_neg (by omega)])
   ·rw[if_neg (by omega)]
    exact no (by unfold upB;rw[if_neg (by omega)]))
  (by have:=FU_big;rw[size_list];omega) s.data.toList (by simp)
 rw[F.R06_upper];exact this
abbrev pos (cs:List Rn) (k:Nat):Nat:=(flat (cs.take k)).length
theorem pos_le (cs:List Rn){a b:Nat}(h:a≤b):pos cs a≤pos cs b:=by
 have:cs.take b=cs.take a++(cs.take b).drop a:=by
  rw[List.drop_take]
  have:=List.take_append_drop a (cs.take b)
  rw[List.take_take,Nat.min_eq_left h,List.drop_take]at this
  exact this.symm
 show(flat _).length≤(flat _).length
 rw[this,flat_append,List.length_append];omega
theorem pos_end {s:ByteArray}{cs:List Rn}(hf:flat cs=s.data.toList)(k:Nat):pos cs k≤s.size:=by
 have h1:=congrArg List.length (flat_take cs k)
 rw[List.length_take,hf,size_list]at h1
 show(flat (cs.take k)).length≤_
 omega
theorem pos_all {s:ByteArray}{cs:List Rn}(hf:flat cs=s.data.toList){k:Nat}(h:cs.length≤k):pos cs k=s.size:=by
 show(flat (cs.take k)).length=_
 rw[List.take_of_length_le h,hf,size_list]
theorem part_eq {s:ByteArray}{cs:List Rn}(hf:flat cs=s.data.toList){a b:Nat}(h:a≤b):F.R06_part s (ats 0 cs) a b=some (s.extract (pos cs a) (pos cs b)):=by
 have j1: ∀u v:Nat,u=pos cs a→v=pos cs b→F.R06_part_j1 s u v=some (s.extract (pos cs a) (pos cs b)):=fun u v hu hv=>by
  have:=pos_le cs h
  have:=pos_end hf b
  rw[F.R06_part_j1,A.gd1 ⟨by omega,by omega,by omega⟩,Int.toNat_natCast,Int.toNat_natCast,hu,hv]
 have at_: ∀k,k<cs.length→(ats 0 cs)[k]?=some ((pos cs k:Int),cs[k]!.2):=fun k hk=>by
  rw[ats_get,List.getElem?_eq_getElem hk,Option.map_some,Int.zero_add,getElem!_pos cs k hk]
 have j2: ∀u:Nat,u=pos cs a→F.R06_part_j2 s (ats 0 cs) b u=some (s.extract (pos cs a) (pos cs b)):=fun u hu=>by
  rw[F.R06_part_j2,ats_len]
  by_cases hb:b<cs.length
  ·rw[if_pos (by omega),A.ixn (at_ b hb),Option.bind_some];exact j1 u _ hu rfl
  ·rw[if_neg (by omega)];exact j1 u _ hu (pos_all hf (by omega)).symm
 rw[F.R06_part,ats_len]
 by_cases ha:a<cs.length
 ·rw[if_pos (by omega),A.ixn (at_ a ha),Option.bind_some];exact j2 _ rfl
 ·rw[if_neg (by omega)];exact j2 _ (pos_all hf (by omega)).symm
theorem ext_flat {s:ByteArray}{cs:List Rn}(hf:flat cs=s.data.toList)(a b:Nat):(s.extract (pos cs a) (pos cs b)).data.toList=flat ((cs.take b).drop a):=by
 rw[ByteArray.data_extract,Array.toList_extract,List.extract_eq_take_drop,←hf]
 by_cases h:a≤b
 ·have e1:cs.take b=cs.take a++(cs.take b).drop a:=by
   have:=List.take_append_drop a (cs.take b)
   rw[List.take_take,Nat.min_eq_left h]at this
   exact this.symm
  have e2:flat (cs.take b)=flat (cs.take a)++flat ((cs.take b).drop a):=by rw[←flat_append,←e1]
  have e3:flat cs=flat (cs.take a)++(flat ((cs.take b).drop a)++flat (cs.drop b)):=by
   rw[←List.append_assoc,←e2,←flat_append,List.take_append_drop]
  have e4:pos cs b-pos cs a=(flat ((cs.take b).drop a)).length:=by
   show(flat (cs.take b)).length -(flat (cs.take a)).length=_
   rw[e2,List.length_append];omega
  rw[e3,show pos cs a=(flat (cs.take a)).length from rfl,List.drop_left]
  rw[show(flat (cs.take b)).length -(flat (cs.take a)).length=(flat ((cs.take b).drop a)).length from e4,List.take_left]
 ·have h1:=pos_le cs (show b≤a by omega)
  have h2:(cs.take b).drop a=[]:=List.drop_eq_nil_of_le (by rw[List.length_take];omega)
  rw[show pos cs b-pos cs a=0 by omega,h2,List.take_zero];rfl
theorem turn_eq (s:ByteArray)(hs:s.size≤5000)(hv:vld s s.size 0=true):F.R06_turn s=some ⟨(flat (cks s.data.toList).reverse).toArray⟩:=by
 rw[F.R06_turn,Runes_ats s hs hv,Option.bind_some]
 obtain⟨cs,hcs⟩: ∃cs,cs=cks s.data.toList:=⟨_,rfl⟩
 have hf:flat cs=s.data.toList:=by rw[hcs];exact flat_ckF _ _ (Nat.le_refl _)
 rw[←hcs]
 have hrl: ∀k,(flat (cs.take k).reverse).length=pos cs k:=fun k=>by
  show(flat _).length=(flat _).length
  simp only[List.length_flatMap]
  rw[List.map_reverse,List.sum_reverse]
 have hcl:cs.length≤5000:=by
  have: ∀(n:Nat) (l:List UInt8),(ckF n l).length≤n:=by
   intro n
   induction n with
   |zero=>intro l;simp[ckF]
   |succ n ih=>intro l;unfold ckF;split<;>simp;exact ih _
  have:=this s.data.toList.length s.data.toList
  rw[hcs];rw[size_list]at this
  exact Nat.le_trans this hs
 have:=A.lp cs (fun f (y:ByteArray) k=>F.R06_turn_l1 s (ats 0 cs) f y k) (fun _ _ _=>some (⟨(flat cs.reverse).toArray⟩:ByteArray)) (fun k y=>y=⟨(flat (cs.take k).reverse).toArray⟩)
  (fun f y hp=>by
   show F.R06_turn_l1 s (ats 0 cs) (f+1) y _=_
   rw[F.R06_turn_l1,if_neg (by rw[ats_len];omega),hp,List.take_length])
  (fun f y k x hx hk hp ih=>by
   subst hp
   show F.R06_turn_l1 s (ats 0 cs) (f+1) _ _=_
   have hr:Z.R64 ((k:Int)+1):=⟨by omega,by omega⟩
   have ek:(k:Int)+1=((k+1:Nat):Int):=by omega
   have hsz:(ByteArray.mk (flat (cs.take k).reverse).toArray).size=pos cs k:=by
    show(flat (cs.take k).reverse).toArray.size=_
    rw[List.size_toArray,hrl]
   have hp1:=pos_end hf (k+1)
   have hp0:=pos_end hf k
   have hes:(s.extract (pos cs k) (pos cs (k+1))).size≤s.size:=by rw[ByteArray.size_extract];omega
   rw[F.R06_turn_l1,if_pos (by rw[ats_len];omega),A.gd1 hr,ek,part_eq hf (show k≤k+1 by omega),Option.bind_some,A.gd1 (by rw[hsz];omega),A.gd1 (by rw[←ek];exact hr),←ek]
   refine ih _ ?_
   refine ba_eq ?_
   rw[ByteArray.data_append,Array.toList_append,ext_flat hf]
   have e1:(cs.take (k+1)).drop k=[x]:=by
    rw[List.take_add_one,hx,List.drop_append_of_le_length (by rw[List.length_take];omega),List.drop_eq_nil_of_le (by rw[List.length_take];omega)];rfl
   have e2:(cs.take (k+1)).reverse=x::(cs.take k).reverse:=by rw[List.take_add_one,hx];simp
   rw[e1,e2,flat_cons]
   simp)
  (by have:=FU_big;omega) (ByteArray.mk #[]) (by simp)
 exact this
end Go.Proofs.YtbljnlkhebiniaaGreatDoor
end
section
set_option maxRecDepth 20000
set_option linter.unusedVariables false
set_option linter.unusedSimpArgs false
namespace Go.Proofs.YtbljnlkhebiniaaGreatDoor
open Go.RowKit Go.Graph Go.Utf
def mapK (f:Fun)(r:Rec):Rec:=
 if f.1=2 then(r.1,upper r.2)else if f.1=3 then(r.1,⟨(flat ((cks r.2.data.toList).take f.2.1.toNat)).toArray⟩)else if f.1=4 then(r.1,⟨(flat (cks r.2.data.toList).reverse).toArray⟩)
 else if f.1=5 then(r.1,(r.2++f.2.2).extract 0 (bd 64 0 (cks (r.2++f.2.2).data.toList)))else if f.1=6 then(Int.tmod (Int.tmod r.1 f.2.1+f.2.1) f.2.1,r.2)
 else if f.1=7 then(((cks r.2.data.toList).length:Int),r.2)else if f.1=8 then((((cks r.2.data.toList).map (·.2))[0]?).getD 0,r.2)else r
def mapP (f:Fun)(r:Rec):Rec×Int:=if chk 2 f≠0 then((0,ByteArray.mk #[]),chk 2 f)else if okT r.2=true then(mapK f r,0)else((0,ByteArray.mk #[]),50)
theorem chk_map {f:Fun}(h:chk 2 f=0):(1≤f.1∧f.1≤8)∧numberF f=true∧textP f=true:=by
 have hk:chk 2 f=anyF f [1,2,3,4,5,6,7,8]:=rfl
 rw[hk]at h
 unfold anyF at h
 split at h
 ·rename_i h1
  rw[List.any_eq_true]at h1
  obtain⟨y,hy,h2⟩:=h1
  simp only[Bool.and_eq_true,decide_eq_true_eq]at h2
  obtain⟨rfl,h3,h4⟩:=h2
  refine⟨?_,h3,h4⟩
  simp only[List.mem_cons,List.mem_nil_iff,or_false]at hy
  omega
 ·cases h
theorem num_cut {f:Fun}(h:chk 2 f=0)(h3:f.1=3):0≤f.2.1∧f.2.1≤64:=by
 have:=(chk_map h).2.1
 unfold numberF at this
 rw[if_pos (.inl h3)]at this
 simpa using this
theorem num_mod {f:Fun}(h:chk 2 f=0)(h3:f.1=6):1≤f.2.1∧f.2.1≤1048576:=by
 have:=(chk_map h).2.1
 unfold numberF at this
 rw[if_neg (by omega),if_pos (.inl h3)]at this
 simpa using this
theorem txt_behind {f:Fun}(h:chk 2 f=0)(h3:f.1=5):f.2.2.size≤16∧vld f.2.2 f.2.2.size 0=true:=by
 have:=(chk_map h).2.2
 unfold textP at this
 rw[if_pos h3]at this
 simp only[Bool.and_eq_true,decide_eq_true_eq]at this
 exact⟨by omega,this.2⟩
theorem runes_mk {cs:List Rn}(h: ∀c,c∈cs→Ck c):runesBytes (cs.map (·.2))=⟨(flat cs).toArray⟩:=ba_eq (by rw[runes_flat h])
theorem mk_size (l:List UInt8):(ByteArray.mk l.toArray).size=l.length:=by show l.toArray.size=_;simp
theorem flat_sub {cs:List Rn}(k:Nat):(flat (cs.take k)).length≤(flat cs).length:=by
 have:=congrArg List.length (flat_take cs k)
 rw[List.length_take]at this;omega
theorem flat_rev (cs:List Rn):(flat cs.reverse).length=(flat cs).length:=by
 show(cs.reverse.flatMap (·.1)).length=(cs.flatMap (·.1)).length
 simp only[List.length_flatMap]
 rw[List.map_reverse,List.sum_reverse]
theorem rest_eq {n b:Int}(h1:1≤b)(h2:b≤1048576):F.fn_rest n b=some (Int.tmod (Int.tmod n b+b) b):=by
 have t1:Int.tmod n b<b:=Int.tmod_lt_of_pos n (by omega)
 have t2: -b<Int.tmod n b:=by
  have:=Int.tmod_lt_of_pos (-n) (show 0<b by omega)
  rw[Int.neg_tmod]at this;omega
 rw[F.fn_rest,A.gd1 (by omega)]
 by_cases h:Int.tmod n b<0
 ·rw[if_pos h,A.gd1 ⟨by omega,by omega⟩,F.fn_rest_j1,Int.tmod_eq_of_lt (a:=Int.tmod n b+b) (by omega) (by omega)]
 ·rw[if_neg h,F.fn_rest_j1]
  congr 1
  rw[Int.tmod_eq_emod_of_nonneg (a:=Int.tmod n b+b) (by omega),Int.add_emod_right,Int.emod_eq_of_lt (by omega) t1]
theorem rune_fits {cs:List Rn}(h: ∀c,c∈cs→Ck c){x:Int}(hx:(cs.map (·.2))[0]?=some x):0≤x∧x≤1114111:=by
 rw[List.getElem?_map,Option.map_eq_some_iff]at hx
 obtain⟨c,hc,rfl⟩:=hx
 have:=h c (List.mem_of_getElem? hc)
 exact⟨this.nn,this.top⟩
theorem fn_both_eq (f:Fun)(r:Rec)(hs:f.2.2.size≤9223372036854775807):F.fn_both 2 f r=some (if chk 2 f≠0 then chk 2 f else if okT r.2=true then 0 else 50):=by
 rw[F.fn_both]
 show(F.fn_Check 2 f).bind _=_
 rw[fn_Check_eq 2 f hs,Option.bind_some]
 by_cases h:chk 2 f=0
 ·rw[if_neg (fun h2=>h2 h),if_neg (fun h2=>h2 h)]
  show(F.rec_Check r).bind _=_
  rw[rec_Check_eq];rfl
 ·rw[if_pos h,if_pos h]
theorem R06_may_eq (f:Fun)(r:Rec)(hs:f.2.2.size≤5000):F.R06_may 2 f r=some (if chk 2 f≠0 then chk 2 f else if okT r.2=true then 0 else 50):=by
 rw[F.R06_may]
 show(F.R06_Check 2 f).bind _=_
 rw[R06_Check_eq 2 f hs,Option.bind_some]
 by_cases h:chk 2 f=0
 ·rw[if_neg (fun h2=>h2 h),if_neg (fun h2=>h2 h)]
  show(F.R05_Check r).bind _=_
  rw[R05_Check_eq];rfl
 ·rw[if_pos h,if_pos h]
theorem fn_Map_eq (f:Fun)(r:Rec)(hs:f.2.2.size≤9223372036854775807):F.fn_Map f r=some (mapP f r):=by
 rw[F.fn_Map]
 show(F.fn_both 2 f r).bind _=_
 rw[fn_both_eq f r hs,Option.bind_some]
 unfold mapP
 by_cases h:chk 2 f=0
 case neg=>rw[show(if chk 2 f≠0 then chk 2 f else if okT r.2=true then 0 else 50)=chk 2 f from if_pos h,if_pos h,if_pos h]
 rw[show(if chk 2 f≠0 then chk 2 f else if okT r.2=true then 0 else 50)=if okT r.2=true then 0 else 50 from if_neg (fun h2=>h2 h),if_neg (show ¬(chk 2 f≠0)from fun h2=>h2 h)]
 by_cases ho:okT r.2=true
 case neg=>rw[show(if okT r.2=true then(0:Int)else 50)=50 from if_neg ho,if_neg ho];rfl
 rw[show(if okT r.2=true then(0:Int)else 50)=0 from if_pos ho,if_pos ho,if_neg (show ¬((0:Int)≠0)from fun h2=>h2 rfl)]
 obtain⟨h64,hv⟩:=okT_iff.1 ho
 obtain⟨hf,hc⟩:=vld_cks hv
 have hfl:(flat (cks r.2.data.toList)).length=r.2.size:=by rw[hf,size_list]
 have hcl:=cks_len r.2
 rw[runes_F _ (by omega),Option.bind_some]
 unfold mapK
 by_cases e2:f.1=2
 ·rw[if_pos e2,if_pos e2,upper_F _ (by omega)];rfl
 rw[if_neg e2,if_neg e2]
 by_cases e3:f.1=3
 ·obtain⟨n1,n2⟩:=num_cut h e3
  have e:List.take (min (((cks r.2.data.toList).map (·.2)).length:Int) f.2.1).toNat ((cks r.2.data.toList).map (·.2))=((cks r.2.data.toList).take f.2.1.toNat).map (·.2):=by
   rw[List.map_take,List.length_map]
   by_cases hm:((cks r.2.data.toList).length:Int)≤f.2.1
   ·rw[Int.min_eq_left hm,Int.toNat_natCast,List.take_of_length_le (by rw[List.length_map];omega),List.take_of_length_le (by rw[List.length_map];omega)]
   ·rw[Int.min_eq_right (by omega)]
  have hsub:=flat_sub (cs:=cks r.2.data.toList) f.2.1.toNat
  rw[if_pos e3,if_pos e3,A.gd1 ⟨by omega,by rw[List.length_map];omega⟩,e,runes_mk fun c hcm=>hc c (List.mem_of_mem_take hcm),A.gd1 (by rw[mk_size];omega)]
  rfl
 rw[if_neg e3,if_neg e3]
 by_cases e4:f.1=4
 ·have hr:=flat_rev (cks r.2.data.toList)
  rw[if_pos e4,if_pos e4,Reverse_eq _ (by rw[List.length_map];omega),Option.bind_some,←List.map_reverse,runes_mk fun c hcm=>hc c (List.mem_reverse.1 hcm),A.gd1 (by rw[mk_size];omega)]
  rfl
 rw[if_neg e4,if_neg e4]
 by_cases e5:f.1=5
 ·obtain⟨n1,n2⟩:=txt_behind h e5
  have:=rec_Cut_eq (r.2++f.2.2) 64 (by rw[ByteArray.size_append];omega)
  rw[if_pos e5,if_pos e5,A.gd1 (by omega),show(64:Int)=((64:Nat):Int)from rfl,this]
  rfl
 rw[if_neg e5,if_neg e5]
 by_cases e6:f.1=6
 ·obtain⟨n1,n2⟩:=num_mod h e6
  rw[if_pos e6,if_pos e6,rest_eq n1 n2];rfl
 rw[if_neg e6,if_neg e6]
 by_cases e7:f.1=7
 ·rw[if_pos e7,if_pos e7,List.length_map];rfl
 rw[if_neg e7,if_neg e7]
 by_cases e8:f.1=8
 ·rw[if_pos e8,if_pos e8]
  cases hx:((cks r.2.data.toList).map (·.2))[0]? with
  |none=>
   have:((cks r.2.data.toList).map (·.2)).length=0:=by
    have:=List.getElem?_eq_none_iff.1 hx;omega
   rw[if_neg (by omega)];rfl
  |some x=>
   have hlt:=(List.getElem?_eq_some_iff.1 hx).1
   have hr:=rune_fits hc hx
   rw[if_pos (by omega),show A.ix ((cks r.2.data.toList).map (·.2)) 0=some x from A.ixn (k:=0) hx,Option.bind_some,A.gd1 ⟨by omega,by omega⟩];rfl
 rw[if_neg e8,if_neg e8];rfl
theorem R06_Map_eq (f:Fun)(r:Rec)(hs:f.2.2.size≤5000):F.R06_Map f r=some (mapP f r):=by
 rw[F.R06_Map]
 show(F.R06_may 2 f r).bind _=_
 rw[R06_may_eq f r hs,Option.bind_some]
 unfold mapP
 by_cases h:chk 2 f=0
 case neg=>rw[show(if chk 2 f≠0 then chk 2 f else if okT r.2=true then 0 else 50)=chk 2 f from if_pos h,if_pos h,if_pos h]
 rw[show(if chk 2 f≠0 then chk 2 f else if okT r.2=true then 0 else 50)=if okT r.2=true then 0 else 50 from if_neg (fun h2=>h2 h),if_neg (show ¬(chk 2 f≠0)from fun h2=>h2 h)]
 by_cases ho:okT r.2=true
 case neg=>rw[show(if okT r.2=true then(0:Int)else 50)=50 from if_neg ho,if_neg ho];rfl
 rw[show(if okT r.2=true then(0:Int)else 50)=0 from if_pos ho,if_pos ho,if_neg (show ¬((0:Int)≠0)from fun h2=>h2 rfl)]
 obtain⟨h64,hv⟩:=okT_iff.1 ho
 obtain⟨hf,hc⟩:=vld_cks hv
 have hfl:(flat (cks r.2.data.toList)).length=r.2.size:=by rw[hf,size_list]
 have hcl:=cks_len r.2
 rw[Runes_ats _ (by omega) hv,Option.bind_some]
 unfold mapK
 by_cases e2:f.1=2
 ·rw[if_pos e2,if_pos e2,R06_upper_eq _ (by omega)];rfl
 rw[if_neg e2,if_neg e2]
 by_cases e3:f.1=3
 ·obtain⟨n1,n2⟩:=num_cut h e3
  have ea:f.2.1=((f.2.1.toNat:Nat):Int):=by omega
  have hp:=part_eq hf (a:=0) (b:=f.2.1.toNat) (Nat.zero_le _)
  rw[←ea]at hp
  have hp':F.R06_part r.2 (ats 0 (cks r.2.data.toList)) 0 f.2.1=_:=hp
  rw[if_pos e3,if_pos e3,hp',Option.bind_some]
  have:r.2.extract (pos (cks r.2.data.toList) 0) (pos (cks r.2.data.toList) f.2.1.toNat)=⟨(flat ((cks r.2.data.toList).take f.2.1.toNat)).toArray⟩:=ba_eq (by rw[ext_flat hf,List.drop_zero])
  rw[this];rfl
 rw[if_neg e3,if_neg e3]
 by_cases e4:f.1=4
 ·rw[if_pos e4,if_pos e4,turn_eq _ (by omega) hv];rfl
 rw[if_neg e4,if_neg e4]
 by_cases e5:f.1=5
 ·obtain⟨n1,n2⟩:=txt_behind h e5
  have:=R05_Cut_eq (r.2++f.2.2) 64 (by rw[ByteArray.size_append];omega) (vld_app hv n2).1
  rw[if_pos e5,if_pos e5,A.gd1 (by omega),show(64:Int)=((64:Nat):Int)from rfl,this]
  rfl
 rw[if_neg e5,if_neg e5]
 by_cases e6:f.1=6
 ·obtain⟨n1,n2⟩:=num_mod h e6
  have t1:Int.tmod r.1 f.2.1<f.2.1:=Int.tmod_lt_of_pos _ (by omega)
  have t2: -f.2.1<Int.tmod r.1 f.2.1:=by
   have:=Int.tmod_lt_of_pos (-r.1) (show 0<f.2.1 by omega)
   rw[Int.neg_tmod]at this;omega
  rw[if_pos e6,if_pos e6,A.gd1 ⟨by omega,⟨by omega,by omega⟩,by omega⟩];rfl
 rw[if_neg e6,if_neg e6]
 by_cases e7:f.1=7
 ·rw[if_pos e7,if_pos e7,ats_len];rfl
 rw[if_neg e7,if_neg e7]
 by_cases e8:f.1=8
 ·rw[if_pos e8,if_pos e8]
  have hg:=ats_get (cks r.2.data.toList) 0 0
  cases hx:(cks r.2.data.toList)[0]? with
  |none=>
   have:(cks r.2.data.toList).length=0:=by
    have:=List.getElem?_eq_none_iff.1 hx;omega
   rw[if_neg (by rw[ats_len];omega),List.getElem?_map,hx];rfl
  |some x=>
   have hlt:=(List.getElem?_eq_some_iff.1 hx).1
   have hx2:((cks r.2.data.toList).map (·.2))[0]?=some x.2:=by rw[List.getElem?_map,hx];rfl
   have hr:=rune_fits hc hx2
   rw[hx]at hg
   rw[if_pos (by rw[ats_len];omega),show A.ix (ats 0 (cks r.2.data.toList)) 0=some _ from A.ixn (k:=0) hg,Option.bind_some,A.gd1 ⟨by show _≤x.2;omega,by show x.2≤_;omega⟩,hx2];rfl
 rw[if_neg e8,if_neg e8];rfl
theorem Ck.one {b:UInt8}(h:b.toNat<128):Ck ([b],(b.toNat:Int)):=by
 have hd:Lib.decodeL [b]=(b.toNat,1):=by
  rw[Lib.decodeL_N]
  unfold Lib.decodeN
  rw[if_pos (by simpa using h)];rfl
 have:=Ck.of (l:=[b]) (by simp) (by rw[hd];intro h2;have:=h2.1;simp only at this;omega)
 rw[hd]at this
 exact this
theorem Ck.kinds {c:Rn}(h:Ck c):(∃b:UInt8,b.toNat<128∧c=([b],(b.toNat:Int)))∨∀b,b∈c.1→128≤b.toNat:=by
 have hd:=h.dec []
 rw[List.append_nil]at hd
 have hok:=h.ok
 have hlen:=h.len
 rw[Lib.decodeL_N]at hd
 have k0:=(c.1.getD 0 0).toNat_lt
 rcases Lib.decodeN_shape c.1.length (c.1.getD 0 0).toNat (c.1.getD 1 0).toNat (c.1.getD 2 0).toNat (c.1.getD 3 0).toNat with⟨q,e⟩|⟨c1,c2,c3,cv,e⟩|⟨c1,c2,c3,c4,cv,cs,e⟩|⟨c1,c2,c3,c4,c5,cv,cw,e⟩|e
 ·left
  rw[e]at hd
  injection hd with h1 h2
  have hc1:=Lib.takeA c.1 (by omega)
  rw[List.take_of_length_le (by omega)]at hc1
  refine⟨c.1.getD 0 0,q,?_⟩
  have hnn:=h.nn
  refine Prod.ext hc1 ?_
  show c.2=_
  rw[h1];omega
 ·right
  rw[e]at hd
  injection hd with h1 h2
  have hc1:=Lib.takeB c.1 (by omega)
  rw[List.take_of_length_le (by omega)]at hc1
  intro b hb
  rw[hc1]at hb
  simp only[List.mem_cons,List.mem_nil_iff,or_false]at hb
  rcases hb with rfl|rfl<;>omega
 ·right
  rw[e]at hd
  injection hd with h1 h2
  have hc1:=Lib.takeC c.1 (by omega)
  rw[List.take_of_length_le (by omega)]at hc1
  intro b hb
  rw[hc1]at hb
  simp only[List.mem_cons,List.mem_nil_iff,or_false]at hb
  rcases hb with rfl|rfl|rfl<;>omega
 ·right
  rw[e]at hd
  injection hd with h1 h2
  have hc1:=Lib.takeD c.1 (by omega)
  rw[List.take_of_length_le (by omega)]at hc1
  intro b hb
  rw[hc1]at hb
  simp only[List.mem_cons,List.mem_nil_iff,or_false]at hb
  rcases hb with rfl|rfl|rfl|rfl<;>omega
 ·rw[e]at hd
  injection hd with h1 h2
  exact absurd ⟨h1.symm,h2.symm⟩ hok
end Go.Proofs.YtbljnlkhebiniaaGreatDoor
end
section
set_option linter.unusedVariables false
set_option linter.unusedSimpArgs false
namespace Go.Ent
open Go.Utf
abbrev En:=Int×Int×ByteArray×Int
abbrev Ky:=Int×Int×ByteArray
abbrev key (e:En):Ky:=(e.1,e.2.1,e.2.2.1)
abbrev num (e:En):Int:=e.2.2.2
theorem bL_irr: ∀a:List UInt8,Op.bytesLess a a=false
 | []=>rfl
 |x::a=>by unfold Op.bytesLess;rw[bL_irr a];simp
theorem bL_tr: ∀{a b c:List UInt8},Op.bytesLess a b=true→Op.bytesLess b c=true→Op.bytesLess a c=true
 |_,_,[],_,h=>by cases h':(‹List UInt8›)<;>simp_all [Op.bytesLess]
 |_,[],_::_,h,_=>by simp_all [Op.bytesLess]
 | [],_::_,_::_,_,_=>rfl
 |x::a,y::b,z::c,h1,h2=>by
  unfold Op.bytesLess at h1 h2 ⊢
  simp only[Bool.or_eq_true,Bool.and_eq_true,decide_eq_true_eq,beq_iff_eq]at h1 h2 ⊢
  rcases h1 with h1|⟨rfl,h1⟩
  ·rcases h2 with h2|⟨rfl,h2⟩
   ·exact .inl (UInt8.lt_trans h1 h2)
   ·exact .inl h1
  ·rcases h2 with h2|⟨rfl,h2⟩
   ·exact .inl h2
   ·exact .inr ⟨rfl,bL_tr h1 h2⟩
theorem bL_tri: ∀{a b:List UInt8},Op.bytesLess a b=false→Op.bytesLess b a=false→a=b
 | [],[],_,_=>rfl
 | [],_::_,h,_=>by simp[Op.bytesLess]at h
 |_::_,[],_,h=>by simp[Op.bytesLess]at h
 |x::a,y::b,h1,h2=>by
  unfold Op.bytesLess at h1 h2
  simp only[Bool.or_eq_false_iff,decide_eq_false_iff_not,Bool.and_eq_false_iff]at h1 h2
  have e:x=y:=UInt8.le_antisymm (UInt8.not_lt.1 h2.1) (UInt8.not_lt.1 h1.1)
  subst e
  have h3:Op.bytesLess a b=false:=by rcases h1.2 with h|h;simp at h;exact h
  have h4:Op.bytesLess b a=false:=by rcases h2.2 with h|h;simp at h;exact h
  rw[bL_tri h3 h4]
def bl (s t:ByteArray):Bool:=Op.bytesLess s.toList t.toList
theorem bl_irr (s:ByteArray):bl s s=false:=bL_irr _
theorem bl_tr {s t u:ByteArray}(h1:bl s t=true)(h2:bl t u=true):bl s u=true:=bL_tr h1 h2
theorem bl_tri {s t:ByteArray}(h1:bl s t=false)(h2:bl t s=false):s=t:=by
 have:=bL_tri h1 h2
 rw[Lib.toList_data,Lib.toList_data]at this
 exact ba_eq this
def rl (a b:Int×ByteArray):Bool:=decide (a.1<b.1)||(decide (a.1=b.1)&&bl a.2 b.2)
theorem rl_irr (a:Int×ByteArray):rl a a=false:=by unfold rl;rw[bl_irr];simp
theorem rl_tr {a b c:Int×ByteArray}(h1:rl a b=true)(h2:rl b c=true):rl a c=true:=by
 unfold rl at h1 h2 ⊢
 simp only[Bool.or_eq_true,Bool.and_eq_true,decide_eq_true_eq]at h1 h2 ⊢
 rcases h1 with h1|⟨h1,h1'⟩
 ·rcases h2 with h2|⟨h2,h2'⟩
  ·left;omega
  ·left;omega
 ·rcases h2 with h2|⟨h2,h2'⟩
  ·left;omega
  ·exact .inr ⟨h1.trans h2,bl_tr h1' h2'⟩
theorem rl_tri {a b:Int×ByteArray}(h1:rl a b=false)(h2:rl b a=false):a=b:=by
 unfold rl at h1 h2
 simp only[Bool.or_eq_false_iff,decide_eq_false_iff_not,Bool.and_eq_false_iff]at h1 h2
 have e:a.1=b.1:=by omega
 have h3:bl a.2 b.2=false:=by rcases h1.2 with h|h;exact absurd e h;exact h
 have h4:bl b.2 a.2=false:=by rcases h2.2 with h|h;exact absurd e.symm h;exact h
 exact Prod.ext e (bl_tri h3 h4)
def kl (a b:Ky):Bool:=decide (a.1<b.1)||(decide (a.1=b.1)&&rl a.2 b.2)
theorem kl_irr (a:Ky):kl a a=false:=by unfold kl;rw[rl_irr];simp
theorem kl_ne {a b:Ky}(h:kl a b=true):a≠b:=fun e=>by subst e;rw[kl_irr]at h;cases h
abbrev Srt (l:List En):Prop:=l.Pairwise fun a b=>kl (key a) (key b)=true
def gv:List En→Ky→Int
 | [],_=>0
 |e::l,k=>if key e=k then num e else gv l k
theorem gv_none: ∀{l:List En} {k:Ky},(∀e,e∈l→key e≠k)→gv l k=0
 | [],_,_=>rfl
 |e::l,k,h=>by unfold gv;rw[if_neg (h e (List.mem_cons_self ..))];exact gv_none fun x hx=>h x (List.mem_cons_of_mem _ hx)
theorem gv_at {l:List En}{k:Ky}(h:gv l k≠0): ∃e,e∈l∧key e=k∧num e=gv l k:=by
 induction l with
 |nil=>exact absurd rfl h
 |cons x l ih=>
  unfold gv at h ⊢
  by_cases hx:key x=k
  ·rw[if_pos hx];exact⟨x,List.mem_cons_self ..,hx,rfl⟩
  ·rw[if_neg hx]at h ⊢
   obtain⟨e,h1,h2⟩:=ih h
   exact⟨e,List.mem_cons_of_mem _ h1,h2⟩
structure Nf (l:List En):Prop where
 srt:Srt l
 nz: ∀e,e∈l→num e≠0
def upd (x e:En)(one:Bool):En:=(x.1,x.2.1,x.2.2.1,if one=true then 1 else min (num x+num e) 1099511627776)
abbrev cap (one:Bool):Int:=if one=true then 1 else 1099511627776
structure Bd (one:Bool) (l:List En):Prop where
 srt:Srt l
 b: ∀e,e∈l→1≤num e∧num e≤cap one
theorem Bd.gv {one:Bool}{l:List En}(h:Bd one l)(k:Ky):0≤gv l k∧gv l k≤cap one:=by
 by_cases h0:Ent.gv l k=0
 ·rw[h0];cases one<;>decide
 ·obtain⟨e,h1,_,h2⟩:=gv_at h0
  have:=h.b e h1
  rw[h2]at this
  exact⟨by omega,this.2⟩
def cs (C:Int)(l:List En)(k:Ky):Int:=l.foldl (fun a e=>if key e=k then min C (a+num e)else a) 0
def sm:List En→Ky→Int
 | [],_=>0
 |e::l,k=>(if key e=k then num e else 0)+sm l k
theorem sm_nn {l:List En}(h: ∀e,e∈l→0≤num e)(k:Ky):0≤sm l k:=by
 induction l with
 |nil=>simp[sm]
 |cons x l ih=>
  have h1:=ih fun e he=>h e (List.mem_cons_of_mem _ he)
  have h2:=h x (List.mem_cons_self ..)
  unfold sm
  split<;>omega
theorem cs_sm {C:Int}(hC:0≤C): ∀(l:List En),(∀e,e∈l→0≤num e)→∀k,cs C l k=min C (sm l k):=by
 intro l h k
 have main: ∀(l:List En) (a:Int),(∀e,e∈l→0≤num e)→0≤a→a≤C→l.foldl (fun a e=>if key e=k then min C (a+num e)else a) a=min C (a+sm l k):=by
  intro l
  induction l with
  |nil=>intro a _ h1 h2;simp[sm];omega
  |cons x l ih=>
   intro a h h1 h2
   have hx:=h x (List.mem_cons_self ..)
   have hl:=sm_nn (fun e he=>h e (List.mem_cons_of_mem _ he)) k
   rw[List.foldl_cons,sm]
   split
   ·rw[ih _ (fun e he=>h e (List.mem_cons_of_mem _ he)) (by omega) (by omega)];omega
   ·rw[ih _ (fun e he=>h e (List.mem_cons_of_mem _ he)) h1 h2];omega
 have:=main l 0 h (Int.le_refl _) hC
 rw[Int.zero_add]at this
 exact this
theorem sm_gv: ∀{l:List En},Srt l→∀k,sm l k=gv l k
 | [],_,_=>rfl
 |x::l,h,k=>by
  obtain⟨h1,h2⟩:=List.pairwise_cons.1 h
  unfold sm gv
  by_cases hk:key x=k
  ·rw[if_pos hk,if_pos hk,sm_gv h2,gv_none (fun e he h3=>kl_ne (h1 e he) (hk.trans h3.symm))];omega
  ·rw[if_neg hk,if_neg hk,sm_gv h2];omega
theorem Bd.cs {one:Bool}{l:List En}(h:Bd one l)(k:Ky):cs (cap one) l k=Ent.gv l k:=by
 rw[cs_sm (by cases one<;>decide) l (fun e he=>by have:=(h.b e he).1;omega),sm_gv h.srt]
 have:=h.gv k
 omega
end Go.Ent
end
section
set_option linter.unusedVariables false
set_option linter.unusedSimpArgs false
namespace Go.Opr
open Go.Utf Go.Ent
abbrev Rc:=Int×ByteArray
abbrev Mn:=Rc×Int
abbrev kr (e:En):Rc:=(e.2.1,e.2.2.1)
abbrev SK {α:Type} (k:α→Rc) (l:List α):Prop:=l.Pairwise fun a b=>rl (k a) (k b)=true
theorem rl_ne {a b:Rc}(h:rl a b=true):a≠b:=fun e=>by subst e;rw[rl_irr]at h;cases h
def ins {α:Type}(k:α→Rc)(e:α):List α→List α
 | []=>[e]
 |x::l=>if k x=k e then e::l else if rl (k e) (k x)=true then e::x::l else x::ins k e l
theorem ins_mem {α:Type}{k:α→Rc}{e x:α}: ∀{l:List α},SK k l→(x∈ins k e l↔x=e∨(x∈l∧k x≠k e))
 | [],_=>by simp[ins]
 |y::l,h=>by
  obtain⟨h1,h2⟩:=List.pairwise_cons.1 h
  unfold ins
  by_cases hk:k y=k e
  ·rw[if_pos hk]
   simp only[List.mem_cons]
   constructor
   ·rintro(rfl|hx)
    ·exact .inl rfl
    ·exact .inr ⟨.inr hx,fun e2=>rl_ne (h1 x hx) (hk.trans e2.symm)⟩
   ·rintro(rfl|⟨rfl|hx,hn⟩)
    ·exact .inl rfl
    ·exact absurd hk hn
    ·exact .inr hx
  ·rw[if_neg hk]
   by_cases hlt:rl (k e) (k y)=true
   ·rw[if_pos hlt]
    simp only[List.mem_cons]
    constructor
    ·rintro(rfl|rfl|hx)
     ·exact .inl rfl
     ·exact .inr ⟨.inl rfl,hk⟩
     ·exact .inr ⟨.inr hx,fun e2=>rl_ne (rl_tr hlt (h1 x hx)) e2.symm⟩
    ·rintro(rfl|⟨rfl|hx,hn⟩)
     ·exact .inl rfl
     ·exact .inr (.inl rfl)
     ·exact .inr (.inr hx)
   ·rw[if_neg hlt,List.mem_cons,ins_mem h2,List.mem_cons]
    constructor
    ·rintro(rfl|rfl|⟨hx,hn⟩)
     ·exact .inr ⟨.inl rfl,hk⟩
     ·exact .inl rfl
     ·exact .inr ⟨.inr hx,hn⟩
    ·rintro(rfl|⟨rfl|hx,hn⟩)
     ·exact .inr (.inl rfl)
     ·exact .inl rfl
     ·exact .inr (.inr ⟨hx,hn⟩)
theorem ins_sk {α:Type}{k:α→Rc}{e:α}: ∀{l:List α},SK k l→SK k (ins k e l)
 | [],_=>List.pairwise_singleton ..
 |y::l,h=>by
  obtain⟨h1,h2⟩:=List.pairwise_cons.1 h
  unfold ins
  by_cases hk:k y=k e
  ·rw[if_pos hk]
   exact List.pairwise_cons.2 ⟨fun b hb=>hk▸h1 b hb,h2⟩
  ·rw[if_neg hk]
   by_cases hlt:rl (k e) (k y)=true
   ·rw[if_pos hlt]
    exact List.pairwise_cons.2 ⟨fun b hb=>(List.mem_cons.1 hb).elim (fun e=>e▸hlt) fun hb=>rl_tr hlt (h1 b hb),h⟩
   ·rw[if_neg hlt]
    refine List.pairwise_cons.2 ⟨fun b hb=>?_,ins_sk h2⟩
    rcases(ins_mem h2).1 hb with rfl|⟨hb,_⟩
    ·cases hye:rl (k y) (k b)with
     |true=>rfl
     |false=>exact absurd (rl_tri hye (by simpa using hlt)) hk
    ·exact h1 b hb
abbrev KL (l:List Mn):Prop:=l.Pairwise fun a b=>a.1.1≤b.1.1
theorem rl_le {a b:Rc}(h:rl a b=true):a.1≤b.1:=by
 unfold rl at h
 simp only[Bool.or_eq_true,Bool.and_eq_true,decide_eq_true_eq]at h
 omega
theorem KL.of {l:List Mn}(h:SK (fun m:Mn=>m.1) l):KL l:=h.imp fun h=>rl_le h
end Go.Opr
end
section
set_option linter.unusedVariables false
set_option linter.unusedSimpArgs false
namespace Go.Opr
open Go.Utf Go.Ent
abbrev Fn:=Int×Int×ByteArray
def rns (s:ByteArray):Int:=((cks s.data.toList).length:Int)
def dg:Nat→Nat→List UInt8
 |0,_=>[]
 |f+1,n=>if n / 10=0 then [UInt8.ofNat (48+n%10)]else dg f (n / 10)++[UInt8.ofNat (48+n%10)]
def dec (n:Int):ByteArray:=⟨(dg 20 n.toNat).toArray⟩
def vE:List En→Rc→Int
 | [],_=>0
 |e::l,r=>if kr e=r then num e else vE l r
def meas (f:Fn)(r:Rc):Int:=if f.1=41 then 1 else rns r.2
def tot (f:Fn)(v:Int)(g:List Mn):Int:=g.foldl (fun v m=>min (v+meas f m.1*m.2) 1099511627776) v
theorem vE_none {l:List En}{r:Rc}(h: ∀e,e∈l→kr e≠r):vE l r=0:=by
 induction l with
 |nil=>rfl
 |cons x l ih=>unfold vE;rw[if_neg (h x (List.mem_cons_self ..)),ih fun e he=>h e (List.mem_cons_of_mem _ he)]
theorem vE_mem: ∀{l:List En} {e:En},SK kr l→e∈l→vE l (kr e)=num e
 |x::l,e,h,he=>by
  obtain⟨h1,h2⟩:=List.pairwise_cons.1 h
  unfold vE
  rcases List.mem_cons.1 he with rfl|he
  ·rw[if_pos rfl]
  ·rw[if_neg (rl_ne (h1 e he)),vE_mem h2 he]
end Go.Opr
end
section
set_option maxRecDepth 20000
set_option linter.unusedVariables false
set_option linter.unusedSimpArgs false
namespace Go.Proofs.YtbljnlkhebiniaaGreatDoor
open Go.RowKit Go.Graph Go.Utf Go.Ent
abbrev rec (e:En):Int×ByteArray:=(e.2.1,e.2.2.1)
def entOk (n:Nd)(x:En):Bool:=
 if x.1≠n.1 then false else if n.2.1=11 then decide (x.2.2.1=ByteArray.mk #[])&&decide (0≤x.2.2.2)&&decide (x.2.2.2≤1099511627776)else if n.2.1=16 then decide (x.2.2.2=1)&&okT x.2.2.1 else false
def stF (n:Nd):Option En→List En→Bool
 |_,[]=>true
 |none,e::l=>entOk n e&&stF n (some e) l
 |some p,e::l=>entOk n e&&rl (rec p) (rec e)&&stF n (some e) l
def stP (n:Nd)(l:List En):Bool:=stF n none l
end Go.Proofs.YtbljnlkhebiniaaGreatDoor
end
section
set_option linter.unusedVariables false
set_option linter.unusedSimpArgs false
namespace Go.Opr
open Go.Utf Go.Ent
abbrev SM (l:List Mn):Prop:=SK (fun m:Mn=>m.1) l
end Go.Opr
end
section
set_option maxRecDepth 20000
set_option linter.unusedVariables false
set_option linter.unusedSimpArgs false
namespace Go.Proofs.YtbljnlkhebiniaaGreatDoor
open Go.RowKit Go.Graph Go.Utf Go.Ent Go.Opr
structure Bag (l:List Mn):Prop where
 txt: ∀m,m∈l→okT m.1.2=true
 one: ∀m,m∈l→1≤m.2
 top: ∀m,m∈l→m.2≤1048576
 srt:SM l
theorem Bag.sub {l m:List Mn}(h:Bag l)(hs:m.Sublist l):Bag m:=
 ⟨fun x hx=>h.txt x (hs.subset hx),fun x hx=>h.one x (hs.subset hx),fun x hx=>h.top x (hs.subset hx),h.srt.sublist hs⟩
theorem Bag.kl {l:List Mn}(h:Bag l):KL l:=KL.of h.srt
end Go.Proofs.YtbljnlkhebiniaaGreatDoor
end
section
set_option maxRecDepth 20000
set_option linter.unusedVariables false
set_option linter.unusedSimpArgs false
namespace Go.Proofs.YtbljnlkhebiniaaGreatDoor
open Go.RowKit Go.Graph Go.Utf Go.Ent Go.Opr
theorem runes_len (s:ByteArray)(hs:s.size≤1099511627776):F.fn_runes s=some ((cks s.data.toList).map (·.2))∧(((cks s.data.toList).map (·.2)).length:Int)=rns s:=⟨runes_F s hs,by rw[List.length_map];rfl⟩
end Go.Proofs.YtbljnlkhebiniaaGreatDoor
end
section
set_option maxRecDepth 20000
set_option linter.unusedVariables false
set_option linter.unusedSimpArgs false
namespace Go.A
end Go.A
namespace Go.Proofs.YtbljnlkhebiniaaGreatDoor
open Go.RowKit Go.Graph Go.Utf Go.Ent Go.Opr
theorem map_mem {m:List (Rc×Int)}(hn:(m.map Prod.fst).Nodup)(k:Rc)(x:Int):(k,x)∈m↔Z.mhas m k=true∧Z.mget (0:Int) m k=x:=by
 constructor
 ·intro h
  obtain⟨i,hi⟩:=List.getElem?_of_mem h
  obtain⟨h1,h2⟩:=Z.mget_get (z:=(0:Int)) hn hi
  exact⟨h2,h1⟩
 ·rintro⟨h1,rfl⟩
  exact Z.mget_mem h1
structure Rel (id:Int) (m:List (Rc×Int)) (st:List En):Prop where
 nd:(m.map Prod.fst).Nodup
 sk:SK kr st
 idn: ∀e,e∈st→e.1=id
 fwd: ∀e,e∈st→(kr e,num e)∈m
 back: ∀p,p∈m→((id,p.1.1,p.1.2,p.2):En)∈st
theorem Rel.nil (id:Int):Rel id [] []:=⟨by simp,List.Pairwise.nil,by simp,by simp,by simp⟩
theorem Rel.get {id:Int}{m:List (Rc×Int)}{st:List En}(h:Rel id m st)(r:Rc):Z.mget (0:Int) m r=vE st r:=by
 cases hh:Z.mhas m r with
 |true=>
  have h1:=h.back _ (Z.mget_mem (z:=(0:Int)) hh)
  have h2:=vE_mem h.sk h1
  exact h2.symm
 |false=>
  rw[Z.mget_none hh]
  refine(vE_none fun e he e2=>?_).symm
  have:=((map_mem h.nd _ _).1 (h.fwd e he)).1
  rw[e2,hh]at this;cases this
theorem Rel.ins {id:Int}{m:List (Rc×Int)}{st:List En}(h:Rel id m st)(r:Rc)(v:Int):Rel id (Z.mins m r v) (ins kr (id,r.1,r.2,v) st):=by
 have nd:=Z.mins_nodup h.nd r v
 refine⟨nd,ins_sk h.sk,fun e he=>?_,fun e he=>?_,fun p hp=>?_⟩
 ·rcases(ins_mem h.sk).1 he with rfl|⟨he,_⟩
  ·rfl
  ·exact h.idn e he
 ·rw[map_mem nd,Z.mhas_ins,Z.mget_ins]
  rcases(ins_mem h.sk).1 he with rfl|⟨he,hn⟩
  ·refine⟨?_,if_pos rfl⟩
   rw[decide_eq_true (rfl:kr (id,r.1,r.2,v)=r)];rfl
  ·obtain⟨h1,h2⟩:=(map_mem h.nd _ _).1 (h.fwd e he)
   rw[if_neg hn,h1];exact⟨Bool.or_true _,h2⟩
 ·obtain⟨k,x⟩:=p
  obtain⟨h1,h2⟩:=(map_mem nd k x).1 hp
  rw[Z.mhas_ins]at h1
  rw[Z.mget_ins]at h2
  refine(ins_mem h.sk).2 ?_
  by_cases hk:k=r
  ·subst hk
   rw[if_pos rfl]at h2
   subst h2
   exact .inl rfl
  ·rw[if_neg hk]at h2
   rw[decide_eq_false hk,Bool.false_or]at h1
   exact .inr ⟨h.back _ ((map_mem h.nd k x).2 ⟨h1,h2⟩),hk⟩
end Go.Proofs.YtbljnlkhebiniaaGreatDoor
end
section
set_option maxRecDepth 20000
set_option linter.unusedVariables false
set_option linter.unusedSimpArgs false
namespace Go.Proofs.YtbljnlkhebiniaaGreatDoor
open Go.RowKit Go.Graph Go.Utf Go.Ent Go.Opr
abbrev Tm:=Int×Int×Int×Int×Int×Int
def tcL (d:Int):Nat→List Int→Int
 |_,[]=>0
 |i,x::l=>if x<0∨1048576<x then 10 else if d≤(i:Int)∧x≠0 then 10 else tcL d (i+1) l
def tcP (t:Tm):Int:=if t.1<0∨1073741824<t.1∨t.2.1<0∨4<t.2.1 then 10 else tcL t.2.1 0 [t.2.2.1,t.2.2.2.1,t.2.2.2.2.1,t.2.2.2.2.2]
theorem tcheck_eq (t:Tm):F.tstamp_Check t=some (tcP t):=by
 rw[F.tstamp_Check]
 unfold tcP
 simp only[A.bo,decide_eq_true_eq,or_assoc]
 by_cases h:t.1<0∨1073741824<t.1∨t.2.1<0∨4<t.2.1
 ·rw[if_pos h,if_pos h]
 ·rw[if_neg h,if_neg h]
  obtain⟨L,hL⟩: ∃L,L=[t.2.2.1,t.2.2.2.1,t.2.2.2.2.1,t.2.2.2.2.2]:=⟨_,rfl⟩
  have h4:L.length=4:=by rw[hL];rfl
  rw[←hL]
  exact A.lp0 L (fun f y=>F.tstamp_Check_l1 t f y) (fun k r=>some (tcL t.2.1 k r))
   (fun f=>by rw[F.tstamp_Check_l1,if_neg (by omega)];rfl)
   (fun f k x hx hk ih=>by
    rw[F.tstamp_Check_l1,if_pos (by omega),←hL,A.ixn hx,Option.bind_some,tcL]
    simp only[A.bo,A.ba,decide_eq_true_eq]
    by_cases h1:x<0∨1048576<x
    ·rw[if_pos h1,if_pos h1]
    ·rw[if_neg h1,if_neg h1]
     by_cases h2:t.2.1≤(k:Int)∧x≠0
     ·rw[if_pos h2,if_pos h2]
     ·rw[if_neg h2,if_neg h2,A.gd1 ⟨by omega,by omega⟩,ih])
   (by have:=FU_big;omega)
def holdsP (k:Int):Bool:=decide (k=7∨k=8∨k=9∨k=10∨k=11∨k=16)
theorem Holds_eq (k:Int):F.oper_Holds k=some (holdsP k):=by
 unfold F.oper_Holds F.oper_Holds_j3 F.oper_Holds_j2 F.oper_Holds_j1 F.oper_Keeps holdsP
 by_cases h7:k=7
 ·simp[h7]
 by_cases h8:k=8
 ·simp[h8]
 by_cases h9:k=9
 ·simp[h9]
 by_cases h10:k=10
 ·simp[h10]
 by_cases h11:k=11
 ·simp[h11]
 by_cases h16:k=16
 ·simp[h16]
 ·simp[h7,h8,h9,h10,h11,h16]
structure Ok (n:Nd) (t:Tm) (a b:List Mn) (st:List En):Prop where
 holds:holdsP n.2.1=true
 fn:chk n.2.1 n.2.2.2.1=0
 tm:tcP t=0
 ba:Bag a
 bb:Bag b
 one:b=[]∨n.2.1=9
 st:stP n st=true
theorem Rel.len {id:Int}{m:List (Rc×Int)}{st:List En}(h:Rel id m st):m.length=st.length:=by
 have perm:(m.map fun p=>((id,p.1.1,p.1.2,p.2):En)).Perm st:=by
  refine(List.perm_ext_iff_of_nodup ?_ ?_).2 fun e=>?_
  ·have: ∀l:List (Rc×Int),(l.map Prod.fst).Nodup→(l.map fun p=>((id,p.1.1,p.1.2,p.2):En)).Nodup:=by
    intro l
    induction l with
    |nil=>intro _;simp
    |cons p l ih=>
     intro h
     rw[List.map_cons,List.nodup_cons]at h ⊢
     refine⟨fun hm=>h.1 ?_,ih h.2⟩
     obtain⟨q,hq,e⟩:=List.mem_map.1 hm
     obtain⟨_,e⟩:=Prod.mk.inj e
     obtain⟨e1,e⟩:=Prod.mk.inj e
     obtain⟨e2,_⟩:=Prod.mk.inj e
     exact List.mem_map.2 ⟨q,hq,Prod.ext e1 e2⟩
   exact this m h.nd
  ·exact h.sk.imp fun {a b} h (e:a=b)=>rl_ne h (by rw[e])
  ·constructor
   ·intro he
    obtain⟨p,hp,rfl⟩:=List.mem_map.1 he
    exact h.back p hp
   ·intro he
    refine List.mem_map.2 ⟨_,h.fwd e he,?_⟩
    rw[←h.idn e he]
 have:=perm.length_eq
 rwa[List.length_map]at this
end Go.Proofs.YtbljnlkhebiniaaGreatDoor
end
section
set_option maxRecDepth 20000
set_option linter.unusedVariables false
set_option linter.unusedSimpArgs false
namespace Go.Proofs.YtbljnlkhebiniaaGreatDoor
open Go.RowKit Go.Graph Go.Utf Go.Ent Go.Opr
theorem live_eq:F.L17_live=some true:=by kernel_rfl
def finT (g:ByteArray→Int){α:Type}(k:α→ByteArray):Int→List α→Int
 |y,[]=>y
 |y,x::r=>finT g k (y+g (k x)) r
theorem few_ok (l:List Rc)(hl:l.length≤maxLen): ∃b,F.L17_few l=some b∧(b=true→l.length≤100):=by
 have hl':l.length≤9223372036854775807:=by simpa[maxLen] using hl
 have hm:(min (l.length:Int) 100).toNat≤l.length:=by omega
 refine⟨bif decide ((l.length:Int)≤100)then decide (finT (fun s=>min (s.size:Int) 1000) (fun r:Rc=>r.2) 0 (List.take (min (l.length:Int) 100).toNat l)≤2000)else false,?_,fun h=>?_⟩
 ·have:=A.lp (List.take (min (l.length:Int) 100).toNat l) (fun f (y:Int) k=>F.L17_few_l1 l f y k) (fun _ r y=>some (bif decide ((l.length:Int)≤100)then decide (finT (fun s=>min (s.size:Int) 1000) (fun r:Rc=>r.2) y r≤2000)else false)) (fun k y=>0≤y∧y≤1000*k)
   (fun f y hp=>by
    show F.L17_few_l1 l (f+1) y _=_
    rw[F.L17_few_l1,if_neg (by omega)];rfl)
   (fun f y k x hx hk hp ih=>by
    show F.L17_few_l1 l (f+1) y _=_
    have h2:k<100:=by rw[List.length_take]at hk;omega
    have hn:(0:Int)≤(x.2.size:Int):=by omega
    rw[F.L17_few_l1,if_pos (by omega),A.ixn hx,Option.bind_some,A.gd1 ⟨by omega,by omega⟩,A.gd1 ⟨by omega,by omega⟩]
    exact ih _ ⟨by omega,by omega⟩)
   (by have:=FU_big;rw[List.length_take];omega) 0 ⟨by omega,by omega⟩
  rw[F.L17_few,A.gd1 ⟨by omega,hm⟩]
  exact this
 ·by_cases h2:(l.length:Int)≤100
  ·omega
  ·rw[decide_eq_false h2]at h;cases h
theorem EqRec_eq (a b:List Rc)(hl:a.length≤9223372036854775806):F.slices_Equal_api_Rec_api_Rec a b=some (decide (a=b)):=by
 rw[F.slices_Equal_api_Rec_api_Rec]
 by_cases h:a.length=b.length
 ·rw[if_neg (by omega)]
  have:=A.lp0 a (fun f y=>F.slices_Equal_api_Rec_api_Rec_l1 a b f y) (fun k r=>some (decide (r=b.drop k)))
   (fun f=>by
    rw[F.slices_Equal_api_Rec_api_Rec_l1,if_neg (by omega),h,List.drop_length];rfl)
   (fun f k x hx hk ih=>by
    obtain⟨y,hy⟩: ∃y,b[k]?=some y:=⟨_,List.getElem?_eq_getElem (by omega)⟩
    rw[F.slices_Equal_api_Rec_api_Rec_l1,if_pos (by omega),A.ixn hx,Option.bind_some,A.ixn hy,Option.bind_some,A.dropx hy]
    show(if x≠y then _ else _)=_
    by_cases e:x=y
    ·rw[if_neg (fun h=>h e),A.gd1 ⟨by omega,by omega⟩,ih]
     subst e;simp
    ·rw[if_pos e,decide_eq_false (fun h=>e (List.cons.inj h).1)])
   (by have:=FU_big;omega)
  rw[this];simp
 ·rw[if_pos (by omega),decide_eq_false (fun e=>h (by rw[e]))]
end Go.Proofs.YtbljnlkhebiniaaGreatDoor
end
section
set_option maxRecDepth 100000
set_option linter.unusedVariables false
set_option linter.unusedSimpArgs false
namespace Go.Utf
open Go.Lib
theorem contains_iff (s u:List UInt8):Lib.contains s u=true↔∃a b,s=a++u++b:=by
 unfold Lib.contains
 rw[decide_eq_true_eq]
 rcases index_spec s u with⟨h1,h2⟩|⟨i,h1,h2,h3,_⟩
 ·rw[h1]
  refine⟨fun h=>by omega,?_⟩
  rintro⟨a,b,rfl⟩
  have:=h2 a.length (by simp)
  unfold occAt at this
  rw[List.append_assoc,List.drop_left,Bool.eq_false_iff]at this
  exact absurd (List.isPrefixOf_iff_prefix.2 (List.prefix_append u b)) this
 ·rw[h1]
  refine⟨fun _=>?_,fun _=>by omega⟩
  unfold occAt at h3
  obtain⟨b,hb⟩:=List.isPrefixOf_iff_prefix.1 h3
  exact⟨s.take i,b,by rw[List.append_assoc,hb,List.take_append_drop]⟩
abbrev cont (b:UInt8):Prop:=b.toNat / 64=2
theorem Ck.shape {c:Rn}(h:Ck c): ∃b t,c.1=b::t∧¬cont b∧∀x,x∈t→cont x:=by
 have hd:=h.dec []
 rw[List.append_nil,decodeL_N]at hd
 have hok:=h.ok
 have hlen:=h.four
 obtain⟨b,t,hc⟩: ∃b t,c.1=b::t:=by
  cases hc:c.1 with
  |nil=>exact absurd hc h.ne
  |cons b t=>exact⟨b,t,rfl⟩
 have hb:=b.toNat_lt
 refine⟨b,t,hc,?_⟩
 rw[hc]at hd hok hlen
 simp only[List.getD,List.getElem?_cons_zero,List.getElem?_cons_succ,Option.getD_some,List.length_cons]at hd hlen hok
 rcases decodeN_shape (t.length+1) b.toNat (t[0]?.getD 0).toNat (t[1]?.getD 0).toNat (t[2]?.getD 0).toNat with⟨c1,e⟩|⟨c1,c2,c3,cv,e⟩|⟨c1,c2,c3,c4,cv,cs,e⟩|⟨c1,c2,c3,c4,c5,cv,cw,e⟩|e
 ·rw[e]at hd
  have hl:t.length=0:=by have:=congrArg Prod.snd hd;simp only at this;omega
  rw[List.eq_nil_of_length_eq_zero hl]
  exact⟨by show ¬b.toNat / 64=2;omega,by simp⟩
 ·rw[e]at hd
  have hl:t.length=1:=by have:=congrArg Prod.snd hd;simp only at this;omega
  match t,hl with
  | [x],_=>
   simp only[List.getElem?_cons_zero,Option.getD_some]at c3
   exact⟨by show ¬b.toNat / 64=2;omega,fun y hy=>by rw[List.mem_singleton.1 hy];exact c3⟩
 ·rw[e]at hd
  have hl:t.length=2:=by have:=congrArg Prod.snd hd;simp only at this;omega
  match t,hl with
  | [x,y],_=>
   simp only[List.getElem?_cons_zero,List.getElem?_cons_succ,Option.getD_some]at c3 c4
   refine⟨by show ¬b.toNat / 64=2;omega,fun z hz=>?_⟩
   rcases List.mem_cons.1 hz with rfl|hz
   ·exact c3
   ·rw[List.mem_singleton.1 hz];exact c4
 ·rw[e]at hd
  have hl:t.length=3:=by have:=congrArg Prod.snd hd;simp only at this;omega
  match t,hl with
  | [x,y,z],_=>
   simp only[List.getElem?_cons_zero,List.getElem?_cons_succ,Option.getD_some]at c3 c4 c5
   refine⟨by show ¬b.toNat / 64=2;omega,fun q hq=>?_⟩
   rcases List.mem_cons.1 hq with rfl|hq
   ·exact c3
   ·rcases List.mem_cons.1 hq with rfl|hq
    ·exact c4
    ·rw[List.mem_singleton.1 hq];exact c5
 ·rw[e]at hd
  obtain⟨h1,h2⟩:=Prod.mk.inj hd
  exact(hok ⟨h1.symm,h2.symm⟩).elim
theorem Ck.ext {c d:Rn}(hc:Ck c)(hd:Ck d)(h:c.2=d.2):c=d:=Prod.ext (by rw[←hc.enc,←hd.enc,h]) h
theorem rune_in: ∀{cs:List Rn} {c:Rn},(∀x,x∈cs→Ck x)→Ck c→∀{a b:List UInt8},flat cs=a++c.1++b→c∈cs
 | [],c,_,hc,a,b,h=>by
  have:=congrArg List.length h
  have h1:=hc.len
  simp at this
  omega
 |d::cs,c,h,hc,a,b,e=>by
  have hd:=h d (List.mem_cons_self ..)
  rw[flat_cons]at e
  obtain⟨x,t,hx,hx1,hx2⟩:=hc.shape
  obtain⟨y,u,hy,hy1,hy2⟩:=hd.shape
  by_cases ha:a=[]
  ·subst ha
   rw[List.nil_append]at e
   have h1:=hd.dec (flat cs)
   have h2:=hc.dec b
   rw[e,h2]at h1
   have h3:=congrArg Prod.fst h1
   simp only at h3
   have:c=d:=hc.ext hd (by have:=hc.nn;have:=hd.nn;omega)
   rw[this];exact List.mem_cons_self ..
  ·by_cases hl:d.1.length≤a.length
   ·have h1:a.take d.1.length=d.1:=by
     have:=congrArg (List.take d.1.length) e
     rw[List.take_left,List.append_assoc,List.take_append_of_le_length hl]at this
     exact this.symm
    have h2:a=d.1++a.drop d.1.length:=by conv=>lhs;rw[←List.take_append_drop d.1.length a,h1]
    rw[h2,List.append_assoc,List.append_assoc]at e
    have e:=List.append_cancel_left e
    rw[←List.append_assoc]at e
    exact List.mem_cons_of_mem _ (rune_in (fun x hx=>h x (List.mem_cons_of_mem _ hx)) hc e)
   ·exfalso
    have hal:1≤a.length:=by cases a with
     |nil=>exact absurd rfl ha
     |cons p q=>simp
    have g1:(d.1++flat cs)[a.length]?=some x:=by rw[e,hx];simp
    rw[List.getElem?_append_left (by omega),hy]at g1
    obtain⟨k,hk⟩: ∃k,a.length=k+1:=⟨a.length-1,by omega⟩
    rw[hk,List.getElem?_cons_succ]at g1
    exact hx1 (hy2 x (List.mem_of_getElem? g1))
theorem has_rune {cs:List Rn}{c:Rn}(h: ∀x,x∈cs→Ck x)(hc:Ck c):Lib.contains (flat cs) c.1=cs.any fun x=>decide (x.2=c.2):=by
 cases hb:(cs.any fun x=>decide (x.2=c.2))with
 |true=>
  obtain⟨x,hx,e⟩:=List.any_eq_true.1 hb
  have e:=(h x hx).ext hc (of_decide_eq_true e)
  subst e
  obtain⟨l,r,rfl⟩:=List.append_of_mem hx
  rw[contains_iff]
  exact⟨flat l,flat r,by simp[List.flatMap_append,List.flatMap_cons]⟩
 |false=>
  rw[Bool.eq_false_iff]
  intro hcn
  obtain⟨a,b,e⟩:=(contains_iff _ _).1 hcn
  have:=rune_in h hc e
  have h2:=List.any_eq_false.1 hb c this
  exact h2 (decide_eq_true rfl)
def wgo (c:Int):List Rn→List Rn→List (List Rn)
 |acc,[]=>[acc]
 |acc,x::xs=>if x.2=c then acc::wgo c [] xs else wgo c (acc++[x]) xs
theorem wgo_len (c:Int): ∀{xs acc:List Rn},(wgo c acc xs).length≤xs.length+1
 | [],acc=>Nat.le_refl _
 |y::xs,acc=>by
  unfold wgo
  split
  ·rw[List.length_cons,List.length_cons];have:=wgo_len c (xs:=xs) (acc:=[]);omega
  ·rw[List.length_cons];have:=wgo_len c (xs:=xs) (acc:=acc++[y]);omega
end Go.Utf
end
section
set_option maxRecDepth 20000
set_option linter.unusedVariables false
set_option linter.unusedSimpArgs false
namespace Go.Proofs.YtbljnlkhebiniaaGreatDoor
open Go.RowKit Go.Graph Go.Utf Go.Ent Go.Opr
def filtP (f:Fun)(r:Rc):Bool:=if f.1=11 then decide (Int.tmod r.1 f.2.1=0)else if f.1=12 then Lib.contains r.2.data.toList f.2.2.data.toList else decide (f.2.1≤rns r.2)
abbrev baL (l:List Rn):ByteArray:=⟨(flat l).toArray⟩
abbrev runeOf (s:ByteArray):Int:=(((cks s.data.toList).map (·.2))[0]?).getD 0
def piecesP (f:Fun)(r:Rc):List ByteArray:=if f.1=22 then(wgo (runeOf f.2.2) [] (cks r.2.data.toList)).map baL else(cks r.2.data.toList).map fun c=>baL [c]
def splitP (f:Fun)(r:Rc):List Rc:=(((piecesP f r).filter fun s=>decide (s≠ByteArray.mk #[])).take 4).map fun s=>(r.1,s)
def eachP (k:Int)(f:Fun)(r:Rc):List Rc:=if k=2 then [mapK f r]else if k=3 then(if filtP f r=true then [r]else [])else if k=4 then splitP f r else [r]
theorem chk_kind {k:Int}{f:Fun}(hne:kinds k≠[])(h:chk k f=0):f.1∈kinds k∧numberF f=true∧textP f=true:=by
 unfold chk at h
 rw[if_neg hne]at h
 unfold anyF at h
 split at h
 ·rename_i h1
  rw[List.any_eq_true]at h1
  obtain⟨y,hy,h2⟩:=h1
  simp only[Bool.and_eq_true,decide_eq_true_eq]at h2
  obtain⟨rfl,h3,h4⟩:=h2
  exact⟨hy,h3,h4⟩
 ·cases h
theorem cnt_cks {s:ByteArray}(hs:s.size≤5000)(hv:vld s s.size 0=true):(cks s.data.toList).length=cnt s s.size 0:=by
 obtain⟨l,h1,h2⟩:=Runes_eq s hs hv
 rw[Runes_ats s hs hv]at h1
 rw[←h2,←Option.some.inj h1,ats_len]
theorem one_rune {f:Fun}(h:textP f=true)(hk:f.1=12∨f.1=22)(hs:f.2.2.size≤5000): ∃c,Ck c∧cks f.2.2.data.toList=[c]∧f.2.2.data.toList=c.1∧runeOf f.2.2=c.2:=by
 unfold textP at h
 rw[if_neg (by omega),if_pos hk]at h
 simp only[Bool.and_eq_true,decide_eq_true_eq]at h
 have hv:=vld_cks h.2
 have hl:=cnt_cks hs h.2
 rw[h.1]at hl
 obtain⟨c,hc⟩: ∃c,cks f.2.2.data.toList=[c]:=by
  match hq:cks f.2.2.data.toList,hl with
  | [c],_=>exact⟨c,rfl⟩
 refine⟨c,hv.2 c (by rw[hc];exact List.mem_cons_self ..),hc,?_,?_⟩
 ·rw[←hv.1,hc];simp
 ·unfold runeOf;rw[hc];rfl
theorem num_div {f:Fun}(h:numberF f=true)(hk:f.1=11):f.2.1≠0:=by
 unfold numberF at h
 rw[if_neg (by omega),if_pos (.inr hk)]at h
 have:=of_decide_eq_true h
 omega
theorem both_ok {k:Int}{f:Fun}{r:Rc}(hs:f.2.2.size≤1000)(hf:chk k f=0)(ho:okT r.2=true):F.fn_both k f r=some 0:=by
 rw[F.fn_both]
 show(F.fn_Check k f).bind _=_
 rw[fn_Check_eq k f (by omega),Option.bind_some,hf,if_neg (by simp)]
 show(F.rec_Check r).bind _=_
 rw[rec_Check_eq,Option.bind_some,ho];rfl
theorem Filter_eq (f:Fun)(r:Rc)(hs:f.2.2.size≤1000)(hf:chk 3 f=0)(ho:okT r.2=true):F.fn_Filter f r=some (filtP f r,0):=by
 have h64:=(okT_iff.1 ho).1
 obtain⟨h1,h2,h3⟩:=chk_kind (k:=3) (by decide) hf
 rw[F.fn_Filter]
 show(F.fn_both 3 f r).bind _=_
 rw[both_ok hs hf ho,Option.bind_some,if_neg (by simp)]
 unfold filtP
 by_cases e1:f.1=11
 ·rw[if_pos e1,if_pos e1,A.gd1 (num_div h2 e1)]
 ·rw[if_neg e1,if_neg e1]
  by_cases e2:f.1=12
  ·rw[if_pos e2,if_pos e2,F.strings_Contains,A.gd1 (by omega),Option.bind_some]
  ·rw[if_neg e2,if_neg e2,(runes_len r.2 (by omega)).1,Option.bind_some,(runes_len r.2 (by omega)).2]
theorem baL_snoc (acc:List Rn)(hc: ∀c,c∈acc→Ck c):runesBytes (acc.map (·.2))=baL acc:=runes_mk hc
theorem words_eq (s:ByteArray)(c:Int)(ho:okT s=true):F.fn_words s c=some ((wgo c [] (cks s.data.toList)).map baL):=by
 obtain⟨h64,hv⟩:=okT_iff.1 ho
 obtain⟨hfl,hck⟩:=vld_cks hv
 have hFU:=FU_big
 have tot:(flat (cks s.data.toList)).length=s.size:=by rw[hfl,size_list]
 have loop: ∀(n p f:Nat) (xs:List ByteArray) (acc:List Rn),s.size-p≤n→n<f→(∀x,x∈acc→Ck x)→(∀x,x∈ckF n (s.data.toList.drop p)→Ck x)→xs.length+acc.length≤p→p≤s.size→(flat acc).length≤p→
   F.fn_words_l1 s c f p xs (acc.map (·.2))=some (xs++(wgo c acc (ckF n (s.data.toList.drop p))).map baL):=by
  intro n
  induction n with
  |zero=>
   intro p f xs acc hp hf ha hr hl hp64 hfa
   obtain⟨f,rfl⟩: ∃f',f=f'+1:=⟨f-1,by omega⟩
   have e:(baL acc).size=(flat acc).length:=mk_size _
   rw[F.fn_words_l1,if_neg (by omega),baL_snoc acc ha,A.gd1 (by omega),A.gd1 (by simp only[List.length_cons,List.length_nil];omega),ck_end (by omega)]
   simp[wgo]
  |succ n ih=>
   intro p f xs acc hp hf ha hr hl hp64 hfa
   obtain⟨f,rfl⟩: ∃f',f=f'+1:=⟨f-1,by omega⟩
   have e:(baL acc).size=(flat acc).length:=mk_size _
   rw[F.fn_words_l1]
   by_cases h:p<s.size
   ·have hd:=dec_fits h
    rw[if_pos h,ck_step h]
    rw[ck_step h]at hr
    have hr2:=fun x hx=>hr x (List.mem_cons_of_mem _ hx)
    have hr1:=hr _ (List.mem_cons_self ..)
    obtain⟨k,hk⟩: ∃k,k=(((s.data.toList.drop p).take (Utf8.decode s p).2,((Utf8.decode s p).1:Int)):Rn):=⟨_,rfl⟩
    have hk2:((Utf8.decode s p).1:Int)=k.2:=by rw[hk]
    rw[←hk]at hr1
    rw[←hk,wgo]
    by_cases hc:k.2=c
    ·rw[if_neg (by rw[hk2];exact fun h=>h hc),if_pos hc,baL_snoc acc ha,A.gd1 (by omega),A.gd1 (by simp only[List.length_cons,List.length_nil];omega)]
     have:=ih (p+(Utf8.decode s p).2) f (xs++[baL acc]) [] (by omega) (by omega) (by simp) hr2 (by simp only[List.length_append,List.length_cons,List.length_nil];omega) (by omega) (by simp)
     refine(show F.fn_words_l1 s c f (p+(Utf8.decode s p).2) (xs++[baL acc]) []=_ from this).trans ?_
     simp
    ·rw[if_pos (by rw[hk2];exact hc),if_neg hc,hk2,A.gd1 (by simp only[List.length_cons,List.length_nil,List.length_map];omega)]
     have e2:acc.map (·.2)++[k.2]=(acc++[k]).map (·.2):=by simp
     rw[e2]
     have hkl:k.1.length≤(Utf8.decode s p).2:=by rw[hk];simp only[List.length_take];omega
     have e3:flat (acc++[k])=flat acc++k.1:=by simp[List.flatMap_append]
     refine(ih (p+(Utf8.decode s p).2) f xs (acc++[k]) (by omega) (by omega) (fun x hx=>(List.mem_append.1 hx).elim (ha x) fun h=>by rw[List.mem_singleton.1 h];exact hr1) hr2 (by simp only[List.length_append,List.length_cons,List.length_nil];omega) (by omega) (by rw[e3,List.length_append];omega)).trans rfl
   ·rw[if_neg h,baL_snoc acc ha,A.gd1 (by omega),A.gd1 (by simp only[List.length_cons,List.length_nil];omega),ck_end h]
    simp[wgo]
 have:=loop s.size 0 A.FU [] [] (by omega) (by omega) (by simp) (fun x hx=>hck x hx) (by simp) (by omega) (by simp)
 rw[F.fn_words]
 exact this
theorem Split_eq (f:Fun)(r:Rc)(hs:f.2.2.size≤1000)(hf:chk 4 f=0)(ho:okT r.2=true):F.fn_Split f r=some (splitP f r,0):=by
 obtain⟨h64,hv⟩:=okT_iff.1 ho
 obtain⟨hfl,hck⟩:=vld_cks hv
 have hFU:=FU_big
 have tot:(flat (cks r.2.data.toList)).length=r.2.size:=by rw[hfl,size_list]
 have hlen:=cks_len r.2
 obtain⟨h1,h2,h3⟩:=chk_kind (k:=4) (by decide) hf
 have j3: ∀l:List ByteArray,l.length≤100→F.fn_Split_j3 r l=some (((l.filter fun s=>decide (s≠ByteArray.mk #[])).take 4).map (fun s=>(r.1,s)),0):=fun l hl=>by
  rw[F.fn_Split_j3]
  refine(A.lp l (fun n (s:List Rc) y=>F.fn_Split_l2 r l n s y) (fun _ t s=>some (s++((t.filter fun s=>decide (s≠ByteArray.mk #[])).take (4-s.length)).map (fun s=>(r.1,s)),0)) (fun k s=>s.length≤k)
   (fun n s hp=>by
    show F.fn_Split_l2 r l (n+1) s _=_
    rw[F.fn_Split_l2,if_neg (by omega)];simp)
   (fun n s k x hx hk hp ih=>by
    show F.fn_Split_l2 r l (n+1) s _=_
    rw[F.fn_Split_l2,if_pos (by omega),A.ixn hx,Option.bind_some,A.ba,List.filter_cons]
    by_cases hn:x=ByteArray.mk #[]
    ·rw[if_neg (by simp[hn]),if_neg (by simp[hn]),F.fn_Split_j1,A.gd1 ⟨by omega,by omega⟩]
     exact ih s (by omega)
    ·rw[if_pos (c:=decide (x≠ByteArray.mk #[])=true) (decide_eq_true hn)]
     by_cases h4:s.length<4
     ·rw[if_pos (decide_eq_true ⟨hn,by omega⟩),A.gd1 (by simp only[List.length_cons,List.length_nil];omega),F.fn_Split_j1,A.gd1 ⟨by omega,by omega⟩]
      refine(ih (s++[(r.1,x)]) (by simp only[List.length_append,List.length_cons,List.length_nil];omega)).trans ?_
      obtain⟨q,hq⟩: ∃q,4-s.length=q+1:=⟨3-s.length,by omega⟩
      have hq2:4-(s++[(r.1,x)]).length=q:=by simp only[List.length_append,List.length_cons,List.length_nil];omega
      rw[hq2,hq,List.take_succ_cons]
      simp
     ·rw[if_neg (by intro h;have:=(of_decide_eq_true h).2;omega),F.fn_Split_j1,A.gd1 ⟨by omega,by omega⟩]
      refine(ih s (by omega)).trans ?_
      rw[show 4-s.length=0 by omega];simp)
   (by omega) [] (Nat.le_refl _)).trans ?_
  simp
 rw[F.fn_Split]
 show(F.fn_both 4 f r).bind _=_
 rw[both_ok hs hf ho,Option.bind_some,if_neg (by simp)]
 unfold splitP piecesP
 by_cases e1:f.1=22
 ·rw[if_pos e1,if_pos e1,runes_F f.2.2 (by omega),Option.bind_some]
  obtain⟨c,c1,c2,c3,c4⟩:=one_rune h3 (.inr e1) (by omega)
  have e0:A.ix ((cks f.2.2.data.toList).map (·.2)) 0=some c.2:=by rw[c2];rfl
  rw[e0,Option.bind_some,words_eq r.2 c.2 ho,Option.bind_some,c4]
  exact j3 _ (by rw[List.length_map];have:=wgo_len c.2 (xs:=cks r.2.data.toList) (acc:=[]);omega)
 ·rw[if_neg e1,if_neg e1]
  have loop: ∀(n p f:Nat) (xs:List ByteArray),r.2.size-p≤n→n<f→(∀x,x∈ckF n (r.2.data.toList.drop p)→Ck x)→xs.length≤p→p≤r.2.size→
    F.fn_Split_l4 r f xs p=F.fn_Split_j3 r (xs++(ckF n (r.2.data.toList.drop p)).map fun c=>baL [c]):=by
   intro n
   induction n with
   |zero=>
    intro p f xs hp hf hr hl hps
    obtain⟨f,rfl⟩: ∃f',f=f'+1:=⟨f-1,by omega⟩
    rw[F.fn_Split_l4,if_neg (by omega),ck_end (by omega)];simp
   |succ n ih=>
    intro p f xs hp hf hr hl hps
    obtain⟨f,rfl⟩: ∃f',f=f'+1:=⟨f-1,by omega⟩
    rw[F.fn_Split_l4]
    by_cases h:p<r.2.size
    ·have hd:=dec_fits h
     rw[if_pos h,ck_step h]
     rw[ck_step h]at hr
     have hr2:=fun x hx=>hr x (List.mem_cons_of_mem _ hx)
     have hr1:=hr _ (List.mem_cons_self ..)
     obtain⟨k,hk⟩: ∃k,k=(((r.2.data.toList.drop p).take (Utf8.decode r.2 p).2,((Utf8.decode r.2 p).1:Int)):Rn):=⟨_,rfl⟩
     have hk2:((Utf8.decode r.2 p).1:Int)=k.2:=by rw[hk]
     rw[←hk]at hr1
     have e:runesBytes [k.2]=baL [k]:=runes_mk (cs:=[k]) fun x hx=>by rw[List.mem_singleton.1 hx];exact hr1
     have e5:(baL [k]).size=k.1.length:=by show(ByteArray.mk _).size=_;rw[mk_size];simp
     have h4:=hr1.four
     rw[←hk,hk2,e,A.gd1 (by omega),A.gd1 (by simp only[List.length_cons,List.length_nil];omega),ih _ _ _ (by omega) (by omega) hr2 (by simp only[List.length_append,List.length_cons,List.length_nil];omega) (by omega)]
     simp
    ·rw[if_neg h,ck_end h];simp
  have:=loop r.2.size 0 A.FU [] (by omega) (by omega) (fun x hx=>hck x hx) (by simp) (by omega)
  refine(show F.fn_Split_l4 r A.FU [] 0=_ from this).trans ?_
  rw[List.nil_append,←cks_0]
  exact j3 _ (by rw[List.length_map];omega)
theorem each_eq (n:Nd)(r:Rc)(hs:n.2.2.2.1.2.2.size≤1000)(hf:chk n.2.1 n.2.2.2.1=0)(ho:okT r.2=true):F.oper_each n r=some (eachP n.2.1 n.2.2.2.1 r):=by
 rw[F.oper_each]
 unfold eachP
 by_cases h2:n.2.1=2
 ·rw[if_pos h2,if_pos h2]
  rw[h2]at hf
  show(F.fn_Map n.2.2.2.1 r).bind _=_
  have hm:mapP n.2.2.2.1 r=(mapK n.2.2.2.1 r,0):=by unfold mapP;rw[if_neg (by rw[hf];simp),if_pos ho]
  rw[fn_Map_eq _ _ (by omega),Option.bind_some,hm,if_pos rfl]
 rw[if_neg h2,if_neg h2]
 by_cases h3:n.2.1=3
 ·rw[if_pos h3,if_pos h3]
  rw[h3]at hf
  show(F.fn_Filter n.2.2.2.1 r).bind _=_
  rw[Filter_eq _ _ hs hf ho,Option.bind_some]
  cases filtP n.2.2.2.1 r<;>rfl
 rw[if_neg h3,if_neg h3]
 by_cases h4:n.2.1=4
 ·rw[if_pos h4,if_pos h4]
  rw[h4]at hf
  show(F.fn_Split n.2.2.2.1 r).bind _=_
  rw[Split_eq _ _ hs hf ho,Option.bind_some,if_pos rfl]
 ·rw[if_neg h4,if_neg h4]
def insP8 (k:Int):Int:=if k<1∨16<k then-1 else if k=1 then 0 else if k=5∨k=9 then 2 else 1
theorem Ins_eq (k:Int):F.graph_Ins k=some (insP8 k):=by
 rw[F.graph_Ins]
 unfold insP8
 simp only[A.bo,decide_eq_true_eq]
 split
 ·rfl
 ·(split)
  ·rfl
  ·split<;>rfl
def chkR (l:List Rc):Int:=if(l.any fun r=> !okT r.2)=true then 50 else 0
def checkP (n:Nd)(port:Int)(t:Tm)(l:List Rc):Int:=if insP8 n.2.1<1∨holdsP n.2.1=true then 170 else if port<0∨insP8 n.2.1≤port then 1 else if chk n.2.1 n.2.2.2.1≠0 then chk n.2.1 n.2.2.2.1 else if tcP t≠0 then tcP t else chkR l
theorem check_eq (n:Nd)(port:Int)(t:Tm)(l:List Rc)(hs:n.2.2.2.1.2.2.size≤1000)(hl:l.length≤1000):F.oper_check n port t l=some (checkP n port t l):=by
 have hFU:=FU_big
 have recs:F.oper_check_l1 l A.FU 0=some (chkR l):=
  A.lp0 l (fun f y=>F.oper_check_l1 l f y) (fun _ r=>some (chkR r))
   (fun f=>by rw[F.oper_check_l1,if_neg (by omega)];rfl)
   (fun f k x hx hk ih=>by
    rw[F.oper_check_l1,if_pos (by omega),A.ixn hx,Option.bind_some]
    show(F.rec_Check x).bind _=_
    rw[rec_Check_eq,Option.bind_some]
    unfold chkR at ih ⊢
    rw[List.any_cons]
    cases ho:okT x.2 with
    |true=>rw[if_pos rfl,if_neg (by simp),A.gd1 ⟨by omega,by omega⟩,ih];rfl
    |false=>rfl)
   (by omega)
 have j2: ∀b,F.oper_check_j2 n port t l (insP8 n.2.1) b=some (if b=true then 170 else if port<0∨insP8 n.2.1≤port then 1 else if chk n.2.1 n.2.2.2.1≠0 then chk n.2.1 n.2.2.2.1 else if tcP t≠0 then tcP t else chkR l):=fun b=>by
  rw[F.oper_check_j2]
  cases b with
  |true=>rw[if_pos rfl,if_pos rfl]
  |false=>
   rw[if_neg (show ¬(false=true) by simp),if_neg (show ¬(false=true) by simp),A.bo]
   by_cases hp:port<0∨insP8 n.2.1≤port
   ·rw[if_pos (decide_eq_true hp),if_pos hp]
   ·rw[if_neg (by simpa using hp),if_neg hp]
    show(F.fn_Check n.2.1 n.2.2.2.1).bind _=_
    rw[fn_Check_eq _ _ (by omega),Option.bind_some]
    by_cases h1:chk n.2.1 n.2.2.2.1=0
    ·rw[if_neg (fun h=>h h1),if_neg (fun h=>h h1)]
     show(F.tstamp_Check t).bind _=_
     rw[tcheck_eq,Option.bind_some]
     by_cases h2:tcP t=0
     ·rw[if_neg (fun h=>h h2),if_neg (fun h=>h h2),recs]
     ·rw[if_pos h2,if_pos h2]
    ·rw[if_pos h1,if_pos h1]
 rw[F.oper_check,Ins_eq,Option.bind_some]
 unfold checkP
 by_cases h1:insP8 n.2.1<1
 ·rw[if_pos h1,j2,if_pos rfl,if_pos (.inl h1)]
 ·rw[if_neg h1,Holds_eq,Option.bind_some,j2]
  cases hh:holdsP n.2.1 with
  |true=>rw[if_pos rfl,if_pos (.inr rfl)]
  |false=>rw[if_neg (show ¬(false=true) by simp),if_neg (show ¬(insP8 n.2.1<1∨false=true)from fun h=>h.elim h1 (by simp))]
abbrev t0:Tm:=(0,0,0,0,0,0)
def goesP (n:Nd)(t:Tm):Tm×Bool×Int:=(F.oper_goes n t).getD (t0,false,0)
theorem tcP_d {t:Tm}(h:tcP t=0):0≤t.1∧t.1≤1073741824∧0≤t.2.1∧t.2.1≤4∧∀x,x∈[t.2.2.1,t.2.2.2.1,t.2.2.2.2.1,t.2.2.2.2.2]→0≤x∧x≤1048576:=by
 unfold tcP at h
 split at h
 ·cases h
 ·rename_i h1
  have: ∀d i l,tcL d i l=0→∀x,x∈l→0≤x∧x≤1048576:=by
   intro d i l
   induction l generalizing i with
   |nil=>intro _ x hx;cases hx
   |cons y l ih=>
    intro h x hx
    unfold tcL at h
    split at h
    ·cases h
    ·rename_i h2
     split at h
     ·cases h
     ·rcases List.mem_cons.1 hx with rfl|hx
      ·omega
      ·exact ih _ h x hx
  exact⟨by omega,by omega,by omega,by omega,this _ _ _ h⟩
theorem ix4 {t:Tm}(h:tcP t=0)(h1:t.2.1≠0): ∃x,A.ix [t.2.2.1,t.2.2.2.1,t.2.2.2.2.1,t.2.2.2.2.2] (t.2.1-1)=some x∧0≤x∧x≤1048576:=by
 obtain⟨_,_,h2,h3,h4⟩:=tcP_d h
 obtain⟨k,hk⟩: ∃k:Nat,t.2.1-1=(k:Int):=⟨(t.2.1-1).toNat,by omega⟩
 have hk4:k<4:=by omega
 obtain⟨L,hL⟩: ∃L,L=[t.2.2.1,t.2.2.2.1,t.2.2.2.2.1,t.2.2.2.2.2]:=⟨_,rfl⟩
 have hLl:L.length=4:=by rw[hL];rfl
 rw[←hL]at h4 ⊢
 exact⟨L[k],by rw[hk];exact A.ixn (List.getElem?_eq_getElem (by omega)),h4 _ (List.getElem_mem _)⟩
theorem Enter_some {t:Tm}(h:tcP t=0): ∃v,F.tstamp_Enter t=some v:=by
 obtain⟨_,_,h2,h3,_⟩:=tcP_d h
 rw[F.tstamp_Enter]
 show ∃v,(F.tstamp_Check t).bind _=some v
 rw[tcheck_eq,h,Option.bind_some,if_neg (by simp)]
 split
 ·exact⟨_,rfl⟩
 ·rw[A.gd1 ⟨by omega,by omega⟩];exact⟨_,rfl⟩
theorem Leave_some {t:Tm}(h:tcP t=0): ∃v,F.tstamp_Leave t=some v:=by
 obtain⟨_,_,h2,h3,_⟩:=tcP_d h
 rw[F.tstamp_Leave]
 show ∃v,(F.tstamp_Check t).bind _=some v
 rw[tcheck_eq,h,Option.bind_some,if_neg (by simp)]
 split
 ·exact⟨_,rfl⟩
 ·rename_i h4
  obtain⟨x,hx,_⟩:=ix4 h h4
  rw[A.gd1 ⟨by omega,by omega⟩,hx];exact⟨_,rfl⟩
theorem Next_some {t:Tm}(h:tcP t=0): ∃v,F.tstamp_Next t=some v:=by
 obtain⟨h0,h1,h2,h3,_⟩:=tcP_d h
 rw[F.tstamp_Next]
 show ∃v,(F.tstamp_Check t).bind _=some v
 rw[tcheck_eq,h,Option.bind_some,if_neg (by simp)]
 split
 ·rename_i h4
  obtain⟨x,hx,hx1,hx2⟩:=ix4 h (by omega)
  rw[A.gd1 ⟨by omega,by omega⟩,hx,Option.bind_some]
  split
  ·exact⟨_,rfl⟩
  ·rw[A.gd1 ⟨by omega,by omega⟩];exact⟨_,rfl⟩
 ·(split)
  ·exact⟨_,rfl⟩
  ·rw[A.gd1 ⟨by omega,by omega⟩];exact⟨_,rfl⟩
theorem goes_eq (n:Nd){t:Tm}(h:tcP t=0):F.oper_goes n t=some (goesP n t):=by
 have: ∃v,F.oper_goes n t=some v:=by
  obtain⟨h0,h1,h2,h3,_⟩:=tcP_d h
  rw[F.oper_goes]
  split
  ·obtain⟨v,hv⟩:=Enter_some h
   show ∃v,(F.tstamp_Enter t).bind _=some v
   rw[hv];exact⟨_,rfl⟩
  ·(split)
   ·obtain⟨v,hv⟩:=Leave_some h
    show ∃v,(F.tstamp_Leave t).bind _=some v
    rw[hv];exact⟨_,rfl⟩
   ·(split)
    ·(split)
     ·exact⟨_,rfl⟩
     ·rename_i h4
      obtain⟨x,hx,_⟩:=ix4 h h4
      rw[A.gd1 ⟨by omega,by omega⟩,hx,Option.bind_some]
      split
      ·exact⟨_,rfl⟩
      ·obtain⟨v,hv⟩:=Next_some h
       show ∃v,(F.tstamp_Next t).bind _=some v
       rw[hv];exact⟨_,rfl⟩
    ·exact⟨_,rfl⟩
 obtain⟨v,hv⟩:=this
 unfold goesP
 rw[hv];rfl
def batchP (n:Nd)(port:Int)(t:Tm)(l:List Rc):List Rc×Tm×Int:=
 if checkP n port t l≠0 then([],t0,checkP n port t l)else if(goesP n t).2.2≠0 then([],t0,(goesP n t).2.2)else if(goesP n t).2.1=false then([],(goesP n t).1,0)else(l.flatMap (eachP n.2.1 n.2.2.2.1),(goesP n t).1,0)
structure OkB (n:Nd) (port:Int) (t:Tm) (l:List Rc):Prop where
 ins: ¬insP8 n.2.1<1
 holds:holdsP n.2.1=false
 port:0≤port∧port<insP8 n.2.1
 fn:chk n.2.1 n.2.2.2.1=0
 tm:tcP t=0
 txt: ∀r,r∈l→okT r.2=true
theorem chkR_iff {l:List Rc}:chkR l=0↔∀r,r∈l→okT r.2=true:=by
 unfold chkR
 by_cases h:(l.any fun r=> !okT r.2)=true
 ·rw[if_pos h]
  refine⟨fun h=>(by cases h),fun hb=>?_⟩
  obtain⟨m,hm,h2⟩:=List.any_eq_true.1 h
  rw[hb m hm]at h2;cases h2
 ·rw[if_neg h]
  refine⟨fun _ r hr=>?_,fun _=>rfl⟩
  cases ho:okT r.2 with
  |true=>rfl
  |false=>exact absurd (List.any_eq_true.2 ⟨r,hr,by rw[ho];rfl⟩) h
theorem checkP_iff {n:Nd}{port:Int}{t:Tm}{l:List Rc}:checkP n port t l=0↔OkB n port t l:=by
 unfold checkP
 constructor
 ·intro h
  split at h
  ·cases h
  rename_i h1
  split at h
  ·cases h
  rename_i h2
  split at h
  ·rename_i h3;exact absurd h h3
  rename_i h3
  split at h
  ·rename_i h4;exact absurd h h4
  rename_i h4
  exact⟨fun h=>h1 (.inl h),by cases hh:holdsP n.2.1 with|false=>rfl|true=>exact absurd (.inr hh) h1,by omega,Classical.byContradiction h3,Classical.byContradiction h4,chkR_iff.1 h⟩
 ·intro h
  rw[if_neg (fun h2=>h2.elim h.ins fun e=>by rw[h.holds]at e;cases e),if_neg (by have:=h.port;omega),if_neg (by rw[h.fn];simp),if_neg (by rw[h.tm];simp)]
  exact chkR_iff.2 h.txt
theorem each_len (k:Int)(f:Fun)(r:Rc):(eachP k f r).length≤4:=by
 unfold eachP
 split
 ·simp
 ·(split)
  ·split<;>simp
  ·(split)
   ·unfold splitP;rw[List.length_map,List.length_take];omega
   ·simp
theorem Batch_eq (n:Nd)(port:Int)(t:Tm)(l:List Rc)(hs:n.2.2.2.1.2.2.size≤1000)(hl:l.length≤1000):F.oper_Batch n port t l=some (batchP n port t l):=by
 have hFU:=FU_big
 rw[F.oper_Batch]
 show(F.oper_check n port t l).bind _=_
 rw[check_eq n port t l hs hl,Option.bind_some]
 unfold batchP
 by_cases hc:checkP n port t l=0
 ·rw[if_neg (fun h=>h hc),if_neg (fun h=>h hc)]
  have ok:=checkP_iff.1 hc
  show(F.oper_goes n t).bind _=_
  rw[goes_eq n ok.tm,Option.bind_some]
  by_cases hg:(goesP n t).2.2=0
  ·have hg2: ¬((goesP n t).2.2≠0):=fun h=>h hg
   rw[if_neg hg2,if_neg hg2]
   cases hb:(goesP n t).2.1 with
   |false=>rfl
   |true=>
    rw[if_neg (show ¬((!true)=true) by simp),if_neg (show ¬(true=false) by simp)]
    exact A.lp l (fun f (s:List Rc) y=>F.oper_Batch_l1 n l (goesP n t) f s y) (fun _ r s=>some (s++r.flatMap (eachP n.2.1 n.2.2.2.1),(goesP n t).1,0)) (fun k s=>s.length≤4*k)
     (fun f s hp=>by
      show F.oper_Batch_l1 n l _ (f+1) s _=_
      rw[F.oper_Batch_l1,if_neg (by omega)];simp)
     (fun f s k x hx hk hp ih=>by
      have hel:=each_len n.2.1 n.2.2.2.1 x
      show F.oper_Batch_l1 n l _ (f+1) s _=_
      rw[F.oper_Batch_l1,if_pos (by omega),A.ixn hx,Option.bind_some]
      show(F.oper_each n x).bind _=_
      rw[each_eq n x hs ok.fn (ok.txt x (List.mem_of_getElem? hx)),Option.bind_some,A.gd1 (by show(s.length+(eachP n.2.1 n.2.2.2.1 x).length)*24≤_;omega),A.gd1 ⟨by omega,by omega⟩]
      refine(ih (s++eachP n.2.1 n.2.2.2.1 x) (by rw[List.length_append];omega)).trans ?_
      rw[List.flatMap_cons,List.append_assoc])
     (by omega) [] (by simp)
  ·rw[if_pos hg,if_pos hg]
 ·rw[if_pos hc,if_pos hc]
end Go.Proofs.YtbljnlkhebiniaaGreatDoor
end
section
set_option maxRecDepth 20000
set_option linter.unusedVariables false
set_option linter.unusedSimpArgs false
namespace Go.Proofs.YtbljnlkhebiniaaGreatDoor
open Go.RowKit Go.Graph Go.Utf Go.Ent Go.Opr
theorem R01_Check_eq (t:Tm):F.R01_Check t=some (tcP t):=by
 rw[F.R01_Check]
 unfold tcP
 simp only[A.bo,decide_eq_true_eq,or_assoc]
 by_cases h:t.1<0∨1073741824<t.1∨t.2.1<0∨4<t.2.1
 ·rw[if_pos h,if_pos h]
 ·rw[if_neg h,if_neg h]
  obtain⟨L,hL⟩: ∃L,L=[t.2.2.1,t.2.2.2.1,t.2.2.2.2.1,t.2.2.2.2.2]:=⟨_,rfl⟩
  have h4:L.length=4:=by rw[hL];rfl
  rw[←hL]
  exact A.lp0 L (fun f y=>F.R01_Check_l2 t f y) (fun k r=>some (tcL t.2.1 k r))
   (fun f=>by rw[F.R01_Check_l2,if_neg (by omega)];rfl)
   (fun f k x hx hk ih=>by
    have nx: ∀b:Bool,F.R01_Check_j1 (F.R01_Check_l2 t f) (k:Int) b=if b=true then some 10 else some (tcL t.2.1 (k+1) (L.drop (k+1))):=fun b=>by
     rw[F.R01_Check_j1]
     cases b with
     |true=>rw[if_pos rfl,if_pos rfl]
     |false=>rw[if_neg (show ¬(false=true) by simp),if_neg (show ¬(false=true) by simp),A.gd1 ⟨by omega,by omega⟩,ih]
    rw[F.R01_Check_l2,if_pos (by omega),←hL,A.ixn hx,Option.bind_some,Option.bind_some,Option.bind_some,tcL]
    by_cases h1:x<0
    ·rw[if_pos h1,nx,if_pos rfl,if_pos (.inl h1)]
    ·rw[if_neg h1]
     by_cases h2:1048576<x
     ·rw[if_pos h2,nx,if_pos rfl,if_pos (.inr h2)]
     ·rw[if_neg h2,if_neg (show ¬(x<0∨1048576<x)from fun h=>h.elim h1 h2)]
      by_cases h3:t.2.1≤(k:Int)
      ·rw[if_pos h3,nx]
       by_cases h5:x=0
       ·rw[decide_eq_false (show ¬(x≠0)from fun h=>h h5),if_neg (show ¬(false=true) by simp),if_neg (show ¬(t.2.1≤(k:Int)∧x≠0)from fun h=>h.2 h5)]
       ·rw[if_pos (decide_eq_true h5),if_pos ⟨h3,h5⟩]
      ·rw[if_neg h3,nx,if_neg (show ¬(false=true) by simp),if_neg (show ¬(t.2.1≤(k:Int)∧x≠0)from fun h=>h3 h.1)])
   (by have:=FU_big;omega)
theorem R01_Enter_eq (t:Tm):F.R01_Enter t=F.tstamp_Enter t:=by
 have e:F.R01_Check t=F.tstamp_Check t:=by rw[R01_Check_eq,tcheck_eq]
 rw[F.R01_Enter,F.tstamp_Enter]
 show(F.R01_Check t).bind _=(F.tstamp_Check t).bind _
 rw[e]
theorem R01_Leave_eq (t:Tm):F.R01_Leave t=F.tstamp_Leave t:=by
 have e:F.R01_Check t=F.tstamp_Check t:=by rw[R01_Check_eq,tcheck_eq]
 rw[F.R01_Leave,F.tstamp_Leave]
 show(F.R01_Check t).bind _=(F.tstamp_Check t).bind _
 rw[e]
theorem R01_Next_eq (t:Tm)(h:tcP t=0):F.R01_Next t=F.tstamp_Next t:=by
 obtain⟨h0,h1,h2,h3,_⟩:=tcP_d h
 rw[F.R01_Next,F.tstamp_Next]
 show(F.R01_Check t).bind _=(F.tstamp_Check t).bind _
 rw[R01_Check_eq,tcheck_eq,h,Option.bind_some,Option.bind_some]
 have z: ¬((0:Int)≠0):=fun h=>h rfl
 rw[if_neg z,if_neg z]
 by_cases hd:t.2.1=0
 ·rw[if_pos hd,if_neg (show ¬(0:Int)<t.2.1 by omega)]
 ·rw[if_neg hd,if_pos (show(0:Int)<t.2.1 by omega)]
  obtain⟨x,hx,hx1,hx2⟩:=ix4 h hd
  have g:Z.R64 (t.2.1-1):=⟨by omega,by omega⟩
  have g2:Z.R64 (x+1):=⟨by omega,by omega⟩
  simp only[A.gd1 g,hx,Option.bind_some,A.gd1 g2]
theorem R17_Holds_eq (k:Int):F.R17_Holds k=some (holdsP k):=by
 rw[F.R17_Holds]
 simp only[A.ba,A.bo]
 unfold holdsP
 congr 2
 exact propext ⟨fun h=>by omega,fun h=>by omega⟩
theorem R08_Ins_eq (k:Int):F.R08_Ins k=some (insP8 k):=Ins_eq k
theorem may_ok {k:Int}{f:Fun}{r:Rc}(hs:f.2.2.size≤1000)(hf:chk k f=0)(ho:okT r.2=true):F.R06_may k f r=some 0:=by
 rw[F.R06_may]
 show(F.R06_Check k f).bind _=_
 rw[R06_Check_eq k f (by omega),Option.bind_some,hf,if_neg (by simp)]
 show(F.R05_Check r).bind _=_
 rw[R05_Check_eq,Option.bind_some,ho];rfl
theorem Runes_ok {s:ByteArray}(ho:okT s=true):F.R05_Runes s=some (ats 0 (cks s.data.toList)):=Runes_ats s (by have:=(okT_iff.1 ho).1;omega) (okT_iff.1 ho).2
theorem ats_any (c:Int): ∀(cs:List Rn) (p:Int),(ats p cs).any (fun x=>decide (x.2=c))=cs.any fun x=>decide (x.2=c)
 | [],_=>rfl
 |x::cs,p=>by rw[ats,List.any_cons,List.any_cons,ats_any c cs]
theorem has_eq (l:List (Int×Int))(c:Int)(hl:l.length≤1000):F.R06_has l c=some (l.any fun x=>decide (x.2=c)):=by
 have:=A.lp0 l (fun f y=>F.R06_has_l1 l c f y) (fun _ r=>some (r.any fun x=>decide (x.2=c)))
  (fun f=>by rw[F.R06_has_l1,if_neg (by omega)];rfl)
  (fun f k x hx hk ih=>by
   rw[F.R06_has_l1,if_pos (by omega),A.ixn hx,Option.bind_some,List.any_cons]
   by_cases h:x.2=c
   ·rw[if_pos h,decide_eq_true h];rfl
   ·rw[if_neg h,decide_eq_false h,A.gd1 ⟨by omega,by omega⟩,ih];rfl)
  (by have:=FU_big;omega)
 rw[F.R06_has]
 exact this
theorem R06_Filter_eq (f:Fun)(r:Rc)(hs:f.2.2.size≤1000)(hf:chk 3 f=0)(ho:okT r.2=true):F.R06_Filter f r=some (filtP f r,0):=by
 obtain⟨h64,hv⟩:=okT_iff.1 ho
 obtain⟨hfl,hck⟩:=vld_cks hv
 obtain⟨h1,h2,h3⟩:=chk_kind (k:=3) (by decide) hf
 have hlen:=cks_len r.2
 rw[F.R06_Filter]
 show(F.R06_may 3 f r).bind _=_
 rw[may_ok hs hf ho,Option.bind_some,if_neg (by simp),Runes_ok ho,Option.bind_some]
 unfold filtP
 by_cases e1:f.1=11
 ·rw[if_pos e1,if_pos e1,A.gd1 (num_div h2 e1)]
 ·rw[if_neg e1,if_neg e1]
  by_cases e2:f.1=12
  ·obtain⟨c,c1,c2,c3,c4⟩:=one_rune h3 (.inl e2) (by omega)
   have hvf:vld f.2.2 f.2.2.size 0=true:=by
    unfold textP at h3
    rw[if_neg (by omega),if_pos (.inl e2)]at h3
    simp only[Bool.and_eq_true]at h3;exact h3.2
   rw[if_pos e2,if_pos e2,Runes_ats f.2.2 (by omega) hvf,Option.bind_some,c2]
   show(A.ix [((0:Int),c.2)] 0).bind _=_
   have e0:A.ix [((0:Int),c.2)] 0=some (0,c.2):=rfl
   rw[e0,Option.bind_some,has_eq _ _ (by rw[ats_len];omega),Option.bind_some,ats_any,c3]
   have:=has_rune hck c1
   rw[hfl]at this
   rw[this]
  ·rw[if_neg e2,if_neg e2,ats_len];rfl
theorem part_ba {s:ByteArray}(ho:okT s=true){a b:Nat}(h:a≤b):F.R06_part s (ats 0 (cks s.data.toList)) a b=some (baL (((cks s.data.toList).take b).drop a)):=by
 obtain⟨hfl,_⟩:=vld_cks (okT_iff.1 ho).2
 rw[part_eq hfl h]
 exact congrArg some (ba_eq (ext_flat hfl a b))
theorem baL_ne {l:List Rn}(hc: ∀x,x∈l→Ck x):baL l≠ByteArray.mk #[]↔l≠[]:=by
 constructor
 ·intro h e;subst e;exact h rfl
 ·intro h e
  cases l with
  |nil=>exact h rfl
  |cons x l=>
   have:=congrArg ByteArray.size e
   have e2:(baL (x::l)).size=(flat (x::l)).length:=mk_size _
   rw[e2,flat_cons,List.length_append]at this
   have h1:=(hc x (List.mem_cons_self ..)).len
   have e3:(ByteArray.mk #[]).size=0:=rfl
   omega
theorem R06_Split_eq (f:Fun)(r:Rc)(hs:f.2.2.size≤1000)(hf:chk 4 f=0)(ho:okT r.2=true):F.R06_Split f r=some (splitP f r,0):=by
 obtain⟨h64,hv⟩:=okT_iff.1 ho
 obtain⟨hfl,hck⟩:=vld_cks hv
 have hFU:=FU_big
 have hlen:=cks_len r.2
 obtain⟨h1,h2,h3⟩:=chk_kind (k:=4) (by decide) hf
 rw[F.R06_Split]
 show(F.R06_may 4 f r).bind _=_
 rw[may_ok hs hf ho,Option.bind_some,if_neg (by simp),Runes_ok ho,Option.bind_some]
 unfold splitP piecesP
 have pb:=fun(a b:Nat) (h:a≤b)=>part_ba ho h
 generalize hcs:cks r.2.data.toList=cs at*
 by_cases e1:f.1=21
 ·rw[if_pos e1,if_neg (by omega)]
  have all:(cs.map fun c=>baL [c]).filter (fun s=>decide (s≠ByteArray.mk #[]))=cs.map fun c=>baL [c]:=by
   refine List.filter_eq_self.2 fun s hsm=>?_
   obtain⟨c,hc,rfl⟩:=List.mem_map.1 hsm
   exact decide_eq_true ((baL_ne fun x hx=>by rw[List.mem_singleton.1 hx];exact hck c hc).2 (by simp))
  rw[all]
  have main: ∀(q k f:Nat) (xs:List Rc),k+q=cs.length+1→q<f→xs.length=k→F.R06_Split_l1 r (ats 0 cs) f xs (k:Int)=some (xs++(((cs.drop k).take (4-k)).map fun c=>(r.1,baL [c])),0):=by
   intro q
   induction q with
   |zero=>
    intro k f xs hk hf hx
    obtain⟨f,rfl⟩: ∃f',f=f'+1:=⟨f-1,by omega⟩
    rw[F.R06_Split_l1,A.ba,ats_len,if_neg (by intro h;have:=(of_decide_eq_true h).1;omega),List.drop_eq_nil_of_le (by omega)];simp
   |succ q ih=>
    intro k f xs hk hf hx
    obtain⟨f,rfl⟩: ∃f',f=f'+1:=⟨f-1,by omega⟩
    rw[F.R06_Split_l1,A.ba,ats_len]
    by_cases hkl:k<cs.length
    ·by_cases h4:k<4
     ·obtain⟨c,hc⟩: ∃c,cs[k]?=some c:=⟨_,List.getElem?_eq_getElem hkl⟩
      have ek:(k:Int)+1=((k+1:Nat):Int):=by omega
      have et:(cs.take (k+1)).drop k=[c]:=by
       rw[List.take_add_one,hc,List.drop_append_of_le_length (by rw[List.length_take];omega),List.drop_eq_nil_of_le (by rw[List.length_take];omega)];rfl
      rw[if_pos (decide_eq_true ⟨by omega,by omega⟩),A.gd1 ⟨by omega,by omega⟩,ek,pb k (k+1) (by omega),Option.bind_some,A.gd1 (by simp only[List.length_cons,List.length_nil];omega),A.gd1 ⟨by omega,by omega⟩,et,A.dropx hc]
      obtain⟨m,hm⟩: ∃m,4-k=m+1:=⟨3-k,by omega⟩
      by_cases hk1:k+1≤cs.length
      ·rw[ih (k+1) f _ (by omega) (by omega) (by simp only[List.length_append,List.length_cons,List.length_nil];omega),show 4-(k+1)=m by omega,hm,List.take_succ_cons]
       simp
      ·omega
     ·rw[if_neg (by intro h;have:=(of_decide_eq_true h).2;omega),show 4-k=0 by omega];simp
    ·rw[if_neg (by intro h;have:=(of_decide_eq_true h).1;omega),List.drop_eq_nil_of_le (by omega)];simp
  have:=main (cs.length+1) 0 A.FU [] (by omega) (by omega) rfl
  refine(show F.R06_Split_l1 r (ats 0 cs) A.FU [] 0=_ from this).trans ?_
  rw[List.drop_zero,List.nil_append,←List.map_take,List.map_map];rfl
 ·have e2:f.1=22:=by
   have:f.1∈[21,22]:=h1
   simp only[List.mem_cons,List.not_mem_nil,or_false]at this
   omega
  rw[if_neg e1,if_pos e2]
  obtain⟨c,c1,c2,c3,c4⟩:=one_rune h3 (.inr e2) (by omega)
  have hvf:vld f.2.2 f.2.2.size 0=true:=by
   unfold textP at h3
   rw[if_neg (by omega),if_pos (.inr e2)]at h3
   simp only[Bool.and_eq_true]at h3;exact h3.2
  rw[Runes_ats f.2.2 (by omega) hvf,Option.bind_some,c2]
  show(A.ix [((0:Int),c.2)] 0).bind _=_
  have e0:A.ix [((0:Int),c.2)] 0=some (0,c.2):=rfl
  rw[e0,Option.bind_some,c4]
  have main: ∀(q i f from_:Nat) (xs:List Rc),i+q=cs.length+1→q<f→from_≤i→i≤cs.length→xs.length≤i→
    F.R06_Split_l5 r (ats 0 cs) (0,c.2) f xs (from_:Int) (i:Int)=some (xs++((((wgo c.2 ((cs.take i).drop from_) (cs.drop i)).map baL).filter fun s=>decide (s≠ByteArray.mk #[])).take (4-xs.length)).map (fun s=>(r.1,s)),0):=by
   intro q
   induction q with
   |zero=>intro i f from_ xs hi _ _ hil;omega
   |succ q ih=>
    intro i f from_ xs hi hf hfi hil hxl
    obtain⟨f,rfl⟩: ∃f',f=f'+1:=⟨f-1,by omega⟩
    have hacc: ∀x,x∈(cs.take i).drop from_→Ck x:=fun x hx=>hck x (List.mem_of_mem_take (List.mem_of_mem_drop hx))
    have hal:((cs.take i).drop from_).length=i-from_:=by rw[List.length_drop,List.length_take];omega
    have ends: ∀(rest:List (List Rn)) (k2:List Rc→Int→Int→Option (List Rc×Int)),(∀ys:List Rc,ys.length≤i+1→k2 ys ((i:Int)+1) ((i:Int)+1)=some (ys++(((rest.map baL).filter fun s=>decide (s≠ByteArray.mk #[])).take (4-ys.length)).map (fun s=>(r.1,s)),0))→
      F.R06_Split_j4 k2 r (ats 0 cs) xs (from_:Int) (i:Int) false=some (xs++(((((cs.take i).drop from_)::rest).map baL |>.filter fun s=>decide (s≠ByteArray.mk #[])).take (4-xs.length)).map (fun s=>(r.1,s)),0):=by
     intro rest k2 hk2
     rw[F.R06_Split_j4,if_neg (by simp),A.ba,List.map_cons,List.filter_cons]
     by_cases hne:from_<i
     ·have hb:baL ((cs.take i).drop from_)≠ByteArray.mk #[]:=(baL_ne hacc).2 fun e=>by rw[e]at hal;simp at hal;omega
      rw[if_pos (c:=decide (baL ((cs.take i).drop from_)≠ByteArray.mk #[])=true) (decide_eq_true hb)]
      by_cases h4:xs.length<4
      ·rw[if_pos (decide_eq_true ⟨by omega,by omega⟩),pb from_ i (by omega),Option.bind_some,A.gd1 (by simp only[List.length_cons,List.length_nil];omega),F.R06_Split_j3,A.gd1 ⟨by omega,by omega⟩,F.R06_Split_j2,A.gd1 ⟨by omega,by omega⟩,hk2 _ (by simp only[List.length_append,List.length_cons,List.length_nil];omega)]
       obtain⟨m,hm⟩: ∃m,4-xs.length=m+1:=⟨3-xs.length,by omega⟩
       rw[hm,List.take_succ_cons,show 4-(xs++[(r.1,baL ((cs.take i).drop from_))]).length=m by simp only[List.length_append,List.length_cons,List.length_nil];omega]
       simp
      ·rw[if_neg (by intro h;have:=(of_decide_eq_true h).2;omega),F.R06_Split_j3,A.gd1 ⟨by omega,by omega⟩,F.R06_Split_j2,A.gd1 ⟨by omega,by omega⟩,hk2 xs (by omega),show 4-xs.length=0 by omega]
       simp
     ·have e0:(cs.take i).drop from_=[]:=List.eq_nil_of_length_eq_zero (by omega)
      rw[if_neg (by intro h;have:=(of_decide_eq_true h).1;omega),F.R06_Split_j3,A.gd1 ⟨by omega,by omega⟩,F.R06_Split_j2,A.gd1 ⟨by omega,by omega⟩,hk2 xs (by omega),e0,if_neg (by decide)]
    rw[F.R06_Split_l5,if_pos (by rw[ats_len];omega),ats_len]
    by_cases hl:i<cs.length
    ·obtain⟨x,hx⟩: ∃x,cs[i]?=some x:=⟨_,List.getElem?_eq_getElem hl⟩
     have hax:(ats 0 cs)[i]?=some ((0:Int)+((flat (cs.take i)).length:Int),x.2):=by rw[ats_get,hx];rfl
     rw[if_pos (by omega),A.ixn hax,Option.bind_some,A.dropx hx,wgo]
     show F.R06_Split_j4 _ r (ats 0 cs) xs (from_:Int) (i:Int) (decide (x.2≠c.2))=_
     by_cases hc:x.2=c.2
     ·rw[decide_eq_false (fun h=>h hc),if_pos hc]
      refine ends _ _ fun ys hys=>?_
      have:=ih (i+1) f (i+1) ys (by omega) (by omega) (by omega) (by omega) hys
      have e0:(cs.take (i+1)).drop (i+1)=[]:=List.drop_eq_nil_of_le (by rw[List.length_take];omega)
      rw[e0]at this
      exact this
     ·rw[decide_eq_true hc,if_neg hc,F.R06_Split_j4,if_pos rfl,F.R06_Split_j2,A.gd1 ⟨by omega,by omega⟩,show(i:Int)+1=((i+1:Nat):Int) by omega,ih (i+1) f from_ xs (by omega) (by omega) (by omega) (by omega) (by omega)]
      have e3:(cs.take (i+1)).drop from_=(cs.take i).drop from_++[x]:=by
       rw[List.take_add_one,hx,List.drop_append_of_le_length (by rw[List.length_take];omega)];rfl
      rw[e3]
    ·rw[if_neg (by omega),List.drop_eq_nil_of_le (show cs.length≤i by omega),wgo]
     refine ends [] _ fun ys hys=>?_
     obtain⟨f,rfl⟩: ∃f',f=f'+1:=⟨f-1,by omega⟩
     rw[F.R06_Split_l5,if_neg (by rw[ats_len];omega)];simp
  have:=main (cs.length+1) 0 A.FU 0 [] (by omega) (by omega) (by omega) (by omega) (by simp)
  refine(show F.R06_Split_l5 r (ats 0 cs) (0,c.2) A.FU [] 0 0=_ from this).trans ?_
  simp
theorem one_eq (n:Nd)(r:Rc)(hs:n.2.2.2.1.2.2.size≤1000)(hf:chk n.2.1 n.2.2.2.1=0)(ho:okT r.2=true):F.R17_one n r=some (eachP n.2.1 n.2.2.2.1 r):=by
 rw[F.R17_one]
 unfold eachP
 by_cases h2:n.2.1=2
 ·rw[if_pos h2,if_pos h2]
  rw[h2]at hf
  show(F.R06_Map n.2.2.2.1 r).bind _=_
  have hm:mapP n.2.2.2.1 r=(mapK n.2.2.2.1 r,0):=by unfold mapP;rw[if_neg (by rw[hf];simp),if_pos ho]
  rw[R06_Map_eq _ _ (by omega),Option.bind_some,hm]
 rw[if_neg h2,if_neg h2]
 by_cases h3:n.2.1=3
 ·rw[if_pos h3,if_pos h3]
  rw[h3]at hf
  show(F.R06_Filter n.2.2.2.1 r).bind _=_
  rw[R06_Filter_eq _ _ hs hf ho,Option.bind_some]
  cases filtP n.2.2.2.1 r<;>rfl
 rw[if_neg h3,if_neg h3]
 by_cases h4:n.2.1=4
 ·rw[if_pos h4,if_pos h4]
  rw[h4]at hf
  show(F.R06_Split n.2.2.2.1 r).bind _=_
  rw[R06_Split_eq _ _ hs hf ho,Option.bind_some]
 ·rw[if_neg h4,if_neg h4]
theorem R17_Batch_eq (n:Nd)(port:Int)(t:Tm)(l:List Rc)(hs:n.2.2.2.1.2.2.size≤1000)(hl:l.length≤1000):F.R17_Batch n port t l=some (batchP n port t l):=by
 have hFU:=FU_big
 have l1: ∀(u:Tm),chk n.2.1 n.2.2.2.1=0→(∀r,r∈l→okT r.2=true)→F.R17_Batch_l1 n l u.1 u.2.1 u.2.2.1 u.2.2.2.1 u.2.2.2.2.1 u.2.2.2.2.2 A.FU [] 0=some (l.flatMap (eachP n.2.1 n.2.2.2.1),u,0):=fun u hf ht=>
  A.lp l (fun f (s:List Rc) y=>F.R17_Batch_l1 n l u.1 u.2.1 u.2.2.1 u.2.2.2.1 u.2.2.2.2.1 u.2.2.2.2.2 f s y) (fun _ r s=>some (s++r.flatMap (eachP n.2.1 n.2.2.2.1),u,0)) (fun k s=>s.length≤4*k)
   (fun f s hp=>by
    show F.R17_Batch_l1 n l _ _ _ _ _ _ (f+1) s _=_
    rw[F.R17_Batch_l1,if_neg (by omega)];simp)
   (fun f s k x hx hk hp ih=>by
    have hel:=each_len n.2.1 n.2.2.2.1 x
    show F.R17_Batch_l1 n l _ _ _ _ _ _ (f+1) s _=_
    rw[F.R17_Batch_l1,if_pos (by omega),A.ixn hx,Option.bind_some]
    show(F.R17_one n x).bind _=_
    rw[one_eq n x hs hf (ht x (List.mem_of_getElem? hx)),Option.bind_some,A.gd1 (by show(s.length+(eachP n.2.1 n.2.2.2.1 x).length)*24≤_;omega),A.gd1 ⟨by omega,by omega⟩]
    refine(ih (s++eachP n.2.1 n.2.2.2.1 x) (by rw[List.length_append];omega)).trans ?_
    rw[List.flatMap_cons,List.append_assoc])
   (by omega) [] (by simp)
 have j2: ∀(u:Tm) (e:Int),chk n.2.1 n.2.2.2.1=0→(∀r,r∈l→okT r.2=true)→F.R17_Batch_j2 n l u.1 u.2.1 u.2.2.1 u.2.2.2.1 u.2.2.2.2.1 u.2.2.2.2.2 e=some (if e≠0 then([],t0,e)else(l.flatMap (eachP n.2.1 n.2.2.2.1),u,0)):=fun u e hf ht=>by
  rw[F.R17_Batch_j2]
  by_cases he:e=0
  ·rw[if_neg (fun h=>h he),if_neg (fun h=>h he),l1 u hf ht]
  ·rw[if_pos he,if_pos he]
 have time:OkB n port t l→(∀f,F.R17_Batch_l3 n t l (f+1) (l.length:Int)=some (if(goesP n t).2.2≠0 then([],t0,(goesP n t).2.2)else if(goesP n t).2.1=false then([],(goesP n t).1,0)else(l.flatMap (eachP n.2.1 n.2.2.2.1),(goesP n t).1,0))):=fun ok f=>by
  have hg:=goes_eq n ok.tm
  rw[F.oper_goes]at hg
  rw[F.R17_Batch_l3,if_neg (by omega)]
  by_cases h12:n.2.1=12
  ·rw[if_pos h12]at hg ⊢
   obtain⟨v,hv⟩:=Enter_some ok.tm
   have hg2:(F.tstamp_Enter t).bind (fun r4=>some (r4.1,true,r4.2))=some (goesP n t):=hg
   rw[hv,Option.bind_some]at hg2
   rw[←Option.some.inj hg2]
   show(F.R01_Enter t).bind _=_
   rw[R01_Enter_eq,hv,Option.bind_some]
   refine(j2 v.1 v.2 ok.fn ok.txt).trans ?_
   by_cases he:v.2=0<;>simp[he]
  rw[if_neg h12]at hg ⊢
  by_cases h13:n.2.1=13
  ·rw[if_pos h13]at hg ⊢
   obtain⟨v,hv⟩:=Leave_some ok.tm
   have hg2:(F.tstamp_Leave t).bind (fun r4=>some (r4.1,true,r4.2))=some (goesP n t):=hg
   rw[hv,Option.bind_some]at hg2
   rw[←Option.some.inj hg2]
   show(F.R01_Leave t).bind _=_
   rw[R01_Leave_eq,hv,Option.bind_some]
   refine(j2 v.1 v.2 ok.fn ok.txt).trans ?_
   by_cases he:v.2=0<;>simp[he]
  rw[if_neg h13]at hg ⊢
  by_cases h14:n.2.1=14
  ·rw[if_pos h14]at hg ⊢
   by_cases hd:t.2.1=0
   ·rw[if_pos hd]at hg ⊢
    rw[←Option.some.inj hg];rfl
   ·obtain⟨_,_,d0,d4,_⟩:=tcP_d ok.tm
    obtain⟨x,hx,_⟩:=ix4 ok.tm hd
    have g:Z.R64 (t.2.1-1):=⟨by omega,by omega⟩
    rw[if_neg hd,A.gd1 g,hx,Option.bind_some]at hg ⊢
    by_cases hc:n.2.2.2.2.2.1≤x
    ·rw[if_pos hc]at hg ⊢
     rw[←Option.some.inj hg];rfl
    ·rw[if_neg hc]at hg ⊢
     obtain⟨v,hv⟩:=Next_some ok.tm
     have hg2:(F.tstamp_Next t).bind (fun r4=>some (r4.1,true,r4.2))=some (goesP n t):=hg
     rw[hv,Option.bind_some]at hg2
     rw[←Option.some.inj hg2]
     show(F.R01_Next t).bind _=_
     rw[R01_Next_eq t ok.tm,hv,Option.bind_some]
     refine(j2 v.1 v.2 ok.fn ok.txt).trans ?_
     by_cases he:v.2=0<;>simp[he]
  ·rw[if_neg h14]at hg ⊢
   rw[←Option.some.inj hg]
   exact j2 t 0 ok.fn ok.txt
 have recs:OkB n port t []→F.R17_Batch_l3 n t l A.FU 0=some (if chkR l≠0 then([],t0,chkR l)else if(goesP n t).2.2≠0 then([],t0,(goesP n t).2.2)else if(goesP n t).2.1=false then([],(goesP n t).1,0)else(l.flatMap (eachP n.2.1 n.2.2.2.1),(goesP n t).1,0)):=fun ok0=>by
  obtain⟨X,hX⟩: ∃X,X=(if(goesP n t).2.2≠0 then([],t0,(goesP n t).2.2)else if(goesP n t).2.1=false then([],(goesP n t).1,0)else(l.flatMap (eachP n.2.1 n.2.2.2.1),(goesP n t).1,0):List Rc×Tm×Int):=⟨_,rfl⟩
  rw[←hX]
  have main: ∀(q k f:Nat),k+q=l.length→q<f→(∀r,r∈l.take k→okT r.2=true)→F.R17_Batch_l3 n t l f (k:Int)=some (if chkR (l.drop k)≠0 then([],t0,chkR (l.drop k))else X):=by
   intro q
   induction q with
   |zero=>
    intro k f hk hf ht
    obtain⟨f,rfl⟩: ∃f',f=f'+1:=⟨f-1,by omega⟩
    obtain rfl:k=l.length:=by omega
    rw[List.take_length]at ht
    rw[time ⟨ok0.ins,ok0.holds,ok0.port,ok0.fn,ok0.tm,ht⟩ f,List.drop_length,hX];rfl
   |succ q ih=>
    intro k f hk hf ht
    obtain⟨f,rfl⟩: ∃f',f=f'+1:=⟨f-1,by omega⟩
    obtain⟨x,hx⟩: ∃x,l[k]?=some x:=⟨_,List.getElem?_eq_getElem (by omega)⟩
    rw[F.R17_Batch_l3,if_pos (by omega),A.ixn hx,Option.bind_some]
    show(F.R05_Check x).bind _=_
    rw[R05_Check_eq,Option.bind_some,A.dropx hx]
    have hc:chkR (x::l.drop (k+1))=if okT x.2=true then chkR (l.drop (k+1))else 50:=by
     unfold chkR
     rw[List.any_cons]
     cases okT x.2<;>rfl
    rw[hc]
    cases ho:okT x.2 with
    |true=>
     rw[if_pos rfl,if_pos rfl,if_neg (show ¬((0:Int)≠0)from fun h=>h rfl),A.gd1 ⟨by omega,by omega⟩,show(k:Int)+1=((k+1:Nat):Int) by omega]
     exact ih (k+1) f (by omega) (by omega) fun r hr=>by
      rw[List.take_add_one,hx]at hr
      rcases List.mem_append.1 hr with hr|hr
      ·exact ht r hr
      ·have:r∈[x]:=hr
       rw[List.mem_singleton.1 this];exact ho
    |false=>rfl
  have:=main l.length 0 A.FU (by omega) (by omega) (by simp)
  exact this
 have j4: ¬insP8 n.2.1<1→holdsP n.2.1=false→F.R17_Batch_j4 n t l (decide (port<0∨insP8 n.2.1≤port))=some (batchP n port t l):=fun hi hh=>by
  rw[F.R17_Batch_j4]
  unfold batchP checkP
  have hc1: ¬(insP8 n.2.1<1∨holdsP n.2.1=true):=fun h=>h.elim hi fun e=>by rw[hh]at e;cases e
  simp only[if_neg hc1]
  by_cases hp:port<0∨insP8 n.2.1≤port
  ·simp only[if_pos hp];rw[if_pos (decide_eq_true hp)];rfl
  ·simp only[if_neg hp]
   rw[if_neg (by simpa using hp)]
   show(F.R06_Check n.2.1 n.2.2.2.1).bind _=_
   rw[R06_Check_eq _ _ (by omega),Option.bind_some]
   by_cases h1:chk n.2.1 n.2.2.2.1=0
   ·have h1': ¬(chk n.2.1 n.2.2.2.1≠0):=fun h=>h h1
    simp only[if_neg h1']
    show(F.R01_Check t).bind _=_
    rw[R01_Check_eq,Option.bind_some]
    by_cases h2:tcP t=0
    ·have h2': ¬(tcP t≠0):=fun h=>h h2
     simp only[if_neg h2']
     exact recs ⟨hi,hh,by omega,h1,h2,by simp⟩
    ·simp only[if_pos h2]
   ·simp only[if_pos h1]
 have j5t:(insP8 n.2.1<1∨holdsP n.2.1=true)→F.R17_Batch_j5 n port t l true=some (batchP n port t l):=fun h=>by
  rw[F.R17_Batch_j5,if_pos rfl]
  unfold batchP checkP
  simp only[if_pos h];rfl
 rw[F.R17_Batch]
 by_cases h1:n.2.1=1
 ·rw[if_pos h1]
  exact j5t (.inl (by rw[h1];decide))
 ·rw[if_neg h1,R17_Holds_eq,Option.bind_some]
  cases hh:holdsP n.2.1 with
  |true=>rw[if_pos rfl];exact j5t (.inr hh)
  |false=>
   rw[if_neg (by simp),R08_Ins_eq,Option.bind_some]
   by_cases hi:insP8 n.2.1<0
   ·rw[decide_eq_true hi];exact j5t (.inl (by omega))
   ·have hi1: ¬insP8 n.2.1<1:=by
     unfold insP8 at hi ⊢
     split at hi
     ·omega
     ·rename_i h16
      rw[if_neg h16,if_neg h1]
      split<;>omega
    rw[decide_eq_false hi,F.R17_Batch_j5,if_neg (by simp)]
    by_cases hp:port<0
    ·rw[if_pos hp]
     have:=j4 hi1 hh
     rw[decide_eq_true (.inl hp:port<0∨insP8 n.2.1≤port)]at this
     exact this
    ·rw[if_neg hp,R08_Ins_eq,Option.bind_some]
     have:=j4 hi1 hh
     have e:decide (port<0∨insP8 n.2.1≤port)=decide (insP8 n.2.1≤port):=by
      congr 1
      exact propext ⟨fun h=>h.resolve_left hp,.inr⟩
     rw[e]at this
     exact this
end Go.Proofs.YtbljnlkhebiniaaGreatDoor
end
section
set_option maxRecDepth 20000
set_option linter.unusedVariables false
set_option linter.unusedSimpArgs false
namespace Go.Proofs.YtbljnlkhebiniaaGreatDoor
open Go.RowKit Go.Graph Go.Utf Go.Ent
end Go.Proofs.YtbljnlkhebiniaaGreatDoor
end
section
set_option maxRecDepth 20000
set_option linter.unusedVariables false
set_option linter.unusedSimpArgs false
namespace Go.Proofs.YtbljnlkhebiniaaGreatDoor
open Go.RowKit Go.Graph Go.Utf Go.Ent Go.Opr
theorem batch_len (n:Nd)(port:Int)(t:Tm)(l:List Rc):(batchP n port t l).1.length≤4*l.length:=by
 have: ∀l:List Rc,(l.flatMap (eachP n.2.1 n.2.2.2.1)).length≤4*l.length:=by
  intro l
  induction l with
  |nil=>simp
  |cons x l ih=>rw[List.flatMap_cons,List.length_append,List.length_cons];have:=each_len n.2.1 n.2.2.2.1 x;omega
 unfold batchP
 split
 ·simp
 ·(split)
  ·simp
  ·(split)
   ·simp
   ·exact this l
theorem operBatches_plain {P Q:Prop}(n:Nd)(port:Int)(b:Int×Tm×List Rc)(_:P)(_:Q)(h2:T59.ok b):F.L17_OperBatches n port b=some true:=by
 obtain⟨nd,t,l⟩:=b
 have ll:l.length≤maxLen:=h2.2.2.1
 rw[F.L17_OperBatches,live_eq,Option.bind_some,if_neg (by simp)]
 obtain⟨r,hr1,hr2⟩:=few_ok l ll
 show(F.L17_few l).bind _=_
 rw[hr1,Option.bind_some]
 cases r with
 |false=>rfl
 |true=>
  have hl:=hr2 rfl
  by_cases h300:(300:Int)<(n.2.2.2.1.2.2.size:Int)
  ·rw[decide_eq_true h300];rfl
  ·rw[decide_eq_false h300,if_neg (by simp)]
   show(F.oper_Batch n port t l).bind _=_
   rw[Batch_eq n port t l (by omega) (by omega),Option.bind_some]
   show(F.R17_Batch n port t l).bind _=_
   rw[R17_Batch_eq n port t l (by omega) (by omega),Option.bind_some]
   have bl:=batch_len n port t l
   rw[EqRec_eq _ _ (by omega),Option.bind_some,decide_eq_true rfl,if_pos rfl,decide_eq_true rfl,decide_eq_true rfl,if_pos (by rfl),Holds_eq,Option.bind_some,R17_Holds_eq,Option.bind_some,if_pos (by simp),F.oper_Keeps,Option.bind_some,F.R17_Keeps,Option.bind_some]
   simp[F.L17_OperBatches_j1]
end Go.Proofs.YtbljnlkhebiniaaGreatDoor
end
section
set_option linter.unusedVariables false
namespace Go.A
open Go.RowKit Go.Z Go.Proofs Go.Lib
theorem Hall.tabs3 {w:World}{g3 g4 g i j k:Nat}{m:Int}(h:Lib.Utf8Tabs g3 g4 w)(hm:w.cell? ⟨g,0,none⟩=some (.int .i64 m)):Hall w [(i,.el none g3 0 tabF),(j,.el none g4 0 tabA),(k,.el none g 0 [.int .i64 m])]:=by
 obtain⟨h1,h2,_⟩:=Hall.tabs (i:=i) (j:=j) h
 have hc:Cells w ⟨g,0,none⟩ [.int .i64 m]:=by
  intro x v hv
  cases x with
  |zero=>cases hv;rw[Addr.add_lit];exact hm
  |succ x=>cases hv
 exact⟨h1,h2,⟨rfl,rfl,hc,World.block_lt_of_cell? w _ hm,fun _ h=>h⟩,trivial⟩
theorem handS {H:Type}{enc:TypeId×Value→H}{C:Checked}{os:Os}{f:FuncId}{fn:Func}{s:ChangeSpec}{conds:List PathCond}{apart fresh handsOn again:Bool}{X:World→Array Value→Prop}
  (hX: ∀(w w':World) (args:Array Value),w.heap=w'.heap→X w args→X w' args) (own:ownKnob C.prog.godebug=none) (started:os.Started) (noInit:C.prog.inits.idxOf? f=none) (hfn:C.prog.funcs[f]?=some fn)
  (witness: ∃(w:World) (tape:Tape) (i:Input),w.os=os∧(w.forCall tape i).Shaped C.prog∧i.vars=[]∧Input.okWide C.prog (w.forCall tape i) .any w.heap.size f i∧((s.pre enc C.prog fn conds apart (w.forCall tape i).memory i.args∧X (w.forCall tape i).memory i.args)∧sizedMet enc C.prog fn (OpenSpec.ofChange s) apart (w.forCall tape i).memory i.args)∧({}:Assume).holds C.prog (lone (Frame.enter C.prog f i.args .normal) [] (w.forCall tape i)))
  (k: ∀(W:World) (base:Nat) (args:Array Value) (ds gs:List (DataW H)) (before:List MemPlace),
   (∀(j:Nat) t v,fn.params[j]?=some t→args[j]?=some v→Value.okWide C.prog W .any base t v)→DataW.Whole enc C.prog fn.params.toList s.vars apart W args.toList ds gs before→X W args→W.ShapedOpen C.prog→
   Calls C.prog f args W fun e W'=>∃v,e=.returned v∧s.post enc C.prog fn apart fresh handsOn again W args v W'):
  ReturnsInHanded {} C os f .any (fun w args=>(s.pre enc C.prog fn conds apart w args∧X w args)∧sizedMet enc C.prog fn (OpenSpec.ofChange s) apart w args) (s.post enc C.prog fn apart fresh handsOn again):=
 returnsInHanded_of_calls own started noInit witness fun w tape i _ hsh _ hok hpre _=>by
  obtain⟨_,_,_,g,hg,_,_,_,_,hv⟩:=hok
  obtain rfl:g=fn:=Option.some.inj (hg.symm.trans hfn)
  obtain⟨⟨⟨ds,gs,bf,hw,hc⟩,hx⟩,_⟩:=hpre
  refine(k (w.forCall tape i) w.heap.size i.args ds gs bf hv (DataW.Whole.of_heap (w':=w.forCall tape i) (by rfl) hw) (hX _ _ _ (by rfl) hx) hsh).mono ?_
  rintro e W' ⟨v,rfl,hp⟩
  exact ChangeSpec.post_blind hp
end Go.A
end
section
namespace Go.Z
open Go.RowKit
def OpenT (P:Program)(T:TypeId)(t:Ty):Prop:=
 P.cellsOf T=t.size∧∀(H:Type) (enc:TypeId×Value→H) (w:World) (base:Nat) (spare:Nat→Bool) (held:Bool) (fuel:Nat) (cs:List Value) (x:DataW H×List MemPlace),
  DataW.trod enc P w base spare held fuel T cs=some x→∃y:t.den,t.rep w (nt []) cs y
section
variable {P:Program}{T e:TypeId}
theorem ot_int {k:IntKind}(hc:P.cellsOf T=1)(ht:P.underlying T=some (.int k)):OpenT P T (.int k):=⟨hc,fun H enc w base spare held fuel cs x h=>by
 obtain⟨n,rfl,_,hw⟩:=DataW.trod_int ht h
 refine⟨n,rfl,?_⟩
 simp only[Lit.wf,Bool.and_eq_true,decide_eq_true_eq]at hw
 exact hw⟩
theorem ot_str (hc:P.cellsOf T=1)(ht:P.underlying T=some .string):OpenT P T .str:=⟨hc,fun H enc w base spare held fuel cs x h=>by
 obtain⟨s,rfl,_,hs⟩:=DataW.trod_string ht h
 exact⟨s,rfl,hs⟩⟩
def OpenPs (P:Program):List (TypeId×Nat)→Nat→Ty→Prop
 | [],_,_=>False
 | [(T,o')],o,t=>o'=o∧OpenT P T t
 |(T,o')::p::ps,o,.pair a b=>o'=o∧OpenT P T a∧OpenPs P (p::ps) (o+a.size) b
 |_::_::_,_,_=>False
theorem open_ps {H:Type}{enc:TypeId×Value→H}{w:World}{base:Nat}{spare:Nat→Bool}{held:Bool}{fuel:Nat}{cs:List Value}:
  ∀(ps:List (TypeId×Nat)) (o:Nat) (t:Ty),OpenPs P ps o t→(∀p∈ps,∃x,DataW.trod enc P w base spare held fuel p.1 ((cs.drop p.2).take (P.cellsOf p.1))=some x)→∃y:t.den,t.rep w (nt []) ((cs.drop o).take t.size) y
 | [],_,_,h,_=>h.elim
 | [(T,o')],o,t,h,hx=>by
  obtain⟨rfl,⟨hc,ho⟩⟩:=h
  obtain⟨x,hx⟩:=hx (T,o') (List.mem_singleton.2 rfl)
  rw[←hc];exact ho _ _ _ _ _ _ _ _ _ hx
 |(T,o')::p::ps,o,.pair a b,h,hx=>by
  obtain⟨rfl,⟨hc,ho⟩,hr⟩:=h
  obtain⟨x,h1⟩:=hx (T,o') (List.mem_cons_self ..)
  obtain⟨ya,hya⟩:=ho _ _ _ _ _ _ _ _ _ h1
  obtain⟨yb,hyb⟩:=open_ps (p::ps) _ b hr fun q hq=>hx q (List.mem_cons_of_mem _ hq)
  refine⟨(ya,yb),_,_,?_,hya,hyb⟩
  show(cs.drop o').take (a.size+b.size)=_
  rw[hc,List.take_add,List.drop_drop]
 |_::_::_,_,.int _,h,_=>h.elim
 |_::_::_,_,.byte,h,_=>h.elim
 |_::_::_,_,.bool,h,_=>h.elim
 |_::_::_,_,.str,h,_=>h.elim
 |_::_::_,_,.slice _,h,_=>h.elim
theorem ot_struct {fs:List Field}{t:Ty}(hc:P.cellsOf T=t.size)(ht:P.underlying T=some (.struct fs.toArray))(h:OpenPs P (fs.map fun f=>(f.type,f.offset)) 0 t):OpenT P T t:=⟨hc,fun H enc w base spare held fuel cs x hx=>by
 obtain⟨xs,n,_,_,hl,hs,hf⟩:=DataW.trod_struct ht hx
 have hcs:cs=(cs.drop 0).take t.size:=by rw[List.drop_zero,List.take_of_length_le (by omega)]
 rw[hcs]
 refine open_ps (fuel:=n) (enc:=enc) (base:=base) (spare:=spare) (held:=held) _ 0 t h fun p hp=>?_
 obtain⟨f,hf1,rfl⟩:=List.mem_map.1 hp
 obtain⟨i,hi,he⟩:=List.getElem_of_mem hf1
 have h1:=hf i f (by rw[List.getElem?_toArray,List.getElem?_eq_getElem hi,he])
 rw[h1,List.getElem?_eq_getElem (by rw[hs];simpa using hi)]
 exact⟨_,rfl⟩⟩
theorem ot_array {n c:Nat}{t:Ty}(hc:P.cellsOf T=t.size)(ht:P.underlying T=some (.array n e))(he:P.cellsOf e=c)(h:OpenPs P ((List.range n).map fun i=>(e,i*c)) 0 t):OpenT P T t:=⟨hc,fun H enc w base spare held fuel cs x hx=>by
 subst he
 obtain⟨xs,m,_,_,hl,hs,hf⟩:=DataW.trod_array ht hx
 have hcs:cs=(cs.drop 0).take t.size:=by rw[List.drop_zero,List.take_of_length_le (by omega)]
 rw[hcs]
 refine open_ps (fuel:=m) (enc:=enc) (base:=base) (spare:=spare) (held:=held) _ 0 t h fun p hp=>?_
 obtain⟨i,hi,rfl⟩:=List.mem_map.1 hp
 have hi':=List.mem_range.1 hi
 rw[hf i hi',List.getElem?_eq_getElem (by omega)]
 exact⟨_,rfl⟩⟩
theorem rows_of {t:Ty}{w:World}{g:Addr}: ∀(n:Nat),(∀i,i<n→∃(cs:List Value) (y:t.den),cs.length=t.size∧(∀j u,cs[j]?=some u→w.cell? (g.add (i*t.size+j))=some u)∧t.rep w (nt []) cs y)→
  ∃(cells:List Value) (ys:List t.den),ys.length=n∧cells.length=n*t.size∧(∀j u,cells[j]?=some u→w.cell? (g.add j)=some u)∧∀(i:Nat) (y:t.den),ys[i]?=some y→t.rep w (nt []) ((cells.drop (i*t.size)).take t.size) y
 |0,_=>⟨[],[],rfl,by simp,by simp,by simp⟩
 |n+1,h=>by
  obtain⟨cells,ys,h1,h2,h3,h4⟩:=rows_of n fun i hi=>h i (by omega)
  obtain⟨cs,y,c1,c2,c3⟩:=h n (by omega)
  refine⟨cells++cs,ys++[y],by simp[h1],by rw[List.length_append,h2,c1,Nat.succ_mul],fun j u hj=>?_,?_⟩
  ·by_cases hlt:j<cells.length
   ·rw[List.getElem?_append_left hlt]at hj;exact h3 j u hj
   ·rw[List.getElem?_append_right (by omega)]at hj
    have:=c2 _ u hj
    rwa[h2,show n*t.size+(j-n*t.size)=j by omega]at this
  ·refine rep_append (xs:=ys) (ys:=[y]) (by rw[h2,h1]) h4 fun i y' hi=>?_
   have:i=0:=by have:=(List.getElem?_eq_some_iff.1 hi).1;simp at this;omega
   subst this
   simp at hi;subst hi
   rw[Nat.zero_mul,List.drop_zero,List.take_of_length_le (by omega)];exact c3
theorem ot_slice {t:Ty}(hc:P.cellsOf T=1)(ht:P.underlying T=some (.slice e))(h:OpenT P e t):OpenT P T (.slice t):=⟨hc,fun H enc w base spare held fuel cs x hx=>by
 rcases DataW.trod_slice ht hx with⟨rfl,_⟩|⟨ad,len,cap,elems,rest,n,_,rfl,_,hb,hl,hm,hlen,hel,_,_⟩
 ·exact⟨[],rep_nil _⟩
 ·have each: ∀i,i<len→∃(cs:List Value) (y:t.den),cs.length=t.size∧(∀j u,cs[j]?=some u→w.cell? (ad.add (i*t.size+j))=some u)∧t.rep w (nt []) cs y:=fun i hi=>by
   have h1:=hel i hi
   rw[List.getElem?_eq_getElem (by omega),Option.bind_eq_some_iff]at h1
   obtain⟨cs',h2,h3⟩:=h1
   obtain⟨_,h4,h5⟩:=World.cells?_some h2
   obtain⟨y,hy⟩:=h.2 _ _ _ _ _ _ _ _ _ h3
   rw[h.1]at h4 h5
   refine⟨cs',y,h4,fun j u hj=>?_,hy⟩
   have hlt:=(List.getElem?_eq_some_iff.1 hj).1
   have:=h5 j (by omega)
   rw[add_add]at this
   rw[this,hj]
  obtain⟨cells,ys,h1,h2,h3,h4⟩:=rows_of len each
  by_cases hz:len=0
  ·subst hz
   have:ys=[]:=List.eq_nil_of_length_eq_zero h1
   subst this
   exact⟨[],some ad,cap,[],rfl,by simp,hm,by simp,.inl rfl,by simp⟩
  ·have hp:=pos_size t
   have hlt:0<cells.length:=by rw[h2];exact Nat.mul_pos (by omega) hp
   have h0:=h3 0 _ (List.getElem?_eq_getElem hlt)
   have hspot:=World.cell?_spot h0
   obtain⟨b,off,spot⟩:=ad
   simp only[Addr.add]at hspot
   subst hspot
   refine⟨ys,some ⟨b,off,none⟩,cap,cells,by rw[h1],by omega,hm,by rw[h1];exact h2,.inr ⟨b,off,rfl,by simp[nt],fun j u hj=>?_⟩,h4⟩
   have:=h3 j u hj
   rwa[Addr.add_lit]at this⟩
end
end Go.Z
end
section
namespace Go.Proofs.YtbljnlkhebiniaaGreatDoor.operBatchesDone
open Go.ChangeShapes Go.WideShapes Go.ChangeAt Go.RowKit
set_option linter.unusedVariables false
theorem own:ownKnob Tryz.prog.godebug=none:=by kernel_rfl
theorem laidOut:laidOutB Tryz.prog=true:=by kernel_rfl
theorem ot3:Z.OpenT Tryz.prog 3 (Z.Ty.int .i64):=Z.ot_int (by kernel_rfl) Tryz.underlying3
theorem ot22:Z.OpenT Tryz.prog 22 (Z.Ty.slice (Z.Ty.int .i64)):=Z.ot_slice (by kernel_rfl) Tryz.underlying22 ot3
theorem ot2:Z.OpenT Tryz.prog 2 (Z.Ty.int .i64):=Z.ot_int (by kernel_rfl) Tryz.underlying2
theorem ot9:Z.OpenT Tryz.prog 9 Z.Ty.str:=Z.ot_str (by kernel_rfl) Tryz.underlying9
theorem ot24:Z.OpenT Tryz.prog 24 T23:=Z.ot_struct (by kernel_rfl) Tryz.underlying24 ⟨rfl,ot3,rfl,ot2,rfl,ot9⟩
theorem ot26:Z.OpenT Tryz.prog 26 T25:=Z.ot_struct (by kernel_rfl) Tryz.underlying26 ⟨rfl,ot3,rfl,ot3,rfl,ot22,rfl,ot24,rfl,ot9,rfl,ot2,rfl,ot3⟩
theorem ot27:Z.OpenT Tryz.prog 27 T27:=Z.ot_array (c:=1) (by kernel_rfl) Tryz.underlying27 (by kernel_rfl) (show Z.OpenPs _ [(2,0),(2,1),(2,2),(2,3)] 0 _ from⟨rfl,ot2,rfl,ot2,rfl,ot2,rfl,ot2⟩)
theorem ot29:Z.OpenT Tryz.prog 29 T28:=Z.ot_struct (by kernel_rfl) Tryz.underlying29 ⟨rfl,ot2,rfl,ot3,rfl,ot27⟩
theorem ot44:Z.OpenT Tryz.prog 44 T43:=Z.ot_struct (by kernel_rfl) Tryz.underlying44 ⟨rfl,ot2,rfl,ot9⟩
theorem ot37:Z.OpenT Tryz.prog 37 (Z.Ty.slice T43):=Z.ot_slice (by kernel_rfl) Tryz.underlying37 ot44
theorem ot60:Z.OpenT Tryz.prog 60 T59:=Z.ot_struct (by kernel_rfl) Tryz.underlying60 ⟨rfl,ot3,rfl,ot29,rfl,ot37⟩
set_option maxRecDepth 100000 in
theorem laid_met (os:Os)(args:Array Value):laidMetH Tryz.prog Rows.operBatchesRow.laid (({World.holding Tryz.prog os ⟨#[],#[],[]⟩with heap:=((World.holding Tryz.prog os ⟨#[],#[],[]⟩).heap.modify 1 (A.putCells A.tabF)).modify 2 (A.putCells A.tabA)}:World).forCall (fun _ _=>0) ⟨#[],args,[]⟩).memory:=by
 rw[MakeChecks.laidMetH_plain _ _ _ (by kernel_rfl)]
 exact(LaidIn.of_run (l:=Rows.operBatchesRow.laid) [2,1] 8 (by kernel_rfl) (by kernel_rfl) (by kernel_rfl) (by kernel_rfl)).met
theorem of_laid {W:World}(h:laidMetH Tryz.prog Rows.operBatchesRow.laid W):Lib.Utf8Tabs 1 2 W:=by
 rw[MakeChecks.laidMetH_plain _ _ _ (by kernel_rfl)]at h
 have h1:=Lib.laidMet.reads h (.tail _ (.head _))
 rw[show Rows.laid_unicode_utf8_first=Lib.firstData from Pinned.utf8First_eq]at h1
 have h2:=Lib.laidMet.reads h (.head _)
 rw[show(Rows.laid_unicode_utf8_acceptRanges:DataW Unit)=Lib.acceptData by kernel_rfl]at h2
 exact utf8Tabs_of_readsT (U8Types.of196 Tryz.laysValid) ⟨by kernel_rfl,by kernel_rfl,by kernel_rfl,by kernel_rfl,by kernel_rfl,by kernel_rfl,by kernel_rfl⟩ h1 h2
set_option maxHeartbeats 1000000 in
set_option maxRecDepth 100000 in
theorem lifted (os:Os)(started:os.Started)(H:Type)(enc:TypeId×Value→H):
  ReturnsInHanded {} Tryz.checked os 4 .any (fun w args=>(Rows.operBatchesSpec.pre enc Tryz.prog Tryz.f4 [] false w args∧laidMetH Tryz.prog Rows.operBatchesRow.laid w)∧sizedMet enc Tryz.prog Tryz.f4 (OpenSpec.ofChange Rows.operBatchesSpec) false w args) (Rows.operBatchesSpec.post enc Tryz.prog Tryz.f4 false true false false):=by
 refine A.handS (C:=Tryz.checked) (X:=fun w _=>laidMetH Tryz.prog Rows.operBatchesRow.laid w) (fun _ _ _ hh h=>h.of_heap hh) own started (by kernel_rfl) Tryz.func4
  (ChangeSpec.witness_shaped (enc:=enc) (C:=Tryz.checked) (os:=os) (X:=fun w _=>laidMetH Tryz.prog Rows.operBatchesRow.laid w) false ({World.holding Tryz.prog os ⟨#[],#[],[]⟩with heap:=((World.holding Tryz.prog os ⟨#[],#[],[]⟩).heap.modify 1 (A.putCells A.tabF)).modify 2 (A.putCells A.tabA)}) #[.agg #[.int .i64 0,.int .i64 0,.slice none 0 0,.int .i64 0,.int .i64 0,.string (ByteArray.mk #[]),.string (ByteArray.mk #[]),.int .i64 0,.int .i64 0],.int .i64 0,.agg #[.int .i64 0,.int .i64 0,.int .i64 0,.int .i64 0,.int .i64 0,.int .i64 0,.int .i64 0,.slice none 0 0]] 16 rfl (World.shaped_of_RefB (by kernel_rfl) (by kernel_rfl)) (by kernel_rfl) (by kernel_rfl) (by kernel_rfl) (laid_met os _)) ?_
 intro W base args ds gs before hval0 hW hL hsh
 obtain⟨mx,hmx⟩: ∃m,W.cell? ⟨0,0,none⟩=some (.int .i64 m):=cell_of_shapedOpen_int (t:=3) (zero:=#[.int .i64 0]) hsh (of_decide_eq_true (by kernel_rfl)) (by kernel_rfl) (by kernel_rfl) (by kernel_rfl) (by kernel_rfl) Tryz.underlying3
 have hval: ∀(j:Nat) t v,Tryz.f4.params[j]?=some t→args[j]?=some v→Value.okWide Tryz.prog W .any base t v:=hval0
 have hW':=hW
 obtain⟨p,q,hA0,hV,rfl,hfz,hnd⟩:=hW
 have hA:DataW.TrodAll enc Tryz.prog W 0 (fun _=>true) true Tryz.f4.params.toList args.toList ds p:=hA0
 rw[Tryz.params4]at hA hval
 obtain⟨v0,vs0,d0,ds0,p0,q0,hargs,rfl,rfl,h0,r0⟩:=trodAll_cons hA
 obtain⟨v1,vs1,d1,ds1,p1,q1,rfl,rfl,rfl,h1,r1⟩:=trodAll_cons r0
 obtain⟨v2,vs2,d2,ds2,p2,q2,rfl,rfl,rfl,h2,r2⟩:=trodAll_cons r1
 obtain⟨rfl,rfl,rfl⟩:=trodAll_nil r2
 obtain rfl:args=#[v0,v1,v2]:=by cases args;simp_all
 obtain⟨rfl,rfl⟩:=trodVars_none hV
 have k0:=h0
 have lt0: ∀x∈p0,x.block<W.heap.size:=by obtain⟨m,hm⟩:=k0;exact DataW.trod_lt m _ _ _ hm
 obtain⟨fu0,hf0⟩:=h0
 obtain⟨x0,hx0⟩:=ot26.2 _ _ _ _ _ _ _ _ _ hf0
 obtain⟨cs0,rfl,_⟩:=okWide_struct Tryz.underlying26 (hval 0 26 v0 rfl rfl)
 replace hx0:T25.rep W (Z.nt []) cs0.toList x0:=hx0
 have hok0:=Z.rep_ok _ hx0
 obtain⟨ca1,cb2,he3,hr4,hr5⟩:=hx0
 have he6:=hr4.1
 obtain⟨ca7,cb8,he9,hr10,hr11⟩:=hr5
 have he12:=hr10.1
 obtain⟨ca13,cb14,he15,hr16,hr17⟩:=hr11
 obtain⟨A18,c19,he20,hn21,hn22⟩:=Z.rep_slice hr16
 rw[he20]at hr16
 have hle_A18:=Z.rep_le hr16
 obtain⟨ca23,cb24,he25,hr26,hr27⟩:=hr17
 obtain⟨ca28,cb29,he30,hr31,hr32⟩:=hr26
 have he33:=hr31.1
 obtain⟨ca34,cb35,he36,hr37,hr38⟩:=hr32
 have he39:=hr37.1
 have he40:=hr38.1
 obtain⟨ca41,cb42,he43,hr44,hr45⟩:=hr27
 have he46:=hr44.1
 obtain⟨ca47,cb48,he49,hr50,hr51⟩:=hr45
 have he52:=hr50.1
 have he53:=hr51.1
 have he0:cs0.toList=[.int .i64 x0.1,.int .i64 x0.2.1,.slice A18 x0.2.2.1.length c19,.int .i64 x0.2.2.2.1.1,.int .i64 x0.2.2.2.1.2.1,.string x0.2.2.2.1.2.2,.string x0.2.2.2.2.1,.int .i64 x0.2.2.2.2.2.1,.int .i64 x0.2.2.2.2.2.2]:=by simp only[he3,he6,he9,he12,he15,he20,he25,he30,he33,he36,he39,he40,he43,he46,he49,he52,he53,List.cons_append,List.nil_append]
 obtain rfl:cs0=#[.int .i64 x0.1,.int .i64 x0.2.1,.slice A18 x0.2.2.1.length c19,.int .i64 x0.2.2.2.1.1,.int .i64 x0.2.2.2.1.2.1,.string x0.2.2.2.1.2.2,.string x0.2.2.2.2.1,.int .i64 x0.2.2.2.2.2.1,.int .i64 x0.2.2.2.2.2.2]:=by rw[←Array.toArray_toList (xs:=cs0),he0]
 have k1:=h1
 have lt1: ∀x∈p1,x.block<W.heap.size:=by obtain⟨m,hm⟩:=k1;exact DataW.trod_lt m _ _ _ hm
 obtain⟨fu1,hf1⟩:=h1
 obtain⟨x1,hx1⟩:=ot3.2 _ _ _ _ _ _ _ _ _ hf1
 obtain⟨u1,rfl⟩:=okWide_int Tryz.underlying3 (hval 1 3 v1 rfl rfl)
 have he1:=hx1.1
 replace he1:u1=x1:=by simpa[Value.cells] using he1
 subst he1
 have hok1:=hx1.2
 have k2:=h2
 have lt2: ∀x∈p2,x.block<W.heap.size:=by obtain⟨m,hm⟩:=k2;exact DataW.trod_lt m _ _ _ hm
 obtain⟨fu2,hf2⟩:=h2
 obtain⟨x2,hx2⟩:=ot60.2 _ _ _ _ _ _ _ _ _ hf2
 obtain⟨cs2,rfl,_⟩:=okWide_struct Tryz.underlying60 (hval 2 60 v2 rfl rfl)
 replace hx2:T59.rep W (Z.nt []) cs2.toList x2:=hx2
 have hok2:=Z.rep_ok _ hx2
 obtain⟨ca54,cb55,he56,hr57,hr58⟩:=hx2
 have he59:=hr57.1
 obtain⟨ca60,cb61,he62,hr63,hr64⟩:=hr58
 obtain⟨ca65,cb66,he67,hr68,hr69⟩:=hr63
 have he70:=hr68.1
 obtain⟨ca71,cb72,he73,hr74,hr75⟩:=hr69
 have he76:=hr74.1
 obtain⟨ca77,cb78,he79,hr80,hr81⟩:=hr75
 have he82:=hr80.1
 obtain⟨ca83,cb84,he85,hr86,hr87⟩:=hr81
 have he88:=hr86.1
 obtain⟨ca89,cb90,he91,hr92,hr93⟩:=hr87
 have he94:=hr92.1
 have he95:=hr93.1
 obtain⟨A96,c97,he98,hn99,hn100⟩:=Z.rep_slice hr64
 rw[he98]at hr64
 have hle_A96:=Z.rep_le hr64
 have he2:cs2.toList=[.int .i64 x2.1,.int .i64 x2.2.1.1,.int .i64 x2.2.1.2.1,.int .i64 x2.2.1.2.2.1,.int .i64 x2.2.1.2.2.2.1,.int .i64 x2.2.1.2.2.2.2.1,.int .i64 x2.2.1.2.2.2.2.2,.slice A96 x2.2.2.length c97]:=by simp only[he56,he59,he62,he67,he70,he73,he76,he79,he82,he85,he88,he91,he94,he95,he98,List.cons_append,List.nil_append]
 obtain rfl:cs2=#[.int .i64 x2.1,.int .i64 x2.2.1.1,.int .i64 x2.2.1.2.1,.int .i64 x2.2.1.2.2.1,.int .i64 x2.2.1.2.2.2.1,.int .i64 x2.2.1.2.2.2.2.1,.int .i64 x2.2.1.2.2.2.2.2,.slice A96 x2.2.2.length c97]:=by rw[←Array.toArray_toList (xs:=cs2),he2]
 clear hA0 hval0
 have htab:=of_laid hL
 have hF:F.L17_OperBatches x0 u1 x2=some true:=operBatches_plain x0 u1 x2 hok0 hok1 hok2
 have hct:=L17_OperBatches_ok x0 u1 x2 A18 c19 A96 c97 mx hok0.1 hok0.2.1 hok0.2.2.2.1.1 hok0.2.2.2.1.2.1 hok0.2.2.2.1.2.2 hok0.2.2.2.2.1 hok0.2.2.2.2.2.1 hok0.2.2.2.2.2.2 hok1 hok2.1 hok2.2.1.1 hok2.2.1.2.1 hok2.2.1.2.2.1 hok2.2.1.2.2.2.1 hok2.2.1.2.2.2.2.1 hok2.2.1.2.2.2.2.2 true hF
 refine(hct W (fun _=>True) (A.Hp.start ⟨A.Hall.sh hr16,A.Hall.sh hr64,A.Hall.tabs3 htab hmx⟩)).mono ?_
 rintro e W' ⟨v,H',rfl,⟨rfl,rfl⟩,hh⟩
 have bel:=hh.ch.below
 exact⟨_,rfl,_,_,_,[],_,[],hW',trodAll_mk1 (shut_bool Tryz.underlying4 _),(trodAll_cons_mk (Below.trod laidOut (by kernel_rfl) (of_decide_eq_true (by kernel_rfl)) k0 bel lt0) (trodAll_cons_mk (Below.trod laidOut (by kernel_rfl) (of_decide_eq_true (by kernel_rfl)) k1 bel lt1) (trodAll_cons_mk (Below.trod laidOut (by kernel_rfl) (of_decide_eq_true (by kernel_rfl)) k2 bel lt2) trodAll_mk0))),rfl,bel.frame _,fun h=>by cases h⟩
theorem over:Rows.operBatchesRow.holds Tryz.pinned (OpenSpec.ofChange Rows.operBatchesSpec):=
 OpenClaim.holds_of_wide 4 Tryz.f4 rfl rfl rfl rfl rfl rfl rfl ⟨rfl,rfl,rfl,rfl,rfl⟩ rfl rfl rfl rfl rfl (by kernel_rfl) Tryz.func4 (by kernel_rfl)
  (of_decide_eq_true (by kernel_rfl)) (by unfold Func.isWrapper;first|(rw[if_pos (by decide+kernel)];kernel_rfl)|(rw[if_neg (by decide+kernel)];exact⟨rfl,rfl⟩))
  (fun os started H enc _=>lifted os started H enc)
theorem proved:Rows.OperBatchesCardSaid:=
 Claim7.holds_tied_plain_at .later [] [.data,.pinned] true (true,"3625bcd9b745fe139b92f791089984ce2930baf8856179a1ac346a61d49a712d") false
  over (fun _ h=>by cases h) (by kernel_rfl) (fun _ h=>by cases h) operBatches_row_tie rfl ⟨rfl,rfl⟩ (by kernel_rfl) rfl
  (fun f fn hf hfn=>by
   obtain rfl:f=4:=Option.some.inj ((show Tryz.prog.funcNamed Rows.operBatchesRow.func=some 4 by kernel_rfl).symm.trans hf) |>.symm
   obtain rfl:fn=Tryz.f4:=(Option.some.inj (Tryz.func4.symm.trans hfn)).symm
   exact⟨by kernel_rfl,fun j t ht=>by
    rw[Tryz.params4]at ht
    have hm:t∈[26,3,60]:=by simpa using Array.mem_of_getElem? ht
    have hall:([26,3,60].all fun u=> !Tryz.prog.wantsStandIn u)=true:=by kernel_rfl
    exact(show Tryz.prog.wantsStandIn t=false by simpa using List.all_eq_true.1 hall t hm)⟩)
  (by kernel_rfl)
#print axioms proved
end Go.Proofs.YtbljnlkhebiniaaGreatDoor.operBatchesDone
end
