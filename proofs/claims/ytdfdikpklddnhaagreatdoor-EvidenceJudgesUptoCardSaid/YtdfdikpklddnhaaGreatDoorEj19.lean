/- Of the proof of EvidenceJudges, second form: for values of bulk at most 1048576. (Ej19) -/
import Derived.Test.YtdfdikpklddnhaaGreatDoorEj01
import Derived.Test.YtdfdikpklddnhaaGreatDoorEj18
import Derived.Lib.SplitLaws
import Derived.Lib.IndexBytes
namespace Go.Proofs.YtdfdikpklddnhaaGreatDoor
open Go.RowKit
def pcs (c:UInt8):Bs→List Bs
 | []=>[[]]
 | b :: l=>if b=c then [] :: pcs c l else (b :: (pcs c l).headD []) :: (pcs c l).tail
theorem pcs_ne (c:UInt8):∀ l:Bs,pcs c l≠[]
 | []=>by simp [pcs]
 | b :: l=>by unfold pcs;split <;> simp
theorem pcs_cons (c:UInt8) (l:Bs):pcs c l=(pcs c l).headD [] :: (pcs c l).tail:=by
 have:=pcs_ne c l
 cases h:pcs c l with
 | nil=>exact absurd h this
 | cons a r=>rfl
theorem pcs_miss (c:UInt8):∀ {l:Bs},(∀ b∈l,b≠c)→pcs c l=[l]
 | [],_=>rfl
 | b :: l,h=>by
  have ih:=pcs_miss c (l:=l) (fun x hx=>h x (List.mem_cons_of_mem _ hx))
  unfold pcs
  rw [if_neg (h b (List.mem_cons_self ..)),ih]
  rfl
theorem pcs_hit (c:UInt8):∀ {a:Bs} (r:Bs),(∀ b∈a,b≠c)→pcs c (a++c :: r)=a :: pcs c r
 | [],r,_=>by simp [pcs]
 | b :: a,r,h=>by
  have ih:=pcs_hit c (a:=a) r (fun x hx=>h x (List.mem_cons_of_mem _ hx))
  rw [List.cons_append]
  have e:pcs c (b :: (a++c :: r))=(b :: (pcs c (a++c :: r)).headD []) :: (pcs c (a++c :: r)).tail:=by
   conv=>lhs;unfold pcs
   rw [if_neg (h b (List.mem_cons_self ..))]
  rw [e,ih]
  rfl
theorem pcs_length (c:UInt8):∀ l:Bs,(pcs c l).length=l.count c+1
 | []=>rfl
 | b :: l=>by
  have ih:=pcs_length c l
  unfold pcs
  by_cases h:b=c
  ·rw [if_pos h,List.length_cons,ih,h];simp
  ·have h2:=pcs_cons c l
   have h3:(pcs c l).tail.length=l.count c:=by rw [List.length_tail,ih];omega
   rw [if_neg h,List.length_cons,h3,List.count_cons_of_ne (by simpa using h)]
theorem splitK_pcs (c:UInt8):∀ (k:Nat) (l:Bs),l.count c=k→Lib.splitK [c] 0 k l=pcs c l
 | 0,l,h=>by
  have h2:∀ b∈l,b≠c:=fun b hb e=>by
   subst e
   have:=List.count_pos_iff.2 hb
   omega
  rw [pcs_miss c h2]
  rfl
 | k+1,l,h=>by
  have hm:c∈l:=List.count_pos_iff.1 (by omega)
  have hge:=Lib.indexByte_ge l c
  have hne:Lib.indexByte l c≠-1:=fun e=>by
   obtain ⟨n,hn⟩:=List.getElem?_of_mem hm
   exact Lib.indexByte_none e n hn
  obtain ⟨i,hi⟩:∃ i:Nat,Lib.indexByte l c=i:=⟨(Lib.indexByte l c).toNat,by omega⟩
  obtain ⟨h1,h2⟩:=Lib.indexByte_some hi
  have hil:i<l.length:=(List.getElem?_eq_some_iff.1 h1).1
  have hsplit:l=l.take i++c :: l.drop (i+1):=by
   have e:l[i]=c:=by rw [List.getElem?_eq_getElem hil] at h1;exact Option.some.inj h1
   conv=>lhs;rw [←List.take_append_drop i l,List.drop_eq_getElem_cons hil,e]
  have hta:∀ b∈l.take i,b≠c:=fun b hb e=>by
   subst e
   obtain ⟨n,hn⟩:=List.getElem?_of_mem hb
   have hni:n<i:=by
    have:=(List.getElem?_eq_some_iff.1 hn).1
    rw [List.length_take] at this
    omega
   rw [List.getElem?_take_of_lt hni] at hn
   exact h2 n hni hn
  have hcnt:(l.drop (i+1)).count c=k:=by
   have e:=congrArg (List.count c) hsplit
   rw [List.count_append,List.count_cons_self] at e
   have e0:(l.take i).count c=0:=List.count_eq_zero.2 fun hc=>hta c hc rfl
   omega
  have hix:Lib.index l [c]=(i:Int):=by rw [Lib.index_one,hi]
  have hk:Lib.splitK [c] 0 (k+1) l=l.take i :: Lib.splitK [c] 0 k (l.drop (i+1)):=by
   conv=>lhs;unfold Lib.splitK
   have hq:¬ (((i:Nat):Int) == -1)=true:=fun e=>by have:=beq_iff_eq.1 e;omega
   rw [hix,if_neg hq]
   simp
  rw [hk,splitK_pcs c k _ hcnt]
  conv=>rhs;rw [hsplit]
  rw [pcs_hit c _ hta]
theorem split_any (s:ByteArray) (c:UInt8) (m:Int) (w:World) (hs:s.size<4294967281) (hm:w.cell? ⟨0,0,none⟩=some (.int .i64 m)) :
  Calls Tryz.prog 95 #[.string s,.string ⟨#[c]⟩] w fun e w'=>e=.returned (.slice (some ⟨w.heap.size,0,none⟩) (pcs c s.data.toList).length (pcs c s.data.toList).length) ∧
   w'=w.alloc (.cells ((pcs c s.data.toList).map fun p=>Value.string ⟨p.toArray⟩).toArray 9):=by
 have h1:1≤(⟨#[c]⟩:ByteArray).size:=Nat.le_refl _
 have hc:Lib.countB s ⟨#[c]⟩=s.data.toList.count c:=Lib.count_one c s.data.toList
 have hp:(Lib.splitB ⟨#[c]⟩ 0 (Lib.countB s ⟨#[c]⟩) s).map (·.data.toList)=pcs c s.data.toList:=by
  rw [Lib.splitB_data]
  exact splitK_pcs c _ _ hc.symm
 have hl:Lib.countB s ⟨#[c]⟩+1=(pcs c s.data.toList).length:=by rw [pcs_length,hc]
 have:=Tryz.strings_Split s ⟨#[c]⟩ m w hs hm h1
 rw [hl] at this
 refine this.mono ?_
 rintro e w' ⟨h2,h3⟩
 refine ⟨h2,?_⟩
 rw [h3,←hp,List.map_map]
 rfl
def gopkgL:Bs:=[103,111,112,107,103,46,105,110]
def unstableL:Bs:=[45,117,110,115,116,97,98,108,101]
def digDot (b:UInt8):Bool:=decide ((48≤b.toNat∧b.toNat≤57)∨b.toNat=46)
def majP (first last:Bs) (n:Nat):Bs × Bool :=
 if first == gopkgL then
  ((Lib.trimSuffix last unstableL).drop (Lib.trimRightS (Lib.trimSuffix last unstableL) digitsL).length,
   Lib.hasSuffix (Lib.trimRightS (Lib.trimSuffix last unstableL) digitsL) [46,118] && num ((Lib.trimSuffix last unstableL).drop (Lib.trimRightS (Lib.trimSuffix last unstableL) digitsL).length))
 else if n=1∨last.length<2∨last.head?≠some 118 then ([],true)
 else if (last.drop 1).all digDot then (last.drop 1,num (last.drop 1) && last.drop 1 != [48] && last.drop 1 != [49])
 else ([],true)
def majOf (l:Bs):Bs × Bool:=majP ((pcs 47 l).headD []) ((pcs 47 l).getLastD []) (pcs 47 l).length
theorem pcs_sub (c:UInt8):∀ {l p:Bs},p∈pcs c l→p.length≤l.length∧∀ b∈p,b∈l
 | [],p,h=>by
  simp [pcs] at h
  subst h
  exact ⟨Nat.le_refl _,fun b hb=>by cases hb⟩
 | b :: l,p,h=>by
  unfold pcs at h
  split at h
  ·rcases List.mem_cons.1 h with rfl|h
   ·exact ⟨Nat.zero_le _,fun b hb=>by cases hb⟩
   ·obtain ⟨h1,h2⟩:=pcs_sub c h
    exact ⟨Nat.le_succ_of_le h1,fun x hx=>List.mem_cons_of_mem _ (h2 x hx)⟩
  ·rcases List.mem_cons.1 h with rfl|h
   ·have hm:(pcs c l).headD []∈pcs c l:=by rw [pcs_cons c l];exact List.mem_cons_self ..
    obtain ⟨h1,h2⟩:=pcs_sub c hm
    refine ⟨by simpa using h1,fun x hx=>?_⟩
    rcases List.mem_cons.1 hx with rfl|hx
    ·exact List.mem_cons_self ..
    ·exact List.mem_cons_of_mem _ (h2 x hx)
   ·obtain ⟨h1,h2⟩:=pcs_sub c (List.mem_of_mem_tail h)
    exact ⟨Nat.le_succ_of_le h1,fun x hx=>List.mem_cons_of_mem _ (h2 x hx)⟩
theorem ext_drop (l:Bs) (k:Nat):(⟨l.toArray⟩:ByteArray).extract k l.length=⟨(l.drop k).toArray⟩:=by
 rw [Lib.extract_eq]
 have e:(⟨l.toArray⟩:ByteArray).data.toList=l:=rfl
 rw [e,List.take_of_length_le (by rw [List.length_drop];exact Nat.le_refl _)]
set_option maxRecDepth 100000 in
theorem majorOf_any (s:ByteArray) (w:World) (hsz:s.size≤1048576) (hm:∃ m:Int,w.cell? ⟨0,0,none⟩=some (.int .i64 m)) :
  Calls Tryz.prog 189 #[.string s] w fun e w'=>e=.returned (.tuple #[.string ⟨(majOf s.data.toList).1.toArray⟩,.bool (majOf s.data.toList).2])∧Below w.heap.size w w':=by
 obtain ⟨m,hm0⟩:=hm
 have K95:=zh (split_any s 47 m w (by omega) hm0)
 obtain ⟨ps,hps⟩:=zg (pcs 47 s.data.toList)
 obtain ⟨first,hfirst⟩:=zg (ps.headD [])
 obtain ⟨last,hlast⟩:=zg (ps.getLastD [])
 obtain ⟨n,hn⟩:=zg (ps.length)
 have hres:majOf s.data.toList=majP first last n:=by rw [hfirst,hlast,hn,hps];rfl
 have hne:ps≠[]:=by rw [hps];exact pcs_ne _ _
 have hn1:1≤n:=by rw [hn];exact List.length_pos_iff.2 hne
 have hmem:last∈ps:=by
  rw [hlast]
  cases ps with
  | nil=>exact absurd rfl hne
  | cons a r =>
   rw [List.getLastD_eq_getLast?,List.getLast?_eq_some_getLast (by simp)]
   exact List.getLast_mem _
 have hlm:last.length≤s.size:=by
  rw [hps] at hmem
  have:=(pcs_sub 47 hmem).1
  have e:s.data.toList.length=s.size:=by simp
  omega
 have hpsl:ps.length≤1048577:=by
  rw [hps,pcs_length]
  have h1:=List.count_le_length (a:=(47:UInt8)) (l:=s.data.toList)
  have e:s.data.toList.length=s.size:=by simp
  omega
 have hpsc:∀ (j:Nat) p,ps[j]?=some p→(w.alloc (.cells (ps.map fun p=>Value.string ⟨p.toArray⟩).toArray 9)).cell? ⟨w.heap.size,j,none⟩=some (.string ⟨p.toArray⟩):=fun j p hj=>by
  rw [cell_of_row _ _ _ _ _ _ (heap_alloc_new _ _),List.getElem?_toArray,List.getElem?_map,hj]
  rfl
 have hfirstc:ps[0]?=some first:=by
  rw [hfirst]
  cases ps with
  | nil=>exact absurd rfl hne
  | cons a r=>rfl
 have hlastc:ps[n - 1]?=some last:=by
  rw [hlast,hn,←List.getLast?_eq_getElem?]
  cases ps with
  | nil=>exact absurd rfl hne
  | cons a r=>rw [List.getLastD_eq_getLast?,List.getLast?_eq_some_getLast (by simp)];rfl
 obtain ⟨W1,hW1⟩:=zg (w.alloc (.cells (ps.map fun p=>Value.string ⟨p.toArray⟩).toArray 9))
 have cF:=hpsc 0 first hfirstc
 have cL:=hpsc (n - 1) last hlastc
 rw [←hW1] at cF cL
 have hB1:Below w.heap.size w W1:=by rw [hW1];exact (Below.refl _ _).alloc (Nat.le_refl _) _
 rw [←hps,←hn,←hW1] at K95
 rw [hres]
 have HB1:=zh hB1
 have hnI:(1:Int)≤n:=by omega
 have hnI2:(n:Int)≤1048577:=by omega
 have hw:IntKind.i64.wrap ((n:Int) - 1)=(n:Int) - 1:=IntWalk.i64_in _ (by omega)
 have htn:((n:Int) - 1).toNat=n - 1:=by omega
 have hl1:(n:Int) - 1<n:=by omega
 have hl0:(0:Int)≤(n:Int) - 1:=by omega
 clear hn hps hfirst hlast hres hne hmem hpsl hpsc hfirstc hlastc hW1 hm0 hB1
 by_cases hg:(first == gopkgL)=true
 ·have hg':(first == [103,111,112,107,103,46,105,110])=true:=hg
  obtain ⟨l2,hl2⟩:=zg (Lib.trimSuffix last unstableL)
  obtain ⟨bare,hbare⟩:=zg (Lib.trimRightS l2 digitsL)
  obtain ⟨number,hnum⟩:=zg (l2.drop bare.length)
  obtain ⟨hs,hhs⟩:=zg (Lib.hasSuffix bare [46,118])
  obtain ⟨bn,hbn⟩:=zg (num number)
  have hv:majP first last n=(number,hs && bn):=by rw [hbn,hhs,hnum,hbare,hl2];unfold majP;rw [if_pos hg]
  have hl2n:l2.length≤last.length:=by rw [hl2];unfold Lib.trimSuffix;split;exact List.length_take_le' ..;exact Nat.le_refl _
  have hbl:bare.length≤l2.length:=by
   rw [hbare];unfold Lib.trimRightS;rw [List.length_reverse]
   refine Nat.le_trans (List.dropWhile_sublist _).length_le ?_
   simp
  have K200:Hid (∀ w,Calls Tryz.prog 200 #[.string ⟨last.toArray⟩,.string ⟨#[45,117,110,115,116,97,98,108,101]⟩] w fun e w'=>e=.returned (.string ⟨l2.toArray⟩)∧w=w'):=zh fun w=>by
   rw [hl2];exact (Tryz.strings_TrimSuffix ⟨last.toArray⟩ ⟨#[45,117,110,115,116,97,98,108,101]⟩ w (by simp [ByteArray.size];omega)).mono fun _ _ h=>⟨h.1,h.2.symm⟩
  have K255:Hid (∀ w,Calls Tryz.prog 255 #[.string ⟨l2.toArray⟩,.string ⟨#[48,49,50,51,52,53,54,55,56,57]⟩] w fun e w'=>e=.returned (.string ⟨bare.toArray⟩)∧Below w.heap.size w w'):=zh fun w=>by
   rw [hbare];exact Tryz.trimRight_digits ⟨l2.toArray⟩ w (by simp [ByteArray.size];omega)
  have K94:Hid (∀ w,Calls Tryz.prog 94 #[.string ⟨bare.toArray⟩,.string ⟨#[46,118]⟩] w fun e w'=>e=.returned (.bool hs)∧w=w'):=zh fun w=>by
   rw [hhs];exact (Tryz.strings_HasSuffix ⟨bare.toArray⟩ ⟨#[46,118]⟩ w (by simp [ByteArray.size];omega)).mono fun _ _ h=>⟨h.1,h.2.symm⟩
  have K193:Hid (∀ w,Calls Tryz.prog 193 #[.string ⟨number.toArray⟩] w fun e w'=>e=.returned (.bool bn)∧Below w.heap.size w w'):=zh fun w=>by
   rw [hbn];exact isNumber_any ⟨number.toArray⟩ w
  rw [hv]
  have hx:(⟨l2.toArray⟩:ByteArray).extract bare.length l2.length=⟨number.toArray⟩:=by rw [ext_drop,hnum]
  have HNUM:=zh hnum
  clear hl2 hbare hnum hhs hbn hv hg
  have hblI:(bare.length:Int)≤l2.length:=by omega
  have hb0I:(0:Int)≤bare.length:=by omega
  go_enter Tryz.func189,Tryz.ntmps189
  cases hs <;> cases bn
  all_goals go_wp2_with (first
   | (go_at_call 95;refine K95.out.mono ?_;rintro e w1 ⟨rfl,rfl⟩)
   | (go_at_call 200;refine (K200.out _).mono ?_;rintro e w2 ⟨rfl,rfl⟩)
   | (go_at_call 255;refine (K255.out _).mono ?_;rintro e w3 ⟨rfl,hb3⟩;have HB3:=zh hb3;clear hb3))
  all_goals go_wp2_with (first
   | (go_at_call 94;refine (K94.out _).mono ?_;rintro e w4 ⟨rfl,rfl⟩)
   | (go_at_call 193;refine (K193.out _).mono ?_;rintro e w5 ⟨rfl,hb5⟩;have HB5:=zh hb5;clear hb5))
  all_goals go_ret2
  all_goals refine ⟨rfl,?_⟩
  all_goals first|exact below_trans (below_trans HB1.out HB3.out) HB5.out|exact below_trans HB1.out HB3.out
 ·have hg':(first == [103,111,112,107,103,46,105,110])=false:=Bool.eq_false_iff.2 hg
  obtain ⟨S,hS⟩:∃ S:ByteArray,S=⟨last.toArray⟩:=⟨_,rfl⟩
  have hSl:S.data.toList=last:=by rw [hS]
  have hSz:S.size=last.length:=by rw [hS];simp [ByteArray.size]
  rw [←hS] at cL
  have hv1:∀ x,(if n=1∨last.length<2∨last.head?≠some 118 then ([],true) else if (last.drop 1).all digDot then (last.drop 1,num (last.drop 1) && last.drop 1 != [48] && last.drop 1 != [49]) else ([],true))=x→majP first last n=x:=fun x hx=>by
   unfold majP;rw [if_neg hg];exact hx
  have HV1:=zh hv1
  have HSL:=zh hSl
  have HSZ:=zh hSz
  have hSI:(S.size:Int)≤1048576:=by omega
  clear hg hS hv1 hSl hSz
  by_cases hq:n=1∨last.length<2∨last.head?≠some 118
  ·have hv:=HV1.out ([],true) (if_pos hq)
   have HV:=zh hv
   clear hv
   by_cases h1:n=1
   ·have e1:((n:Int) == 1)=true:=by simp;omega
    clear hq h1
    go_enter Tryz.func189,Tryz.ntmps189
    go_wp2_with (first|(go_at_call 95;refine K95.out.mono ?_;rintro e w1 ⟨rfl,rfl⟩))
    go_ret2
    exact ⟨by rw [HV.out];rfl,HB1.out⟩
   ·have e1:((n:Int) == 1)=false:=by simp;omega
    by_cases h2:last.length<2
    ·have e2:(S.size:Int)<2:=by have:=HSZ.out;omega
     clear hq h1
     go_enter Tryz.func189,Tryz.ntmps189
     go_wp2_with (first|(go_at_call 95;refine K95.out.mono ?_;rintro e w1 ⟨rfl,rfl⟩))
     go_ret2
     exact ⟨by rw [HV.out];rfl,HB1.out⟩
    ·have e2:¬ (S.size:Int)<2:=by have:=HSZ.out;omega
     have hs0:0<S.size:=by have:=HSZ.out;omega
     have hs0I:(0:Int)<S.size:=by omega
     have e3:((((S[0]'hs0).toNat:Nat):Int) != 118)=true:=by
      rw [head_ne S hs0 118 118 rfl,HSL.out]
      rcases hq with h|h|h
      ·exact absurd h h1
      ·exact absurd h h2
      ·simpa using h
     clear hq h1 h2
     go_enter Tryz.func189,Tryz.ntmps189
     go_wp2_with (first|(go_at_call 95;refine K95.out.mono ?_;rintro e w1 ⟨rfl,rfl⟩))
     go_ret2
     exact ⟨by rw [HV.out];rfl,HB1.out⟩
  ·have h1:¬ n=1:=fun e=>hq (.inl e)
   have h2:¬ last.length<2:=fun e=>hq (.inr (.inl e))
   have h3:last.head?=some 118:=Classical.byContradiction fun e=>hq (.inr (.inr e))
   have e1:((n:Int) == 1)=false:=by simp;omega
   have e2:¬ (S.size:Int)<2:=by have:=HSZ.out;omega
   have hs0:0<S.size:=by have:=HSZ.out;omega
   have hs0I:(0:Int)<S.size:=by omega
   have hs1I:(1:Int)≤S.size:=by omega
   have e3:((((S[0]'hs0).toNat:Nat):Int) != 118)=false:=by
    rw [head_ne S hs0 118 118 rfl,HSL.out,h3];simp
   obtain ⟨T,hT⟩:∃ T:ByteArray,T=S.extract 1 S.size:=⟨_,rfl⟩
   have hTl:T.data.toList=last.drop 1:=by
    rw [hT,Lib.extract_eq,HSL.out]
    show ((last.drop 1).take (S.size - 1))=_
    exact List.take_of_length_le (by rw [List.length_drop,HSZ.out];exact Nat.le_refl _)
   have hx:S.extract 1 S.size=T:=hT.symm
   have HTL:=zh hTl
   have HV2:Hid (∀ x,(if (last.drop 1).all digDot then (last.drop 1,num (last.drop 1) && last.drop 1 != [48] && last.drop 1 != [49]) else ([],true))=x→majP first last n=x):=zh fun x hx=>HV1.out x (by rw [if_neg hq];exact hx)
   clear hq h1 h2 h3 hT hTl
   have C251:=zh (fun (r:Int) w=>(isDigit_any r w).mono (R':=fun e w'=>e=.returned (.bool (digR r))∧w=w') fun _ _ h=>⟨h.1,h.2.symm⟩)
   go_enter Tryz.func189,Tryz.ntmps189
   go_wp2_with (first|(go_at_call 95;refine K95.out.mono ?_;rintro e W2 ⟨rfl,rfl⟩))
   go_loopw [9] (fun r wr=>∃ pos:Nat,wr=W2.iter T pos∧Upto digDot T pos) (fun _ wr=>T.size - wr.iterPos W2.heap.size)
   case atStart=>exact ⟨0,rfl,Upto.start _ _⟩
   case round =>
    obtain ⟨pos,rfl,hu⟩:=hrel
    have HU:=zh hu
    clear hu
    by_cases hp:pos<T.size
    ·obtain ⟨r,d,hnx,hd,hr⟩:=rune_step T pos hp
     have hnx1:=fun ty=>hnx Tryz.prog W2 ty
     have HR:=zh hr
     clear hnx hr
     by_cases hg:digDot (T[pos]'hp)=true
     ·have hd1:d=1∧((48≤r∧r≤57)∨r=46):=by
       simp only [digDot,decide_eq_true_eq] at hg
       rcases HR.out with ⟨h1,h2,h3⟩|⟨h1,h2⟩
       ·exact ⟨h3,by omega⟩
       ·omega
      obtain ⟨hd1,hr1⟩:=hd1
      have HU1:=zh (HU.out.step hp hg)
      clear hg
      by_cases hr2:48≤r∧r≤57
      ·have e:digR r=true:=by simp only [digR,decide_eq_true_eq];omega
       have D1:Hid (∀ w,Calls Tryz.prog 251 #[.int .i32 r] w fun e w'=>e=.returned (.bool true)∧w=w'):=zh fun w=>by rw [←e];exact C251.out _ w
       clear e hr1 hr2
       go_wp2_with (first|(go_at_call 251;refine (D1.out _).mono ?_;rintro e w' ⟨rfl,rfl⟩))
       go_roundw
       case rel=>exact ⟨pos+1,by first|rfl|rw [hd1],HU1.out⟩
       case measure=>simp;omega
      ·have e:digR r=false:=by simp only [digR,decide_eq_false_iff_not];omega
       have D1:Hid (∀ w,Calls Tryz.prog 251 #[.int .i32 r] w fun e w'=>e=.returned (.bool false)∧w=w'):=zh fun w=>by rw [←e];exact C251.out _ w
       have m1:((r:Int) != 46)=false:=by simp;omega
       clear e hr1 hr2
       go_wp2_with (first|(go_at_call 251;refine (D1.out _).mono ?_;rintro e w' ⟨rfl,rfl⟩))
       go_roundw
       case rel=>exact ⟨pos+1,by first|rfl|rw [hd1],HU1.out⟩
       case measure=>simp;omega
     ·have hg':digDot (T[pos]'hp)=false:=by simpa using hg
      have hno:T.data.toList.all digDot=false:=Upto.stop hp hg'
      have hv:=HV2.out ([],true) (by rw [←HTL.out,hno];rfl)
      have HV:=zh hv
      have hr1:¬ (48≤r∧r≤57)∧r≠46:=by
       simp only [digDot,decide_eq_false_iff_not] at hg'
       rcases HR.out with ⟨h1,h2,h3⟩|⟨h1,h2⟩ <;> omega
      have e:digR r=false:=by simp only [digR,decide_eq_false_iff_not];omega
      have D1:Hid (∀ w,Calls Tryz.prog 251 #[.int .i32 r] w fun e w'=>e=.returned (.bool false)∧w=w'):=zh fun w=>by rw [←e];exact C251.out _ w
      have m1:((r:Int) != 46)=true:=by simp;omega
      clear hg hg' hno hv hr1 e
      go_wp2_with (first|(go_at_call 251;refine (D1.out _).mono ?_;rintro e w' ⟨rfl,rfl⟩))
      go_ret2
      exact ⟨by rw [HV.out];rfl,below_trans HB1.out ((Below.refl _ _).alloc (Nat.le_refl _) _)⟩
    ·have hnx:∀ ty,(Instr.next (.pointer (some ⟨W2.heap.size,0,none⟩)) true ty).run Tryz.prog (W2.iter T pos)=_:=fun ty=>run_next_end W2 T pos ty hp
     have hall:=HU.out.all hp
     have hB:Below w.heap.size w (W2.iter T pos):=below_trans HB1.out ((Below.refl _ _).alloc (Nat.le_refl _) _)
     have HB:=zh hB
     obtain ⟨bn,hbn⟩:=zg (num T.data.toList)
     have D4:Hid (∀ w,Calls Tryz.prog 193 #[.string T] w fun e w'=>e=.returned (.bool bn)∧Below w.heap.size w w'):=zh fun w=>by rw [hbn];exact isNumber_any T w
     obtain ⟨b0,hb0⟩:=zg ((T.toList == [48]))
     obtain ⟨b1,hb1⟩:=zg ((T.toList == [49]))
     have hv:=HV2.out (T.data.toList,bn && !b0 && !b1) (by rw [←HTL.out,hall,hbn,hb0,hb1,ByteArray.toList_eq];rfl)
     have HV:=zh hv
     have f0:(T.toList == [48])=b0:=hb0.symm
     have f1:(T.toList == [49])=b1:=hb1.symm
     have hTa:(⟨T.data.toList.toArray⟩:ByteArray)=T:=rfl
     have HTA:=zh hTa
     clear hall hB hbn hb0 hb1 hv hTa
     cases bn <;> cases b0 <;> cases b1
     all_goals go_wp2_with (first|(go_at_call 193;refine (D4.out _).mono ?_;rintro e w' ⟨rfl,hb⟩;have HB2:=zh hb;clear hb))
     all_goals go_ret2
     all_goals exact ⟨by rw [HV.out];rfl,below_trans HB.out HB2.out⟩
structure EnvP (w:World):Prop where
 env:Env w
 devs:DevsIn w 9
theorem EnvP.still {w w':World} (h:EnvP w) (hb:Below w.heap.size w w'):EnvP w':=⟨h.env.still hb,h.devs.still hb⟩
def isPathP (l:Bs):Bool:=(!l.isEmpty && decide (l.length≤255) && l.all pathB) && (pcs 47 l).all elemP && hostP ((pcs 47 l).headD []) && (majOf l).2
theorem pathR_byte (b:UInt8) (r:Nat) (h:b.toNat<128∧r=b.toNat∨128≤b.toNat∧128≤r):pathR r=pathB b:=by
 have e:∀ x y:Bool,(x=true↔y=true)→x=y:=fun x y h=>by cases x <;> cases y <;> simp_all
 apply e
 simp only [pathR,digR,smlR,cptR,markR,pathB,pathN,Bool.or_eq_true,decide_eq_true_eq]
 rcases h with ⟨h1,h2⟩|⟨h1,h2⟩ <;> omega
set_option maxRecDepth 100000 in
theorem isPath_any (s:ByteArray) (w:World) (hsz:s.size≤1048576) (henv:EnvP w) :
  Calls Tryz.prog 130 #[.string s] w fun e w'=>e=.returned (.bool (isPathP s.data.toList))∧Below w.heap.size w w':=by
 have HE:=zh henv
 have elen:s.data.toList.length=s.size:=by simp
 by_cases h0:s.data.toList=[]
 ·have f0:s.toList.isEmpty=true:=by rw [ByteArray.toList_eq,h0];rfl
  have hn:isPathP s.data.toList=false:=by rw [h0];rfl
  have HN:=zh hn
  clear henv h0 hn elen
  go_enter Tryz.func130,Tryz.ntmps130
  go_wp2
  go_ret
  exact ⟨by rw [HN.out];rfl,Below.refl _ _⟩
 ·have f0:s.toList.isEmpty=false:=by rw [ByteArray.toList_eq];simpa using h0
  have e0:s.data.toList.isEmpty=false:=by simpa using h0
  by_cases h1:255<s.size
  ·have g1:(255:Int)<s.size:=by omega
   have hn:isPathP s.data.toList=false:=by
    have:decide (s.data.toList.length≤255)=false:=by rw [decide_eq_false_iff_not,elen];omega
    simp only [isPathP,this,Bool.and_false,Bool.false_and]
   have HN:=zh hn
   clear henv h0 hn elen e0
   go_enter Tryz.func130,Tryz.ntmps130
   go_wp2
   go_ret
   exact ⟨by rw [HN.out];rfl,Below.refl _ _⟩
  ·have g1:¬ (255:Int)<s.size:=by omega
   have hres:isPathP s.data.toList=(s.data.toList.all pathB && (pcs 47 s.data.toList).all elemP && hostP ((pcs 47 s.data.toList).headD []) && (majOf s.data.toList).2):=by
    have:decide (s.data.toList.length≤255)=true:=by rw [decide_eq_true_eq,elen];omega
    simp only [isPathP,this,e0,Bool.not_false,Bool.true_and]
   have HRES:=zh hres
   have HEL:=zh elen
   have C186:Hid (∀ (r:Int) w,MarksIn w→Calls Tryz.prog 186 #[.int .i32 r] w fun e w'=>e=.returned (.bool (pathR r))∧w=w'):=zh fun r w hm=>(isPathRune_any r w hm).mono fun _ _ h=>⟨h.1,h.2.symm⟩
   clear henv h0 hres elen e0
   go_enter Tryz.func130,Tryz.ntmps130
   go_wp2
   go_loopw [4] (fun r wr=>∃ pos:Nat,wr=w.iter s pos∧Upto pathB s pos) (fun _ wr=>s.size - wr.iterPos w.heap.size)
   case atStart=>exact ⟨0,rfl,Upto.start _ _⟩
   case round =>
    obtain ⟨pos,rfl,hu⟩:=hrel
    have HU:=zh hu
    have hBi:Below w.heap.size w (w.iter s pos):=(Below.refl _ _).alloc (Nat.le_refl _) _
    have HBI:=zh hBi
    clear hu hBi
    by_cases hp:pos<s.size
    ·obtain ⟨r,d,hnx,hd,hr⟩:=rune_step s pos hp
     have hnx1:=fun ty=>hnx Tryz.prog w ty
     have HR:=zh hr
     have hpr:pathR r=pathB (s[pos]'hp):=pathR_byte _ _ (by rcases hr with ⟨h1,h2,h3⟩|h;exact .inl ⟨h1,h2⟩;exact .inr h)
     have HPR:=zh hpr
     clear hnx hr hpr
     by_cases hg:pathB (s[pos]'hp)=true
     ·have hd1:d=1:=by
       rcases HR.out with ⟨h1,h2,h3⟩|⟨h1,h2⟩
       ·exact h3
       ·simp only [pathB,pathN,Bool.or_eq_true,decide_eq_true_eq] at hg;omega
      subst hd1
      have HU1:=zh (HU.out.step hp hg)
      have D1:Hid (∀ w':World,w'=w.iter s (pos+1)→Calls Tryz.prog 186 #[.int .i32 r] w' fun e w''=>e=.returned (.bool true)∧w'=w''):=zh fun w' hw'=>by
       have:=C186.out r w' (hw' ▸ (HE.out.env.still (w':=w.iter s (pos+1)) ((Below.refl _ _).alloc (Nat.le_refl _) _)).marks)
       rw [HPR.out,hg] at this
       exact this
      clear hg
      go_wp2_with (first|(go_at_call 186;refine (D1.out _ rfl).mono ?_;rintro e w' ⟨rfl,rfl⟩))
      go_roundw
      case rel=>exact ⟨pos+1,rfl,HU1.out⟩
      case measure=>simp;omega
     ·have hg':pathB (s[pos]'hp)=false:=by simpa using hg
      have hno:s.data.toList.all pathB=false:=Upto.stop hp hg'
      have hn:isPathP s.data.toList=false:=by rw [HRES.out,hno];rfl
      have HN:=zh hn
      have D1:Hid (∀ w':World,w'=w.iter s (pos+d)→Calls Tryz.prog 186 #[.int .i32 r] w' fun e w''=>e=.returned (.bool false)∧w'=w''):=zh fun w' hw'=>by
       have:=C186.out r w' (hw' ▸ (HE.out.env.still (w':=w.iter s (pos+d)) ((Below.refl _ _).alloc (Nat.le_refl _) _)).marks)
       rw [HPR.out,hg'] at this
       exact this
      clear hg hg' hno hn
      go_wp2_with (first|(go_at_call 186;refine (D1.out _ rfl).mono ?_;rintro e w' ⟨rfl,rfl⟩))
      go_ret
      exact ⟨by rw [HN.out];rfl,(Below.refl _ _).alloc (Nat.le_refl _) _⟩
    ·have hnx:∀ ty,(Instr.next (.pointer (some ⟨w.heap.size,0,none⟩)) true ty).run Tryz.prog (w.iter s pos)=_:=fun ty=>run_next_end w s pos ty hp
     have hall:=HU.out.all hp
     obtain ⟨W1,hW1⟩:=zg (w.iter s pos)
     have HE1:Hid (EnvP W1):=zh (by rw [hW1];exact HE.out.still HBI.out)
     have hBW1:Below w.heap.size w W1:=by rw [hW1];exact HBI.out
     have HBW1:=zh hBW1
     obtain ⟨m,hm⟩:=HE1.out.env.maxLen
     have K95:=zh (split_any s 47 m W1 (by omega) hm)
     obtain ⟨ps,hps⟩:=zg (pcs 47 s.data.toList)
     rw [←hps] at K95
     obtain ⟨n,hn⟩:=zg (ps.length)
     rw [←hn] at K95
     have hr2:isPathP s.data.toList=(ps.all elemP && hostP (ps.headD []) && (majOf s.data.toList).2):=by rw [HRES.out,hall,hps];rfl
     have HR2:=zh hr2
     have hpsub:∀ p∈ps,p.length≤255∧Ascii ⟨p.toArray⟩:=fun p hp'=>by
      rw [hps] at hp'
      obtain ⟨q1,q2⟩:=pcs_sub 47 hp'
      refine ⟨by have:=HEL.out;omega,fun j b hb=>?_⟩
      have hb':b∈p:=List.mem_of_getElem? (l:=p) hb
      have:=List.all_eq_true.1 hall b (q2 b hb')
      simp only [pathB,pathN,Bool.or_eq_true,decide_eq_true_eq] at this
      omega
     have HPS:=zh hpsub
     have hnl:n≤1048577:=by
      rw [hn,hps,pcs_length]
      have h1:=List.count_le_length (a:=(47:UInt8)) (l:=s.data.toList)
      have:=HEL.out
      omega
     have hn1:1≤n:=by rw [hn,hps];exact List.length_pos_iff.2 (pcs_ne _ _)
     have hnI:(1:Int)≤n:=by omega
     have hnI2:(n:Int)≤1048577:=by omega
     have HNL:=zh hn
     have K130:Hid (∀ w',EnvP w'→Calls Tryz.prog 189 #[.string s] w' fun e w''=>e=.returned (.tuple #[.string ⟨(majOf s.data.toList).1.toArray⟩,.bool (majOf s.data.toList).2])∧Below w'.heap.size w' w''):=zh fun w' h=>majorOf_any s w' hsz h.env.maxLen
     obtain ⟨mj,hmj⟩:=zg ((majOf s.data.toList).1)
     obtain ⟨mok,hmok⟩:=zg ((majOf s.data.toList).2)
     rw [←hmj,←hmok] at K130
     rw [←hmok] at HR2
     have HW1:=zh hW1
     clear hall hW1 hm hps hn hr2 hpsub hnl hBW1 hmj hmok
     go_wp2_with fail
     rw [←HW1.out]
     refine K95.out.mono ?_
     rintro e W2 ⟨rfl,hW2⟩
     have hBW2:Below w.heap.size w W2:=by rw [hW2];exact below_trans HBW1.out ((Below.refl _ _).alloc (Nat.le_refl _) _)
     have HBW2:=zh hBW2
     have HE2:Hid (EnvP W2):=zh (HE.out.still hBW2)
     have hpc:∀ (j:Nat) p,ps[j]?=some p→W2.cell? ⟨W1.heap.size,j,none⟩=some (.string ⟨p.toArray⟩):=fun j p hj=>by
      rw [hW2,cell_of_row _ _ _ _ _ _ (heap_alloc_new _ _),List.getElem?_toArray,List.getElem?_map,hj]
      rfl
     have HPC:=zh hpc
     clear hW2 hBW2 hpc
     go_wp2_with fail
     go_loopw [27] (fun i wr=>∃ j:Nat,j≤n∧i=.int .i64 j∧Below W2.heap.size W2 wr∧(ps.take j).all elemP=true∧(0<j→hostP (ps.headD [])=true)) (fun i _=>n - (intOf i).toNat)
     case atStart=>exact ⟨0,Nat.zero_le _,rfl,Below.refl _ _,rfl,fun h=>absurd h (by omega)⟩
     case round =>
      obtain ⟨j,hj,rfl,hbel,hall,hhost⟩:=hrel
      have HBE:=zh hbel
      have HALL:=zh hall
      have HHOST:=zh hhost
      have hj0:(0:Int)≤j:=by omega
      have HER:Hid (EnvP wr):=zh (HE2.out.still HBE.out)
      clear hbel hall hhost
      by_cases hlt:j<n
      ·have hjI:(j:Int)<n:=by omega
       obtain ⟨p,hp'⟩:∃ p,ps[j]?=some p:=⟨_,List.getElem?_eq_getElem (by rw [←HNL.out];exact hlt)⟩
       have hpm:p∈ps:=List.mem_of_getElem? hp'
       obtain ⟨hp1,hp2⟩:=HPS.out p hpm
       have c1:=HPC.out j p hp'
       have c2:=(HBE.out.cell (p:=⟨W1.heap.size,j,none⟩) (World.block_lt_of_cell? _ _ c1)).trans c1
       have hps:(⟨p.toArray⟩:ByteArray).size≤1048576:=by simp [ByteArray.size];omega
       obtain ⟨be,hbe⟩:=zg (elemP p)
       obtain ⟨bh,hbh⟩:=zg (hostP p)
       have K187:Hid (∀ w',EnvP w'→Calls Tryz.prog 187 #[.string ⟨p.toArray⟩] w' fun e w''=>e=.returned (.bool be)∧Below w'.heap.size w' w''):=zh fun w' h=>by rw [hbe];exact isElement_any ⟨p.toArray⟩ w' hp2 hps h.env.maxLen h.devs
       have K188:Hid (∀ w',Calls Tryz.prog 188 #[.string ⟨p.toArray⟩] w' fun e w''=>e=.returned (.bool bh)∧Below w'.heap.size w' w''):=zh fun w'=>by rw [hbh];exact isHost_any ⟨p.toArray⟩ w' hp2
       have htk:(ps.take (j+1)).all elemP=be:=by
        have hl:j<ps.length:=by rw [←HNL.out];exact hlt
        have e:ps[j]'hl=p:=by rw [List.getElem?_eq_getElem hl] at hp';exact Option.some.inj hp'
        rw [List.take_succ_eq_append_getElem hl,List.all_append,HALL.out,e,hbe]
        simp
       have HTK:=zh htk
       have hhd:j=0→hostP (ps.headD [])=bh:=fun e0=>by
        subst e0
        rw [hbh]
        cases ps with
        | nil=>simp at hp'
        | cons a r=>simp at hp';subst hp';rfl
       have HHD:=zh hhd
       have hbad:be=false→isPathP s.data.toList=false:=fun h=>by
        rw [HR2.out]
        have:ps.all elemP=false:=by
         rw [List.all_eq_false]
         exact ⟨p,hpm,by rw [←hbe,h];simp⟩
        rw [this];rfl
       have hbad2:j=0→bh=false→isPathP s.data.toList=false:=fun h0 h=>by
        rw [HR2.out,hhd h0,h]
        simp
       have HBAD:=zh hbad
       have HBAD2:=zh hbad2
       have hbase:∀ w',Below wr.heap.size wr w'→Below w.heap.size w w':=fun w' h=>below_trans (below_trans HBW2.out HBE.out) h
       have HBASE:=zh hbase
       clear hp' hpm hp1 hp2 c1 hps hbe hbh htk hhd hbad hbad2 hbase
       cases be
       ·go_wp2_with (first|(go_at_call 187;refine (K187.out _ HER.out).mono ?_;rintro e w3 ⟨rfl,hb3⟩;have HB3:=zh hb3;clear hb3))
        go_ret
        exact ⟨by rw [HBAD.out (by trivial)];rfl,HBASE.out _ HB3.out⟩
       ·by_cases hz:j=0
        ·have z1:((j:Int) == 0)=true:=by simp;omega
         have HZ:=zh hz
         clear hz
         cases bh
         ·go_wp2_with (first
           | (go_at_call 187;refine (K187.out _ HER.out).mono ?_;rintro e w3 ⟨rfl,hb3⟩;have HB3:=zh hb3;clear hb3)
           | (go_at_call 188;refine (K188.out _).mono ?_;rintro e w4 ⟨rfl,hb4⟩;have HB4:=zh hb4;clear hb4))
          go_ret
          exact ⟨by rw [HBAD2.out HZ.out (by trivial)];rfl,HBASE.out _ (below_trans HB3.out HB4.out)⟩
         ·go_wp2_with (first
           | (go_at_call 187;refine (K187.out _ HER.out).mono ?_;rintro e w3 ⟨rfl,hb3⟩;have HB3:=zh hb3;clear hb3)
           | (go_at_call 188;refine (K188.out _).mono ?_;rintro e w4 ⟨rfl,hb4⟩;have HB4:=zh hb4;clear hb4))
          go_roundw
          case rel=>exact ⟨j+1,by omega,by go_num,below_trans HBE.out (below_trans HB3.out HB4.out),HTK.out,fun _=>HHD.out HZ.out⟩
          case measure=>simp [intOf];omega
        ·have z1:((j:Int) == 0)=false:=by simp;omega
         have HZ:=zh hz
         clear hz
         go_wp2_with (first
          | (go_at_call 187;refine (K187.out _ HER.out).mono ?_;rintro e w3 ⟨rfl,hb3⟩;have HB3:=zh hb3;clear hb3))
         go_roundw
         case rel=>exact ⟨j+1,by omega,by go_num,below_trans HBE.out HB3.out,HTK.out,fun _=>HHOST.out (by have:=HZ.out;omega)⟩
         case measure=>simp [intOf];omega
      ·have hjI:¬ (j:Int)<n:=by omega
       have hfin:isPathP s.data.toList=mok:=by
        have h1:=HALL.out
        rw [List.take_of_length_le (by rw [←HNL.out];omega)] at h1
        rw [HR2.out,h1,HHOST.out (by omega)]
        rfl
       have HFIN:=zh hfin
       clear hfin
       go_wp2_with (first
        | (go_at_call 189;refine (K130.out _ HER.out).mono ?_;rintro e w3 ⟨rfl,hb3⟩;have HB3:=zh hb3;clear hb3))
       go_ret
       exact ⟨by rw [HFIN.out];rfl,below_trans (below_trans HBW2.out HBE.out) HB3.out⟩
end Go.Proofs.YtdfdikpklddnhaaGreatDoor
