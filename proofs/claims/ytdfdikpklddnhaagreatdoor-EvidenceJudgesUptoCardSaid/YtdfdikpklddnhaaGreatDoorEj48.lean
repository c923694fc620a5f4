/- Of the proof of EvidenceJudges, second form: for values of bulk at most 1048576. (Ej48) -/
import Derived.Test.YtdfdikpklddnhaaGreatDoorEj01
import Derived.Test.YtdfdikpklddnhaaGreatDoorEj46
import Derived.Test.YtdfdikpklddnhaaGreatDoorEj47
import Derived.Deep.DeepCutAuto
import Derived.Deep.QuietTactic
import Derived.BigQuiet
namespace Go.Proofs.YtdfdikpklddnhaaGreatDoor
open Go.RowKit
set_option linter.unusedSimpArgs false
def ripeP (k:Int) (A B:List FactP) (p q:ByteArray) (link:List Bs):Bool :=
 findE k A p q == 0 && findE k B p q == 0 && finalE k A == 0 && finalE k B == 0 && !((rcdAt A (firstP p q A)).toList == (rcdAt B (firstP p q B)).toList) && (finalH k A).o.toList == (finalH k B).o.toList && linkedP k link (finalH k A) (finalH k B)
theorem find_zero {k:Int} {L:List FactP} {p q:ByteArray}:findE k L p q=0↔followE k L=0∧¬ firstP p q L<0:=by
 unfold findE
 by_cases h1:followE k L=0
 ·rw [if_neg (by simp [h1])]
  by_cases h2:firstP p q L<0
  ·rw [if_pos h2];simp [h2]
  ·rw [if_neg h2];simp [h1,h2]
 ·rw [if_pos h1];simp [h1]
theorem final_zero {k:Int} {L:List FactP}:finalE k L=0↔followE k L=0:=by
 unfold finalE
 by_cases h1:followE k L=0
 ·rw [if_pos h1];simp [h1]
 ·rw [if_neg h1];simp [h1]
theorem first_pos {L:List FactP} {p q:ByteArray} (h:¬ firstP p q L<0):0<(L.length:Int):=by
 obtain ⟨i,f,_,hf,_⟩:=firstP_at p q L h
 have:=(List.getElem?_eq_some_iff.1 hf).1
 omega
theorem ripe_judge (k:Int) (A B:List FactP) (p q:ByteArray) (link:List Bs):ripeP k A B p q link=true↔judgeE k A B p q link=0:=by
 unfold ripeP judgeE partB
 generalize ((rcdAt A (firstP p q A)).toList == (rcdAt B (firstP p q B)).toList)=d
 generalize ((finalH k A).o.toList == (finalH k B).o.toList)=e
 generalize linkedP k link (finalH k A) (finalH k B)=l
 have f1:=find_zero (k:=k) (L:=A) (p:=p) (q:=q)
 have f2:=find_zero (k:=k) (L:=B) (p:=p) (q:=q)
 have f3:=final_zero (k:=k) (L:=A)
 have f4:=final_zero (k:=k) (L:=B)
 have p1:¬ firstP p q A<0→0<(A.length:Int):=first_pos
 have p2:¬ firstP p q B<0→0<(B.length:Int):=first_pos
 generalize findE k A p q=a1 at *
 generalize findE k B p q=a2 at *
 generalize finalE k A=a3 at *
 generalize finalE k B=a4 at *
 generalize firstP p q A=i1 at *
 generalize firstP p q B=i2 at *
 generalize (A.length:Int)=n1 at *
 generalize (B.length:Int)=n2 at *
 by_cases h3:a3=0
 ·by_cases h4:a4=0
  ·by_cases h1:i1<0
   ·have:¬ (a1=0):=fun x=>(f1.1 x).2 h1
    simp [h3,h4,h1,this]
    split <;> simp
   ·by_cases h2:i2<0
    ·have:¬ (a2=0):=fun x=>(f2.1 x).2 h2
     simp [h3,h4,h2,this]
     split <;> simp
    ·have e1:a1=0:=f1.2 ⟨f3.1 h3,h1⟩
     have e2:a2=0:=f2.2 ⟨f4.1 h4,h2⟩
     have q1:=p1 h1
     have q2:=p2 h2
     cases d <;> cases e <;> cases l <;> simp [h3,h4,h1,h2,e1,e2,q1,q2]
  ·simp [h4]
 ·simp [h3]
theorem found_record {w:World} {base:Nat} {k:Int} {L:List FactP} {p q:ByteArray} {cs:Array Value} (h:Found w base k L p q cs) (hz:findE k L p q=0):cs[4]?=some (.string (rcdAt L (firstP p q L))):=by
 obtain ⟨i,f,pv,nv,h1,h2,h3,_⟩:=h.2.2.2 hz
 rw [h3,h1,List.getElem?_toArray]
 unfold rcdAt
 rw [Int.toNat_natCast,h2]
 rfl
theorem found_info {w:World} {base:Nat} {k:Int} {L:List FactP} {p q:ByteArray} {cs:Array Value} (h:Found w base k L p q cs):(Tryz.prog.info? 61).map (·.size)=some cs.size∧z75.size=cs.size∧cs.all (·.oneCell')=true:=⟨by rw [h.1];exact info61,by rw [h.1,z75_size],h.2.1⟩
theorem judged_info {w:World} {base:Nat} {k:Int} {A B:List FactP} {p q:ByteArray} {link:List Bs} {cs:Array Value} (h:Judged w base k A B p q link cs):(Tryz.prog.info? 39).map (·.size)=some cs.size∧z43.size=cs.size∧cs.all (·.oneCell')=true:=by
 by_cases hz:judgeE k A B p q link=0
 ·obtain ⟨i,j,f1,f2,V,_,_,_,_,_,_,_,hv⟩:=h.2 hz
  have:=hv.in
  exact ⟨by rw [this.size];exact info39,by rw [this.size,z43_size],this.one⟩
 ·rw [h.1 hz]
  exact ⟨by rw [z43_size];exact info39,rfl,z43_one⟩
theorem VerOwn.mv {w w':World} {B:Nat} {cs:Array Value} (hm:Mv (fun _=>False) w w'):∀ {V:VerdP},VerOwn w B cs V→VerOwn w' B cs V
 | .pair _ _,⟨p,q,h1,h2,h3⟩=>⟨p,q,h1,owns_mv h2 hm (fun _ _ _ h=>h),owns_mv h3 hm (fun _ _ _ h=>h)⟩
 | .twice _ _ _ _ _ _ _,⟨va,vb,h1,h2,h3,h4,h5,h6,h7,h8⟩=>⟨va,vb,h1,h2,h3,h4,h5,h6,owns_mv h7 hm (fun _ _ _ h=>h),owns_mv h8 hm (fun _ _ _ h=>h)⟩
theorem VerOwn.low {w:World} {B:Nat} {cs:Array Value}:∀ {V:VerdP},VerOwn w B cs V→VerOwn w 0 cs V
 | .pair _ _,⟨p,q,h1,h2,h3⟩=>⟨p,q,h1,owns_mono h2 (Nat.zero_le _),owns_mono h3 (Nat.zero_le _)⟩
 | .twice _ _ _ _ _ _ _,⟨va,vb,h1,h2,h3,h4,h5,h6,h7,h8⟩=>⟨va,vb,h1,h2,h3,h4,h5,h6,owns_mono h7 (Nat.zero_le _),owns_mono h8 (Nat.zero_le _)⟩
theorem judged_own {w w':World} {base:Nat} {k:Int} {A B:List FactP} {p q:ByteArray} {link:List Bs} {cs:Array Value} {av bv:Value} (h:Judged w' base k A B p q link cs) (hA:FactsIn w av A) (hB:FactsIn w bv B) (hl:∀ x∈link,x.length=32) (hz:judgeE k A B p q link=0):∃ V,VerOwn w' base cs V∧V.Good k p.data.toList q.data.toList:=by
 obtain ⟨i,j,f1,f2,V,hi,hj,hfi,hfj,hk1,hk2,hjr,hv⟩:=h.2 hz
 have hr:=(ripe_judge k A B p q link).2 hz
 unfold ripeP at hr
 simp only [Bool.and_eq_true,beq_iff_eq,Bool.not_eq_true'] at hr
 obtain ⟨⟨⟨⟨⟨⟨_,_⟩,h3⟩,h4⟩,h5⟩,_⟩,h7⟩:=hr
 have hne:f1.rcd.data.toList≠f2.rcd.data.toList:=by
  rw [hi,hj] at h5
  unfold rcdAt at h5
  rw [Int.toNat_natCast,Int.toNat_natCast,hfi,hfj] at h5
  simp only at h5
  rw [ByteArray.toList_eq,ByteArray.toList_eq] at h5
  exact fun e=>by rw [e] at h5;simp at h5
 exact ⟨V,hv,judged_law (finalH_len k A hA.ok) (finalH_len k B hB.ok) hl (side_law k p q A _ _ _ i f1 hA.whole (final_good h3) hfi hk1) (side_law k p q B _ _ _ j f2 hB.whole (final_good h4) hfj hk2) h7 hne hjr⟩
set_option maxRecDepth 100000 in
set_option maxHeartbeats 12800000 in
theorem judges_walk (k:Int) (av bv lv:Value) (p q:ByteArray) (A B:List FactP) (link:List Bs) (w:World) (hA:FactsArg w av A) (bA:A.length≤1048576) (nA:∀ f∈A,f.note.length≤1048576) (xA:∀ f∈A,∀ x∈f.proof,x.length=32)
  (hB:FactsArg w bv B) (bB:B.length≤1048576) (nB:∀ f∈B,f.note.length≤1048576) (xB:∀ f∈B,∀ x∈f.proof,x.length=32) (hL:HsArg w lv link) (bL:link.length≤1048576) (xL:∀ x∈link,x.length=32) (he:EnvH w) (henv:EnvP w) :
  Calls Tryz.prog 5 #[.agg (caseC k av bv p q lv)] w fun e w'=>e=.returned (.bool true)∧Mv (fun _=>False) w w':=by
 obtain ⟨nA',hnA'⟩:=zg (A.length)
 obtain ⟨nB',hnB'⟩:=zg (B.length)
 obtain ⟨nL',hnL'⟩:=zg (link.length)
 have HCA:Hid (∀ W,Mv (fun _=>False) w W→Calls Tryz.prog 18 #[av] W fun e w'=>∃ fa fc,e=.returned (.slice fa nA' fc)∧FactsIn w' (.slice fa nA' fc) A∧Mv (fun _=>False) W w'):=zh fun W hW=>by
  have hok:∀ f∈A,f.Ok∧f.Small∧∀ x∈f.proof,x.length=32:=fun f hf=>by
   obtain ⟨a,c,_,_,h3⟩:=hA
   obtain ⟨j,hj⟩:=List.mem_iff_getElem?.1 hf
   obtain ⟨g,off,_,hfi⟩:=h3 j f hj
   exact ⟨hfi.1,hfi.2.1,xA f hf⟩
  refine (facts_any av A W (hA.mv hW) bA nA).mono ?_
  rintro e w' ⟨fv,ps,rfl,hown,hm⟩
  have hin:=hown.in hok
  obtain ⟨fa,fc,hfv,hr⟩:=hin
  refine ⟨fa,fc,by rw [hfv,hnA'],⟨fa,fc,by rw [hnA'],hr⟩,hm⟩
 have HCB:Hid (∀ W,Mv (fun _=>False) w W→Calls Tryz.prog 18 #[bv] W fun e w'=>∃ fa fc,e=.returned (.slice fa nB' fc)∧FactsIn w' (.slice fa nB' fc) B∧Mv (fun _=>False) W w'):=zh fun W hW=>by
  have hok:∀ f∈B,f.Ok∧f.Small∧∀ x∈f.proof,x.length=32:=fun f hf=>by
   obtain ⟨a,c,_,_,h3⟩:=hB
   obtain ⟨j,hj⟩:=List.mem_iff_getElem?.1 hf
   obtain ⟨g,off,_,hfi⟩:=h3 j f hj
   exact ⟨hfi.1,hfi.2.1,xB f hf⟩
  refine (facts_any bv B W (hB.mv hW) bB nB).mono ?_
  rintro e w' ⟨fv,ps,rfl,hown,hm⟩
  have hin:=hown.in hok
  obtain ⟨fa,fc,hfv,hr⟩:=hin
  refine ⟨fa,fc,by rw [hfv,hnB'],⟨fa,fc,by rw [hnB'],hr⟩,hm⟩
 have HCL:Hid (∀ W,Mv (fun _=>False) w W→Calls Tryz.prog 27 #[lv] W fun e w'=>∃ ha hc,e=.returned (.slice ha nL' hc)∧HsIn w' (.slice ha nL' hc) link∧Mv (fun _=>False) W w'):=zh fun W hW=>by
  refine (hashes_any lv link W (hL.mv hW (fun _ _ h=>h)) bL).mono ?_
  rintro e w' ⟨v,rfl,hown,hm⟩
  obtain ⟨a,c,rfl⟩:=owns_shape hown
  exact ⟨a,c,by rw [hnL'],by rw [hnL'];exact HsIn.of_owns xL hown,hm⟩
 obtain ⟨E,hE⟩:=zg (judgeE k A B p q link)
 have HJU:Hid (∀ W (fa ga ha:Option Addr) (fc gc hc:Nat),Mv (fun _=>False) w W→FactsIn W (.slice fa nA' fc) A→FactsIn W (.slice ga nB' gc) B→HsIn W (.slice ha nL' hc) link→Calls Tryz.prog 26 #[.int .i64 k,.slice fa nA' fc,.slice ga nB' gc,.string p,.string q,.slice ha nL' hc] W fun e w'=>∃ cs,e=.returned (.tuple #[.agg cs,.int .i64 E])∧Judged w' W.heap.size k A B p q link cs∧Mv (fun _=>False) W w'):=zh fun W fa ga ha fc gc hc hW h1 h2 h3=>by
  rw [hE];exact judge_any k _ _ _ A B p q link W h1 h2 h3 bA bB bL (he.mv hW (fun _ h=>h.elim)) (henv.mv hW)
 obtain ⟨fe1,hfe1⟩:=zg (findE k A p q)
 obtain ⟨fe2,hfe2⟩:=zg (findE k B p q)
 obtain ⟨ge1,hge1⟩:=zg (finalE k A)
 obtain ⟨ge2,hge2⟩:=zg (finalE k B)
 obtain ⟨xh,hxh⟩:=zg (finalH k A)
 obtain ⟨yh,hyh⟩:=zg (finalH k B)
 obtain ⟨xv,hxv⟩:=zg (xh.V.toArray)
 obtain ⟨yv,hyv⟩:=zg (yh.V.toArray)
 have HFIA:Hid (∀ W (fa:Option Addr) (fc:Nat),Mv (fun _=>False) w W→FactsIn W (.slice fa nA' fc) A→Calls Tryz.prog 21 #[.int .i64 k,.slice fa nA' fc,.string p,.string q] W fun e w'=>∃ cs,e=.returned (.tuple #[.agg cs,.int .i64 fe1])∧Found w' W.heap.size k A p q cs∧Mv (fun _=>False) W w'):=zh fun W fa fc hW h1=>by
  rw [hfe1];exact find_any k _ A p q W h1 bA nA (he.mv hW (fun _ h=>h.elim)) (henv.mv hW)
 have HFIB:Hid (∀ W (fa:Option Addr) (fc:Nat),Mv (fun _=>False) w W→FactsIn W (.slice fa nB' fc) B→Calls Tryz.prog 21 #[.int .i64 k,.slice fa nB' fc,.string p,.string q] W fun e w'=>∃ cs,e=.returned (.tuple #[.agg cs,.int .i64 fe2])∧Found w' W.heap.size k B p q cs∧Mv (fun _=>False) W w'):=zh fun W fa fc hW h1=>by
  rw [hfe2];exact find_any k _ B p q W h1 bB nB (he.mv hW (fun _ h=>h.elim)) (henv.mv hW)
 have HGIA:Hid (∀ W (fa:Option Addr) (fc:Nat),Mv (fun _=>False) w W→FactsIn W (.slice fa nA' fc) A→Calls Tryz.prog 20 #[.int .i64 k,.slice fa nA' fc] W fun e w'=>e=.returned (.tuple #[.agg xv,.int .i64 ge1])∧Mv (fun _=>False) W w'):=zh fun W fa fc hW h1=>by
  rw [hge1,hxv,hxh];exact final_any k _ A W h1 (he.mv hW (fun _ h=>h.elim)) (henv.mv hW)
 have HGIB:Hid (∀ W (fa:Option Addr) (fc:Nat),Mv (fun _=>False) w W→FactsIn W (.slice fa nB' fc) B→Calls Tryz.prog 20 #[.int .i64 k,.slice fa nB' fc] W fun e w'=>e=.returned (.tuple #[.agg yv,.int .i64 ge2])∧Mv (fun _=>False) W w'):=zh fun W fa fc hW h1=>by
  rw [hge2,hyv,hyh];exact final_any k _ B W h1 (he.mv hW (fun _ h=>h.elim)) (henv.mv hW)
 have HOKA:Hid (∀ f∈A,f.Ok):=zh fun f hf=>by
  obtain ⟨a,c,_,_,h3⟩:=hA
  obtain ⟨j,hj⟩:=List.mem_iff_getElem?.1 hf
  obtain ⟨g,off,_,hfi⟩:=h3 j f hj
  exact hfi.1
 have HOKB:Hid (∀ f∈B,f.Ok):=zh fun f hf=>by
  obtain ⟨a,c,_,_,h3⟩:=hB
  obtain ⟨j,hj⟩:=List.mem_iff_getElem?.1 hf
  obtain ⟨g,off,_,hfi⟩:=h3 j f hj
  exact hfi.1
 have hxr:xh.root.length=32:=by rw [hxh];exact finalH_len k A HOKA.out
 have hyr:yh.root.length=32:=by rw [hyh];exact finalH_len k B HOKB.out
 obtain ⟨lk,hlk⟩:=zg (linkedP k link xh yh)
 have HTOG:Hid (∀ W (ha:Option Addr) (hc:Nat),Mv (fun _=>False) w W→HsIn W (.slice ha nL' hc) link→Calls Tryz.prog 28 #[.int .i64 k,.slice ha nL' hc,.agg xv,.agg yv] W fun e w'=>e=.returned (.bool lk)∧Mv (fun _=>False) W w'):=zh fun W ha hc hW h1=>by
  rw [hlk,hxv,hyv];exact together_any k _ link xh yh W h1 hxr hyr (he.mv hW (fun _ h=>h.elim))
 obtain ⟨ra,hra⟩:=zg (rcdAt A (firstP p q A))
 obtain ⟨rb,hrb⟩:=zg (rcdAt B (firstP p q B))
 obtain ⟨d5,hd5⟩:=zg ((ra.toList == rb.toList))
 obtain ⟨d6,hd6⟩:=zg ((xh.o.toList == yh.o.toList))
 have HRIPE:Hid ((fe1 == 0 && fe2 == 0 && ge1 == 0 && ge2 == 0 && !d5 && d6 && lk)=true↔E=0):=zh (by rw [hE,hfe1,hfe2,hge1,hge2,hd5,hd6,hlk,hra,hrb,hxh,hyh];exact ripe_judge k A B p q link)
 have HHI:Hid ((Tryz.prog.info? 36).map (·.size)=some xv.size∧34=xv.size∧xv.all (·.oneCell')=true):=zh (by rw [hxv];exact ⟨by rw [List.size_toArray,HeadP.V_len _ hxr];exact info36,by rw [List.size_toArray,HeadP.V_len _ hxr],head_one _⟩)
 have HHY:Hid ((Tryz.prog.info? 36).map (·.size)=some yv.size∧34=yv.size∧yv.all (·.oneCell')=true):=zh (by rw [hyv];exact ⟨by rw [List.size_toArray,HeadP.V_len _ hyr];exact info36,by rw [List.size_toArray,HeadP.V_len _ hyr],head_one _⟩)
 have HX0:Hid (xv[0]?=some (.string xh.o)):=zh (by rw [hxv];rfl)
 have HY0:Hid (yv[0]?=some (.string yh.o)):=zh (by rw [hyv];rfl)
 have HFE1:=zh hfe1
 have HFE2:=zh hfe2
 have HEE:=zh hE
 have HRA:=zh hra
 have HRB:=zh hrb
 have HD5:=zh hd5
 have HD6:=zh hd6
 have HXL:=zh xL
 have HE:=zh he
 have HENV:=zh henv
 obtain ⟨cc,hcc⟩:=zg (caseC k av bv p q lv)
 rw [←hcc]
 have HCC:=zh hcc
 clear hA bA nA xA hB bB nB xB hL bL xL he henv hE hfe1 hfe2 hge1 hge2 hxh hyh hxv hyv hxr hyr hlk hra hrb hd5 hd6 hcc hnA' hnB' hnL'
 go_enter Tryz.func5,Tryz.ntmps5
 go_upto_region 1 with fail
 obtain ⟨C,hC⟩:=zg (w.heap.size)
 have h1:(w.alloc (.cells cc 25)).heap[C]?=some (.cells cc 25 (0,0)):=by rw [hC];exact heap_alloc_new _ _
 have m1:Mv (fun _=>False) w (w.alloc (.cells cc 25)):=(Mv.refl _ _).alloc _
 rw [←hC]
 generalize w.alloc (.cells cc 25)=w1 at h1 m1 ⊢
 have C1:=zh h1
 have M1:=zh m1
 have HRC:Hid (∀ W:World,W.heap[C]?=some (.cells cc 25 (0,0))→W.cell? ⟨C,0,none⟩=some (.int .i64 k)∧W.cell? ⟨C,1,none⟩=some av∧W.cell? ⟨C,2,none⟩=some bv∧W.cell? ⟨C,3,none⟩=some (.string p)∧W.cell? ⟨C,4,none⟩=some (.string q)∧W.cell? ⟨C,5,none⟩=some lv):=zh fun W hW=>by
  rw [HCC.out] at hW
  exact ⟨cell_of_heap hW 0 rfl,cell_of_heap hW 1 rfl,cell_of_heap hW 2 rfl,cell_of_heap hW 3 rfl,cell_of_heap hW 4 rfl,cell_of_heap hW 5 rfl⟩
 obtain ⟨k0,k1,k2,k3,k4,k5⟩:=HRC.out _ h1
 clear hC h1 m1
 go_upto_region 3 with (first|(go_at_call 17;refine (lawStart_any k w1 (HE.out.mv M1.out (fun _ h=>h.elim)) (HENV.out.mv M1.out)).mono ?_;rintro e w2 ⟨rfl,hm2⟩;have M2:=zh (M1.out.trans hm2);have C2:=zbl hm2 C1;clear hm2))
 clear k0 k1 k2 k3 k4 k5
 go_cut [3,4] (fun s3 s4 wx=>∃ A3 cs,s3=.pointer (some ⟨A3,0,none⟩)∧s4=.int .i64 E∧wx.heap[A3]?=some (.cells cs 39 (0,0))∧cs.size=43∧(E≠0→cs=z43)∧(E=0→∃ V,VerIn wx cs V∧V.Good k p.data.toList q.data.toList)∧Mv (fun _=>False) w2 wx)
 case first =>
  as_aux_lemma =>
   refine wp_region_noPanic ?_
   refine wp_region_held_drew (S:=(fun w'=>Mv (fun _=>False) w2 w')) (by kernel_rfl) ((Mv.refl _ _).drew) (fun hHeld=>?_)
   refine zt 0 (.pointer (some ⟨C,0,none⟩)) rfl (fun _ hS=>by go_simp) hHeld ?_
   try walk_nrm
   refine zt 1 (.int .i64 k) rfl (fun _ hS=>by have kk:=HRC.out _ ((Mv.block hS C (lt_of_heap C2.out) id).trans C2.out);have kc:=kk.1;go_simp) hHeld ?_
   try walk_nrm
   refine zt 2 (.pointer (some ⟨C,1,none⟩)) rfl (fun _ hS=>by go_simp) hHeld ?_
   try walk_nrm
   refine zt 3 av rfl (fun _ hS=>by have kk:=HRC.out _ ((Mv.block hS C (lt_of_heap C2.out) id).trans C2.out);have kc:=kk.2.1;go_simp) hHeld ?_
   try walk_nrm
   refine zt 5 (.pointer (some ⟨C,2,none⟩)) rfl (fun _ hS=>by go_simp) hHeld ?_
   try walk_nrm
   refine zt 6 bv rfl (fun _ hS=>by have kk:=HRC.out _ ((Mv.block hS C (lt_of_heap C2.out) id).trans C2.out);have kc:=kk.2.2.1;go_simp) hHeld ?_
   try walk_nrm
   refine zt 8 (.pointer (some ⟨C,3,none⟩)) rfl (fun _ hS=>by go_simp) hHeld ?_
   try walk_nrm
   refine zt 9 (.string p) rfl (fun _ hS=>by have kk:=HRC.out _ ((Mv.block hS C (lt_of_heap C2.out) id).trans C2.out);have kc:=kk.2.2.2.1;go_simp) hHeld ?_
   try walk_nrm
   refine zt 10 (.pointer (some ⟨C,4,none⟩)) rfl (fun _ hS=>by go_simp) hHeld ?_
   try walk_nrm
   refine zt 11 (.string q) rfl (fun _ hS=>by have kk:=HRC.out _ ((Mv.block hS C (lt_of_heap C2.out) id).trans C2.out);have kc:=kk.2.2.2.2.1;go_simp) hHeld ?_
   try walk_nrm
   refine zt 12 (.pointer (some ⟨C,5,none⟩)) rfl (fun _ hS=>by go_simp) hHeld ?_
   try walk_nrm
   refine zt 13 lv rfl (fun _ hS=>by have kk:=HRC.out _ ((Mv.block hS C (lt_of_heap C2.out) id).trans C2.out);have kc:=kk.2.2.2.2.2;go_simp) hHeld ?_
   try walk_nrm
   refine wpAnyH_ready (rs:=[4,19]) (by kernel_rfl) (by simp) (AllReadyH.cons rfl (fun K' hK=>?n3xr4) (AllReadyH.cons rfl (fun K' hK=>?n3xr19) AllReadyH.nil))
   case n3xr4 =>
    rw [if_pos (by rfl)]
    unfold Oper.wp execOp
    go_simp
    refine (HCA.out w2.drew (M2.out.trans hHeld)).mono ?_
    rintro e w3x0x4 ⟨fa,fac,rfl,hf,hm⟩
    have FA:=zh hf
    clear hf
    have hs:=hHeld.trans hm
    clear hm
    refine hK.out _ _ hs (fun hHeld=>?_)
    clear hK K'
    try walk_nrm
    clear hs
    refine wpAnyH_ready (rs:=[7,19]) (by kernel_rfl) (by simp) (AllReadyH.cons rfl (fun K' hK=>?n3x4r7) (AllReadyH.cons rfl (fun K' hK=>?n3x4r19) AllReadyH.nil))
    case n3x4r7 =>
     rw [if_pos (by rfl)]
     unfold Oper.wp execOp
     go_simp
     refine (HCB.out w3x0x4 (M2.out.trans hHeld)).mono ?_
     rintro e w3x1x7 ⟨fb,fbc,rfl,hf,hm⟩
     have FB:=zh hf
     clear hf
     have hs:=hHeld.trans hm
     have FA:=zh (FA.out.mv hm)
     clear hm
     refine hK.out _ _ hs (fun hHeld=>?_)
     clear hK K'
     try walk_nrm
     clear hs
     refine wpAnyH_ready (rs:=[14,19]) (by kernel_rfl) (by simp) (AllReadyH.cons rfl (fun K' hK=>?n3x4x7r14) (AllReadyH.cons rfl (fun K' hK=>?n3x4x7r19) AllReadyH.nil))
     case n3x4x7r14 =>
      rw [if_pos (by rfl)]
      unfold Oper.wp execOp
      go_simp
      refine (HCL.out w3x1x7 (M2.out.trans hHeld)).mono ?_
      rintro e w3x2x14 ⟨fl,flc,rfl,hf,hm⟩
      have FL:=zh hf
      clear hf
      have hs:=hHeld.trans hm
      have FA:=zh (FA.out.mv hm)
      have FB:=zh (FB.out.mv hm)
      clear hm
      refine hK.out _ _ hs (fun hHeld=>?_)
      clear hK K'
      try walk_nrm
      clear hs
      refine wpAnyH_ready (rs:=[15,19]) (by kernel_rfl) (by simp) (AllReadyH.cons rfl (fun K' hK=>?n3x4x7x14r15) (AllReadyH.cons rfl (fun K' hK=>?n3x4x7x14r19) AllReadyH.nil))
      case n3x4x7x14r15 =>
       rw [if_pos (by rfl)]
       unfold Oper.wp execOp
       go_simp
       refine (HJU.out w3x2x14 fa fb fl fac fbc flc (M2.out.trans hHeld) FA.out FB.out FL.out).mono ?_
       rintro e w3x3x15 ⟨cs,rfl,hj,hm⟩
       have HJI:=zh (judged_info hj)
       have HJV:Hid (E=0→∃ V,VerOwn w3x3x15 0 cs V∧V.Good k p.data.toList q.data.toList):=zh fun hz=>by
        obtain ⟨V,h1,h2⟩:=judged_own hj FA.out FB.out HXL.out (by rw [←HEE.out];exact hz)
        exact ⟨V,h1.low,h2⟩
       have HJZ:Hid (E≠0→cs=z43):=zh fun hz=>hj.1 (by rw [←HEE.out];exact hz)
       have HJB:Hid (w2.heap.size≤w3x2x14.heap.size):=zh hHeld.size
       clear hj
       have hs:=hHeld.trans hm
       have FA:=zh (FA.out.mv hm)
       have FB:=zh (FB.out.mv hm)
       have FL:=zh (FL.out.mv hm (fun _ _ h=>h))
       clear hm
       refine hK.out _ _ hs (fun hHeld=>?_)
       clear hK K'
       try walk_nrm
       clear hs
       refine zt 16 (.tuple #[.agg cs,.int .i64 E]) rfl (fun _ hS=>by go_simp) hHeld ?_
       try walk_nrm
       refine zt 17 (.agg cs) rfl (fun _ hS=>by go_simp) hHeld ?_
       try walk_nrm
       refine zt 18 (.int .i64 E) rfl (fun _ hS=>by go_simp) hHeld ?_
       try walk_nrm
       refine zo 19 rfl fun K' hK=>?_
       unfold Oper.wp execOp
       go_simp
       generalize hWZ:World.alloc w3x3x15 _=w3x4x19
       have hm:Mv (fun _=>False) w3x3x15 w3x4x19:=by rw [←hWZ];exact (Mv.refl _ _).alloc _
       have hb:w3x4x19.heap[w3x3x15.heap.size]?=some (.cells z43 39 (0,0)):=by rw [←hWZ];exact heap_alloc_new w3x3x15 _
       obtain ⟨A3,hA3⟩:=zg (w3x3x15.heap.size)
       have HA3:Hid (w2.heap.size≤A3):=zh (by rw [hA3];exact hHeld.size)
       rw [←hA3] at hb ⊢
       have ZA3:=zh hb
       clear hb hA3 hWZ
       have hs:=hHeld.trans hm
       have FA:=zh (FA.out.mv hm)
       have FB:=zh (FB.out.mv hm)
       have FL:=zh (FL.out.mv hm (fun _ _ h=>h))
       have HJV:Hid (E=0→∃ V,VerOwn w3x4x19 0 cs V∧V.Good k p.data.toList q.data.toList):=zh (fun hz=>by obtain ⟨V,h1,h2⟩:=HJV.out hz;exact ⟨V,h1.mv hm,h2⟩)
       clear hm
       refine hK.out _ _ hs (fun hHeld=>?_)
       clear hK K'
       try walk_nrm
       clear hs
       refine zo 20 rfl fun K' hK=>?_
       refine wp_store_row 39 (.tmp 3) (.tmp 35) rfl A3 cs rfl rfl 39 z43 ZA3.out HJI.out.1 HJI.out.2.1 HJI.out.2.2 ?_
       have hb3:=setRow_heap _ _ _ cs _ _ ZA3.out
       have hs:=hHeld.setRow (.inr HA3.out) cs
       have hv3:E=0→∃ V,VerIn (w3x4x19.setRow A3 cs) cs V∧V.Good k p.data.toList q.data.toList:=fun hz=>by
        obtain ⟨V,h1,h2⟩:=HJV.out hz
        exact ⟨V,(VerOwn.row ZA3.out (Nat.le_refl _) h1).in,h2⟩
       generalize w3x4x19.setRow A3 cs=wz at hs hb3 hv3 ⊢
       have HB3:=zh hb3
       have HV3:=zh hv3
       have HMZ:=zh hs
       clear hb3 hv3
       refine hK.out _ _ hs (fun hHeld=>?_)
       clear hK K'
       try walk_nrm
       clear hs
       refine zt 21 (.int .i64 E) rfl (fun _ hS=>by go_simp) hHeld ?_
       try walk_nrm
       refine zd ?_
       go_wp2_with fail
       go_meet
       exact ⟨A3,cs,rfl,rfl,HB3.out,by have:=HJI.out.2.1;rw [z43_size] at this;exact this.symm,HJZ.out,HV3.out,HMZ.out⟩
      case n3x4x7x14r19 =>
       rw [if_pos (by rfl)]
       unfold Oper.wp execOp
       go_simp
       generalize hWZ:World.alloc w3x2x14 _=w3x3x19
       have hm:Mv (fun _=>False) w3x2x14 w3x3x19:=by rw [←hWZ];exact (Mv.refl _ _).alloc _
       have hb:w3x3x19.heap[w3x2x14.heap.size]?=some (.cells z43 39 (0,0)):=by rw [←hWZ];exact heap_alloc_new w3x2x14 _
       obtain ⟨A3,hA3⟩:=zg (w3x2x14.heap.size)
       have HA3:Hid (w2.heap.size≤A3):=zh (by rw [hA3];exact hHeld.size)
       rw [←hA3] at hb ⊢
       have ZA3:=zh hb
       clear hb hA3 hWZ
       have hs:=hHeld.trans hm
       have FA:=zh (FA.out.mv hm)
       have FB:=zh (FB.out.mv hm)
       have FL:=zh (FL.out.mv hm (fun _ _ h=>h))
       clear hm
       refine hK.out _ _ hs (fun hHeld=>?_)
       clear hK K'
       try walk_nrm
       clear hs
       refine zo 15 rfl fun K' hK=>?_
       unfold Oper.wp execOp
       go_simp
       refine (HJU.out w3x3x19 fa fb fl fac fbc flc (M2.out.trans hHeld) FA.out FB.out FL.out).mono ?_
       rintro e w3x4x15 ⟨cs,rfl,hj,hm⟩
       have HJI:=zh (judged_info hj)
       have HJV:Hid (E=0→∃ V,VerOwn w3x4x15 0 cs V∧V.Good k p.data.toList q.data.toList):=zh fun hz=>by
        obtain ⟨V,h1,h2⟩:=judged_own hj FA.out FB.out HXL.out (by rw [←HEE.out];exact hz)
        exact ⟨V,h1.low,h2⟩
       have HJZ:Hid (E≠0→cs=z43):=zh fun hz=>hj.1 (by rw [←HEE.out];exact hz)
       have HJB:Hid (w2.heap.size≤w3x3x19.heap.size):=zh hHeld.size
       clear hj
       have hs:=hHeld.trans hm
       have FA:=zh (FA.out.mv hm)
       have FB:=zh (FB.out.mv hm)
       have FL:=zh (FL.out.mv hm (fun _ _ h=>h))
       have ZA3:=zbl hm ZA3
       clear hm
       refine hK.out _ _ hs (fun hHeld=>?_)
       clear hK K'
       try walk_nrm
       clear hs
       refine zt 16 (.tuple #[.agg cs,.int .i64 E]) rfl (fun _ hS=>by go_simp) hHeld ?_
       try walk_nrm
       refine zt 17 (.agg cs) rfl (fun _ hS=>by go_simp) hHeld ?_
       try walk_nrm
       refine zt 18 (.int .i64 E) rfl (fun _ hS=>by go_simp) hHeld ?_
       try walk_nrm
       refine zo 20 rfl fun K' hK=>?_
       refine wp_store_row 39 (.tmp 3) (.tmp 35) rfl A3 cs rfl rfl 39 z43 ZA3.out HJI.out.1 HJI.out.2.1 HJI.out.2.2 ?_
       have hb3:=setRow_heap _ _ _ cs _ _ ZA3.out
       have hs:=hHeld.setRow (.inr HA3.out) cs
       have hv3:E=0→∃ V,VerIn (w3x4x15.setRow A3 cs) cs V∧V.Good k p.data.toList q.data.toList:=fun hz=>by
        obtain ⟨V,h1,h2⟩:=HJV.out hz
        exact ⟨V,(VerOwn.row ZA3.out (Nat.le_refl _) h1).in,h2⟩
       generalize w3x4x15.setRow A3 cs=wz at hs hb3 hv3 ⊢
       have HB3:=zh hb3
       have HV3:=zh hv3
       have HMZ:=zh hs
       clear hb3 hv3
       refine hK.out _ _ hs (fun hHeld=>?_)
       clear hK K'
       try walk_nrm
       clear hs
       refine zt 21 (.int .i64 E) rfl (fun _ hS=>by go_simp) hHeld ?_
       try walk_nrm
       refine zd ?_
       go_wp2_with fail
       go_meet
       exact ⟨A3,cs,rfl,rfl,HB3.out,by have:=HJI.out.2.1;rw [z43_size] at this;exact this.symm,HJZ.out,HV3.out,HMZ.out⟩
     case n3x4x7r19 =>
      rw [if_pos (by rfl)]
      unfold Oper.wp execOp
      go_simp
      generalize hWZ:World.alloc w3x1x7 _=w3x2x19
      have hm:Mv (fun _=>False) w3x1x7 w3x2x19:=by rw [←hWZ];exact (Mv.refl _ _).alloc _
      have hb:w3x2x19.heap[w3x1x7.heap.size]?=some (.cells z43 39 (0,0)):=by rw [←hWZ];exact heap_alloc_new w3x1x7 _
      obtain ⟨A3,hA3⟩:=zg (w3x1x7.heap.size)
      have HA3:Hid (w2.heap.size≤A3):=zh (by rw [hA3];exact hHeld.size)
      rw [←hA3] at hb ⊢
      have ZA3:=zh hb
      clear hb hA3 hWZ
      have hs:=hHeld.trans hm
      have FA:=zh (FA.out.mv hm)
      have FB:=zh (FB.out.mv hm)
      clear hm
      refine hK.out _ _ hs (fun hHeld=>?_)
      clear hK K'
      try walk_nrm
      clear hs
      refine zo 14 rfl fun K' hK=>?_
      unfold Oper.wp execOp
      go_simp
      refine (HCL.out w3x2x19 (M2.out.trans hHeld)).mono ?_
      rintro e w3x3x14 ⟨fl,flc,rfl,hf,hm⟩
      have FL:=zh hf
      clear hf
      have hs:=hHeld.trans hm
      have FA:=zh (FA.out.mv hm)
      have FB:=zh (FB.out.mv hm)
      have ZA3:=zbl hm ZA3
      clear hm
      refine hK.out _ _ hs (fun hHeld=>?_)
      clear hK K'
      try walk_nrm
      clear hs
      refine zo 15 rfl fun K' hK=>?_
      unfold Oper.wp execOp
      go_simp
      refine (HJU.out w3x3x14 fa fb fl fac fbc flc (M2.out.trans hHeld) FA.out FB.out FL.out).mono ?_
      rintro e w3x4x15 ⟨cs,rfl,hj,hm⟩
      have HJI:=zh (judged_info hj)
      have HJV:Hid (E=0→∃ V,VerOwn w3x4x15 0 cs V∧V.Good k p.data.toList q.data.toList):=zh fun hz=>by
       obtain ⟨V,h1,h2⟩:=judged_own hj FA.out FB.out HXL.out (by rw [←HEE.out];exact hz)
       exact ⟨V,h1.low,h2⟩
      have HJZ:Hid (E≠0→cs=z43):=zh fun hz=>hj.1 (by rw [←HEE.out];exact hz)
      have HJB:Hid (w2.heap.size≤w3x3x14.heap.size):=zh hHeld.size
      clear hj
      have hs:=hHeld.trans hm
      have FA:=zh (FA.out.mv hm)
      have FB:=zh (FB.out.mv hm)
      have FL:=zh (FL.out.mv hm (fun _ _ h=>h))
      have ZA3:=zbl hm ZA3
      clear hm
      refine hK.out _ _ hs (fun hHeld=>?_)
      clear hK K'
      try walk_nrm
      clear hs
      refine zt 16 (.tuple #[.agg cs,.int .i64 E]) rfl (fun _ hS=>by go_simp) hHeld ?_
      try walk_nrm
      refine zt 17 (.agg cs) rfl (fun _ hS=>by go_simp) hHeld ?_
      try walk_nrm
      refine zt 18 (.int .i64 E) rfl (fun _ hS=>by go_simp) hHeld ?_
      try walk_nrm
      refine zo 20 rfl fun K' hK=>?_
      refine wp_store_row 39 (.tmp 3) (.tmp 35) rfl A3 cs rfl rfl 39 z43 ZA3.out HJI.out.1 HJI.out.2.1 HJI.out.2.2 ?_
      have hb3:=setRow_heap _ _ _ cs _ _ ZA3.out
      have hs:=hHeld.setRow (.inr HA3.out) cs
      have hv3:E=0→∃ V,VerIn (w3x4x15.setRow A3 cs) cs V∧V.Good k p.data.toList q.data.toList:=fun hz=>by
       obtain ⟨V,h1,h2⟩:=HJV.out hz
       exact ⟨V,(VerOwn.row ZA3.out (Nat.le_refl _) h1).in,h2⟩
      generalize w3x4x15.setRow A3 cs=wz at hs hb3 hv3 ⊢
      have HB3:=zh hb3
      have HV3:=zh hv3
      have HMZ:=zh hs
      clear hb3 hv3
      refine hK.out _ _ hs (fun hHeld=>?_)
      clear hK K'
      try walk_nrm
      clear hs
      refine zt 21 (.int .i64 E) rfl (fun _ hS=>by go_simp) hHeld ?_
      try walk_nrm
      refine zd ?_
      go_wp2_with fail
      go_meet
      exact ⟨A3,cs,rfl,rfl,HB3.out,by have:=HJI.out.2.1;rw [z43_size] at this;exact this.symm,HJZ.out,HV3.out,HMZ.out⟩
    case n3x4r19 =>
     rw [if_pos (by rfl)]
     unfold Oper.wp execOp
     go_simp
     generalize hWZ:World.alloc w3x0x4 _=w3x1x19
     have hm:Mv (fun _=>False) w3x0x4 w3x1x19:=by rw [←hWZ];exact (Mv.refl _ _).alloc _
     have hb:w3x1x19.heap[w3x0x4.heap.size]?=some (.cells z43 39 (0,0)):=by rw [←hWZ];exact heap_alloc_new w3x0x4 _
     obtain ⟨A3,hA3⟩:=zg (w3x0x4.heap.size)
     have HA3:Hid (w2.heap.size≤A3):=zh (by rw [hA3];exact hHeld.size)
     rw [←hA3] at hb ⊢
     have ZA3:=zh hb
     clear hb hA3 hWZ
     have hs:=hHeld.trans hm
     have FA:=zh (FA.out.mv hm)
     clear hm
     refine hK.out _ _ hs (fun hHeld=>?_)
     clear hK K'
     try walk_nrm
     clear hs
     refine zo 7 rfl fun K' hK=>?_
     unfold Oper.wp execOp
     go_simp
     refine (HCB.out w3x1x19 (M2.out.trans hHeld)).mono ?_
     rintro e w3x2x7 ⟨fb,fbc,rfl,hf,hm⟩
     have FB:=zh hf
     clear hf
     have hs:=hHeld.trans hm
     have FA:=zh (FA.out.mv hm)
     have ZA3:=zbl hm ZA3
     clear hm
     refine hK.out _ _ hs (fun hHeld=>?_)
     clear hK K'
     try walk_nrm
     clear hs
     refine zo 14 rfl fun K' hK=>?_
     unfold Oper.wp execOp
     go_simp
     refine (HCL.out w3x2x7 (M2.out.trans hHeld)).mono ?_
     rintro e w3x3x14 ⟨fl,flc,rfl,hf,hm⟩
     have FL:=zh hf
     clear hf
     have hs:=hHeld.trans hm
     have FA:=zh (FA.out.mv hm)
     have FB:=zh (FB.out.mv hm)
     have ZA3:=zbl hm ZA3
     clear hm
     refine hK.out _ _ hs (fun hHeld=>?_)
     clear hK K'
     try walk_nrm
     clear hs
     refine zo 15 rfl fun K' hK=>?_
     unfold Oper.wp execOp
     go_simp
     refine (HJU.out w3x3x14 fa fb fl fac fbc flc (M2.out.trans hHeld) FA.out FB.out FL.out).mono ?_
     rintro e w3x4x15 ⟨cs,rfl,hj,hm⟩
     have HJI:=zh (judged_info hj)
     have HJV:Hid (E=0→∃ V,VerOwn w3x4x15 0 cs V∧V.Good k p.data.toList q.data.toList):=zh fun hz=>by
      obtain ⟨V,h1,h2⟩:=judged_own hj FA.out FB.out HXL.out (by rw [←HEE.out];exact hz)
      exact ⟨V,h1.low,h2⟩
     have HJZ:Hid (E≠0→cs=z43):=zh fun hz=>hj.1 (by rw [←HEE.out];exact hz)
     have HJB:Hid (w2.heap.size≤w3x3x14.heap.size):=zh hHeld.size
     clear hj
     have hs:=hHeld.trans hm
     have FA:=zh (FA.out.mv hm)
     have FB:=zh (FB.out.mv hm)
     have FL:=zh (FL.out.mv hm (fun _ _ h=>h))
     have ZA3:=zbl hm ZA3
     clear hm
     refine hK.out _ _ hs (fun hHeld=>?_)
     clear hK K'
     try walk_nrm
     clear hs
     refine zt 16 (.tuple #[.agg cs,.int .i64 E]) rfl (fun _ hS=>by go_simp) hHeld ?_
     try walk_nrm
     refine zt 17 (.agg cs) rfl (fun _ hS=>by go_simp) hHeld ?_
     try walk_nrm
     refine zt 18 (.int .i64 E) rfl (fun _ hS=>by go_simp) hHeld ?_
     try walk_nrm
     refine zo 20 rfl fun K' hK=>?_
     refine wp_store_row 39 (.tmp 3) (.tmp 35) rfl A3 cs rfl rfl 39 z43 ZA3.out HJI.out.1 HJI.out.2.1 HJI.out.2.2 ?_
     have hb3:=setRow_heap _ _ _ cs _ _ ZA3.out
     have hs:=hHeld.setRow (.inr HA3.out) cs
     have hv3:E=0→∃ V,VerIn (w3x4x15.setRow A3 cs) cs V∧V.Good k p.data.toList q.data.toList:=fun hz=>by
      obtain ⟨V,h1,h2⟩:=HJV.out hz
      exact ⟨V,(VerOwn.row ZA3.out (Nat.le_refl _) h1).in,h2⟩
     generalize w3x4x15.setRow A3 cs=wz at hs hb3 hv3 ⊢
     have HB3:=zh hb3
     have HV3:=zh hv3
     have HMZ:=zh hs
     clear hb3 hv3
     refine hK.out _ _ hs (fun hHeld=>?_)
     clear hK K'
     try walk_nrm
     clear hs
     refine zt 21 (.int .i64 E) rfl (fun _ hS=>by go_simp) hHeld ?_
     try walk_nrm
     refine zd ?_
     go_wp2_with fail
     go_meet
     exact ⟨A3,cs,rfl,rfl,HB3.out,by have:=HJI.out.2.1;rw [z43_size] at this;exact this.symm,HJZ.out,HV3.out,HMZ.out⟩
   case n3xr19 =>
    rw [if_pos (by rfl)]
    unfold Oper.wp execOp
    go_simp
    generalize hWZ:(World.alloc w2 _).drew=w3x0x19
    have hm:Mv (fun _=>False) w2 w3x0x19:=by rw [←hWZ];exact ((Mv.refl _ _).alloc _).drew
    have hb:w3x0x19.heap[w2.heap.size]?=some (.cells z43 39 (0,0)):=by rw [←hWZ];exact heap_alloc_new w2 _
    obtain ⟨A3,hA3⟩:=zg (w2.heap.size)
    have HA3:Hid (w2.heap.size≤A3):=zh (by rw [hA3];exact Nat.le_refl _)
    rw [←hA3] at hb ⊢
    have ZA3:=zh hb
    clear hb hA3 hWZ
    have hs:=hm
    clear hm
    refine hK.out _ _ hs (fun hHeld=>?_)
    clear hK K'
    try walk_nrm
    clear hs
    refine zo 4 rfl fun K' hK=>?_
    unfold Oper.wp execOp
    go_simp
    refine (HCA.out w3x0x19 (M2.out.trans hHeld)).mono ?_
    rintro e w3x1x4 ⟨fa,fac,rfl,hf,hm⟩
    have FA:=zh hf
    clear hf
    have hs:=hHeld.trans hm
    have ZA3:=zbl hm ZA3
    clear hm
    refine hK.out _ _ hs (fun hHeld=>?_)
    clear hK K'
    try walk_nrm
    clear hs
    refine zo 7 rfl fun K' hK=>?_
    unfold Oper.wp execOp
    go_simp
    refine (HCB.out w3x1x4 (M2.out.trans hHeld)).mono ?_
    rintro e w3x2x7 ⟨fb,fbc,rfl,hf,hm⟩
    have FB:=zh hf
    clear hf
    have hs:=hHeld.trans hm
    have FA:=zh (FA.out.mv hm)
    have ZA3:=zbl hm ZA3
    clear hm
    refine hK.out _ _ hs (fun hHeld=>?_)
    clear hK K'
    try walk_nrm
    clear hs
    refine zo 14 rfl fun K' hK=>?_
    unfold Oper.wp execOp
    go_simp
    refine (HCL.out w3x2x7 (M2.out.trans hHeld)).mono ?_
    rintro e w3x3x14 ⟨fl,flc,rfl,hf,hm⟩
    have FL:=zh hf
    clear hf
    have hs:=hHeld.trans hm
    have FA:=zh (FA.out.mv hm)
    have FB:=zh (FB.out.mv hm)
    have ZA3:=zbl hm ZA3
    clear hm
    refine hK.out _ _ hs (fun hHeld=>?_)
    clear hK K'
    try walk_nrm
    clear hs
    refine zo 15 rfl fun K' hK=>?_
    unfold Oper.wp execOp
    go_simp
    refine (HJU.out w3x3x14 fa fb fl fac fbc flc (M2.out.trans hHeld) FA.out FB.out FL.out).mono ?_
    rintro e w3x4x15 ⟨cs,rfl,hj,hm⟩
    have HJI:=zh (judged_info hj)
    have HJV:Hid (E=0→∃ V,VerOwn w3x4x15 0 cs V∧V.Good k p.data.toList q.data.toList):=zh fun hz=>by
     obtain ⟨V,h1,h2⟩:=judged_own hj FA.out FB.out HXL.out (by rw [←HEE.out];exact hz)
     exact ⟨V,h1.low,h2⟩
    have HJZ:Hid (E≠0→cs=z43):=zh fun hz=>hj.1 (by rw [←HEE.out];exact hz)
    have HJB:Hid (w2.heap.size≤w3x3x14.heap.size):=zh hHeld.size
    clear hj
    have hs:=hHeld.trans hm
    have FA:=zh (FA.out.mv hm)
    have FB:=zh (FB.out.mv hm)
    have FL:=zh (FL.out.mv hm (fun _ _ h=>h))
    have ZA3:=zbl hm ZA3
    clear hm
    refine hK.out _ _ hs (fun hHeld=>?_)
    clear hK K'
    try walk_nrm
    clear hs
    refine zt 16 (.tuple #[.agg cs,.int .i64 E]) rfl (fun _ hS=>by go_simp) hHeld ?_
    try walk_nrm
    refine zt 17 (.agg cs) rfl (fun _ hS=>by go_simp) hHeld ?_
    try walk_nrm
    refine zt 18 (.int .i64 E) rfl (fun _ hS=>by go_simp) hHeld ?_
    try walk_nrm
    refine zo 20 rfl fun K' hK=>?_
    refine wp_store_row 39 (.tmp 3) (.tmp 35) rfl A3 cs rfl rfl 39 z43 ZA3.out HJI.out.1 HJI.out.2.1 HJI.out.2.2 ?_
    have hb3:=setRow_heap _ _ _ cs _ _ ZA3.out
    have hs:=hHeld.setRow (.inr HA3.out) cs
    have hv3:E=0→∃ V,VerIn (w3x4x15.setRow A3 cs) cs V∧V.Good k p.data.toList q.data.toList:=fun hz=>by
     obtain ⟨V,h1,h2⟩:=HJV.out hz
     exact ⟨V,(VerOwn.row ZA3.out (Nat.le_refl _) h1).in,h2⟩
    generalize w3x4x15.setRow A3 cs=wz at hs hb3 hv3 ⊢
    have HB3:=zh hb3
    have HV3:=zh hv3
    have HMZ:=zh hs
    clear hb3 hv3
    refine hK.out _ _ hs (fun hHeld=>?_)
    clear hK K'
    try walk_nrm
    clear hs
    refine zt 21 (.int .i64 E) rfl (fun _ hS=>by go_simp) hHeld ?_
    try walk_nrm
    refine zd ?_
    go_wp2_with fail
    go_meet
    exact ⟨A3,cs,rfl,rfl,HB3.out,by have:=HJI.out.2.1;rw [z43_size] at this;exact this.symm,HJZ.out,HV3.out,HMZ.out⟩
 case rest =>
  obtain ⟨A3,cs,rfl,rfl,hb3,hcz,hjz,hv3,hmz⟩:=hcut
  obtain ⟨w3,rfl⟩:∃ z:World,z=wc:=⟨_,rfl⟩
  have B3:=zh hb3
  have HCZ:=zh hcz
  have HJZ:=zh hjz
  have HV3:=zh hv3
  have M3:=zh (M2.out.trans hmz)
  have C3:=zbl hmz C2
  clear hb3 hcz hjz hv3 hmz
  go_upto_region 4 with fail
  go_cut [5,6] (fun s5 s6 wx=>∃ A5 c4,s5=.pointer (some ⟨A5,0,none⟩)∧s6=.int .i64 fe1∧wx.heap[A5]?=some (.cells c4 61 (0,0))∧(fe1=0→c4[4]?=some (.string ra))∧Mv (fun _=>False) w3 wx)
  case first =>
   as_aux_lemma =>
    refine wp_region_noPanic ?_
    refine wp_region_held_drew (S:=(fun w'=>Mv (fun _=>False) w3 w')) (by kernel_rfl) ((Mv.refl _ _).drew) (fun hHeld=>?_)
    refine zt 0 (.pointer (some ⟨C,0,none⟩)) rfl (fun _ hS=>by go_simp) hHeld ?_
    try walk_nrm
    refine zt 1 (.int .i64 k) rfl (fun _ hS=>by have kk:=HRC.out _ ((Mv.block hS C (lt_of_heap C3.out) id).trans C3.out);have kc:=kk.1;go_simp) hHeld ?_
    try walk_nrm
    refine zt 2 (.pointer (some ⟨C,1,none⟩)) rfl (fun _ hS=>by go_simp) hHeld ?_
    try walk_nrm
    refine zt 3 av rfl (fun _ hS=>by have kk:=HRC.out _ ((Mv.block hS C (lt_of_heap C3.out) id).trans C3.out);have kc:=kk.2.1;go_simp) hHeld ?_
    try walk_nrm
    refine zt 5 (.pointer (some ⟨C,3,none⟩)) rfl (fun _ hS=>by go_simp) hHeld ?_
    try walk_nrm
    refine zt 6 (.string p) rfl (fun _ hS=>by have kk:=HRC.out _ ((Mv.block hS C (lt_of_heap C3.out) id).trans C3.out);have kc:=kk.2.2.2.1;go_simp) hHeld ?_
    try walk_nrm
    refine zt 7 (.pointer (some ⟨C,4,none⟩)) rfl (fun _ hS=>by go_simp) hHeld ?_
    try walk_nrm
    refine zt 8 (.string q) rfl (fun _ hS=>by have kk:=HRC.out _ ((Mv.block hS C (lt_of_heap C3.out) id).trans C3.out);have kc:=kk.2.2.2.2.1;go_simp) hHeld ?_
    try walk_nrm
    refine wpAnyH_ready (rs:=[4,13]) (by kernel_rfl) (by simp) (AllReadyH.cons rfl (fun K' hK=>?n4xr4) (AllReadyH.cons rfl (fun K' hK=>?n4xr13) AllReadyH.nil))
    case n4xr4 =>
     rw [if_pos (by rfl)]
     unfold Oper.wp execOp
     go_simp
     refine (HCA.out w3.drew (M3.out.trans hHeld)).mono ?_
     rintro e w4x0x4 ⟨f4a,f4c,rfl,hf,hm⟩
     have F4:=zh hf
     clear hf
     have hs:=hHeld.trans hm
     clear hm
     refine hK.out _ _ hs (fun hHeld=>?_)
     clear hK K'
     try walk_nrm
     clear hs
     refine wpAnyH_ready (rs:=[9,13]) (by kernel_rfl) (by simp) (AllReadyH.cons rfl (fun K' hK=>?n4x4r9) (AllReadyH.cons rfl (fun K' hK=>?n4x4r13) AllReadyH.nil))
     case n4x4r9 =>
      rw [if_pos (by rfl)]
      unfold Oper.wp execOp
      go_simp
      refine (HFIA.out w4x0x4 f4a f4c (M3.out.trans hHeld) F4.out).mono ?_
      rintro e w4x1x9 ⟨c4,rfl,hj,hm⟩
      have HI4:=zh (found_info hj)
      have HR4:Hid (fe1=0→c4[4]?=some (.string ra)):=zh fun hz=>by rw [HRA.out];exact found_record hj (by rw [←HFE1.out];exact hz)
      clear hj
      have hs:=hHeld.trans hm
      have F4:=zh (F4.out.mv hm)
      clear hm
      refine hK.out _ _ hs (fun hHeld=>?_)
      clear hK K'
      try walk_nrm
      clear hs
      refine zt 10 (.tuple #[.agg c4,.int .i64 fe1]) rfl (fun _ hS=>by go_simp) hHeld ?_
      try walk_nrm
      refine zt 11 (.agg c4) rfl (fun _ hS=>by go_simp) hHeld ?_
      try walk_nrm
      refine zt 12 (.int .i64 fe1) rfl (fun _ hS=>by go_simp) hHeld ?_
      try walk_nrm
      refine zo 13 rfl fun K' hK=>?_
      unfold Oper.wp execOp
      go_simp
      generalize hWZ:World.alloc w4x1x9 _=w4x2x13
      have hm:Mv (fun _=>False) w4x1x9 w4x2x13:=by rw [←hWZ];exact (Mv.refl _ _).alloc _
      have hb:w4x2x13.heap[w4x1x9.heap.size]?=some (.cells z75 61 (0,0)):=by rw [←hWZ];exact heap_alloc_new w4x1x9 _
      obtain ⟨A5,hA5⟩:=zg (w4x1x9.heap.size)
      have HA5:Hid (w3.heap.size≤A5):=zh (by rw [hA5];exact hHeld.size)
      rw [←hA5] at hb ⊢
      have ZA5:=zh hb
      clear hb hA5 hWZ
      have hs:=hHeld.trans hm
      have F4:=zh (F4.out.mv hm)
      clear hm
      refine hK.out _ _ hs (fun hHeld=>?_)
      clear hK K'
      try walk_nrm
      clear hs
      refine zo 14 rfl fun K' hK=>?_
      refine wp_store_row 61 (.tmp 5) (.tmp 48) rfl A5 c4 rfl rfl 61 z75 ZA5.out HI4.out.1 HI4.out.2.1 HI4.out.2.2 ?_
      have hb3:=setRow_heap _ _ _ c4 _ _ ZA5.out
      have hs:=hHeld.setRow (.inr HA5.out) c4
      generalize w4x2x13.setRow A5 c4=wz at hs hb3 ⊢
      have HB3:=zh hb3
      have HMZ:=zh hs
      clear hb3
      refine hK.out _ _ hs (fun hHeld=>?_)
      clear hK K'
      try walk_nrm
      clear hs
      refine zt 15 (.int .i64 fe1) rfl (fun _ hS=>by go_simp) hHeld ?_
      try walk_nrm
      refine zd ?_
      go_wp2_with fail
      go_meet
      exact ⟨A5,c4,rfl,rfl,HB3.out,HR4.out,HMZ.out⟩
     case n4x4r13 =>
      rw [if_pos (by rfl)]
      unfold Oper.wp execOp
      go_simp
      generalize hWZ:World.alloc w4x0x4 _=w4x1x13
      have hm:Mv (fun _=>False) w4x0x4 w4x1x13:=by rw [←hWZ];exact (Mv.refl _ _).alloc _
      have hb:w4x1x13.heap[w4x0x4.heap.size]?=some (.cells z75 61 (0,0)):=by rw [←hWZ];exact heap_alloc_new w4x0x4 _
      obtain ⟨A5,hA5⟩:=zg (w4x0x4.heap.size)
      have HA5:Hid (w3.heap.size≤A5):=zh (by rw [hA5];exact hHeld.size)
      rw [←hA5] at hb ⊢
      have ZA5:=zh hb
      clear hb hA5 hWZ
      have hs:=hHeld.trans hm
      have F4:=zh (F4.out.mv hm)
      clear hm
      refine hK.out _ _ hs (fun hHeld=>?_)
      clear hK K'
      try walk_nrm
      clear hs
      refine zo 9 rfl fun K' hK=>?_
      unfold Oper.wp execOp
      go_simp
      refine (HFIA.out w4x1x13 f4a f4c (M3.out.trans hHeld) F4.out).mono ?_
      rintro e w4x2x9 ⟨c4,rfl,hj,hm⟩
      have HI4:=zh (found_info hj)
      have HR4:Hid (fe1=0→c4[4]?=some (.string ra)):=zh fun hz=>by rw [HRA.out];exact found_record hj (by rw [←HFE1.out];exact hz)
      clear hj
      have hs:=hHeld.trans hm
      have F4:=zh (F4.out.mv hm)
      have ZA5:=zbl hm ZA5
      clear hm
      refine hK.out _ _ hs (fun hHeld=>?_)
      clear hK K'
      try walk_nrm
      clear hs
      refine zt 10 (.tuple #[.agg c4,.int .i64 fe1]) rfl (fun _ hS=>by go_simp) hHeld ?_
      try walk_nrm
      refine zt 11 (.agg c4) rfl (fun _ hS=>by go_simp) hHeld ?_
      try walk_nrm
      refine zt 12 (.int .i64 fe1) rfl (fun _ hS=>by go_simp) hHeld ?_
      try walk_nrm
      refine zo 14 rfl fun K' hK=>?_
      refine wp_store_row 61 (.tmp 5) (.tmp 48) rfl A5 c4 rfl rfl 61 z75 ZA5.out HI4.out.1 HI4.out.2.1 HI4.out.2.2 ?_
      have hb3:=setRow_heap _ _ _ c4 _ _ ZA5.out
      have hs:=hHeld.setRow (.inr HA5.out) c4
      generalize w4x2x9.setRow A5 c4=wz at hs hb3 ⊢
      have HB3:=zh hb3
      have HMZ:=zh hs
      clear hb3
      refine hK.out _ _ hs (fun hHeld=>?_)
      clear hK K'
      try walk_nrm
      clear hs
      refine zt 15 (.int .i64 fe1) rfl (fun _ hS=>by go_simp) hHeld ?_
      try walk_nrm
      refine zd ?_
      go_wp2_with fail
      go_meet
      exact ⟨A5,c4,rfl,rfl,HB3.out,HR4.out,HMZ.out⟩
    case n4xr13 =>
     rw [if_pos (by rfl)]
     unfold Oper.wp execOp
     go_simp
     generalize hWZ:(World.alloc w3 _).drew=w4x0x13
     have hm:Mv (fun _=>False) w3 w4x0x13:=by rw [←hWZ];exact ((Mv.refl _ _).alloc _).drew
     have hb:w4x0x13.heap[w3.heap.size]?=some (.cells z75 61 (0,0)):=by rw [←hWZ];exact heap_alloc_new w3 _
     obtain ⟨A5,hA5⟩:=zg (w3.heap.size)
     have HA5:Hid (w3.heap.size≤A5):=zh (by rw [hA5];exact Nat.le_refl _)
     rw [←hA5] at hb ⊢
     have ZA5:=zh hb
     clear hb hA5 hWZ
     have hs:=hm
     clear hm
     refine hK.out _ _ hs (fun hHeld=>?_)
     clear hK K'
     try walk_nrm
     clear hs
     refine zo 4 rfl fun K' hK=>?_
     unfold Oper.wp execOp
     go_simp
     refine (HCA.out w4x0x13 (M3.out.trans hHeld)).mono ?_
     rintro e w4x1x4 ⟨f4a,f4c,rfl,hf,hm⟩
     have F4:=zh hf
     clear hf
     have hs:=hHeld.trans hm
     have ZA5:=zbl hm ZA5
     clear hm
     refine hK.out _ _ hs (fun hHeld=>?_)
     clear hK K'
     try walk_nrm
     clear hs
     refine zo 9 rfl fun K' hK=>?_
     unfold Oper.wp execOp
     go_simp
     refine (HFIA.out w4x1x4 f4a f4c (M3.out.trans hHeld) F4.out).mono ?_
     rintro e w4x2x9 ⟨c4,rfl,hj,hm⟩
     have HI4:=zh (found_info hj)
     have HR4:Hid (fe1=0→c4[4]?=some (.string ra)):=zh fun hz=>by rw [HRA.out];exact found_record hj (by rw [←HFE1.out];exact hz)
     clear hj
     have hs:=hHeld.trans hm
     have F4:=zh (F4.out.mv hm)
     have ZA5:=zbl hm ZA5
     clear hm
     refine hK.out _ _ hs (fun hHeld=>?_)
     clear hK K'
     try walk_nrm
     clear hs
     refine zt 10 (.tuple #[.agg c4,.int .i64 fe1]) rfl (fun _ hS=>by go_simp) hHeld ?_
     try walk_nrm
     refine zt 11 (.agg c4) rfl (fun _ hS=>by go_simp) hHeld ?_
     try walk_nrm
     refine zt 12 (.int .i64 fe1) rfl (fun _ hS=>by go_simp) hHeld ?_
     try walk_nrm
     refine zo 14 rfl fun K' hK=>?_
     refine wp_store_row 61 (.tmp 5) (.tmp 48) rfl A5 c4 rfl rfl 61 z75 ZA5.out HI4.out.1 HI4.out.2.1 HI4.out.2.2 ?_
     have hb3:=setRow_heap _ _ _ c4 _ _ ZA5.out
     have hs:=hHeld.setRow (.inr HA5.out) c4
     generalize w4x2x9.setRow A5 c4=wz at hs hb3 ⊢
     have HB3:=zh hb3
     have HMZ:=zh hs
     clear hb3
     refine hK.out _ _ hs (fun hHeld=>?_)
     clear hK K'
     try walk_nrm
     clear hs
     refine zt 15 (.int .i64 fe1) rfl (fun _ hS=>by go_simp) hHeld ?_
     try walk_nrm
     refine zd ?_
     go_wp2_with fail
     go_meet
     exact ⟨A5,c4,rfl,rfl,HB3.out,HR4.out,HMZ.out⟩
  case rest =>
   obtain ⟨A5,c4,rfl,rfl,hb,hr,hmz⟩:=hcut
   obtain ⟨w4,rfl⟩:∃ z:World,z=wc:=⟨_,rfl⟩
   have BA5:=zh hb
   have HR4:=zh hr
   clear hr
   have M4:=zh (M3.out.trans hmz)
   have C3:=zbl hmz C3
   have B3:=zbl hmz B3
   have HV3:Hid (E=0→∃ V,VerIn w4 cs V∧V.Good k p.data.toList q.data.toList):=zh fun hz=>by obtain ⟨V,h1,h2⟩:=HV3.out hz;exact ⟨V,h1.mv hmz,h2⟩
   clear hb hmz
   go_upto_region 5 with fail
   go_cut [7,8] (fun s7 s8 wx=>∃ A7 c5,s7=.pointer (some ⟨A7,0,none⟩)∧s8=.int .i64 fe2∧wx.heap[A7]?=some (.cells c5 61 (0,0))∧(fe2=0→c5[4]?=some (.string rb))∧Mv (fun _=>False) w4 wx)
   case first =>
    as_aux_lemma =>
     refine wp_region_noPanic ?_
     refine wp_region_held_drew (S:=(fun w'=>Mv (fun _=>False) w4 w')) (by kernel_rfl) ((Mv.refl _ _).drew) (fun hHeld=>?_)
     refine zt 0 (.pointer (some ⟨C,0,none⟩)) rfl (fun _ hS=>by go_simp) hHeld ?_
     try walk_nrm
     refine zt 1 (.int .i64 k) rfl (fun _ hS=>by have kk:=HRC.out _ ((Mv.block hS C (lt_of_heap C3.out) id).trans C3.out);have kc:=kk.1;go_simp) hHeld ?_
     try walk_nrm
     refine zt 2 (.pointer (some ⟨C,2,none⟩)) rfl (fun _ hS=>by go_simp) hHeld ?_
     try walk_nrm
     refine zt 3 bv rfl (fun _ hS=>by have kk:=HRC.out _ ((Mv.block hS C (lt_of_heap C3.out) id).trans C3.out);have kc:=kk.2.2.1;go_simp) hHeld ?_
     try walk_nrm
     refine zt 5 (.pointer (some ⟨C,3,none⟩)) rfl (fun _ hS=>by go_simp) hHeld ?_
     try walk_nrm
     refine zt 6 (.string p) rfl (fun _ hS=>by have kk:=HRC.out _ ((Mv.block hS C (lt_of_heap C3.out) id).trans C3.out);have kc:=kk.2.2.2.1;go_simp) hHeld ?_
     try walk_nrm
     refine zt 7 (.pointer (some ⟨C,4,none⟩)) rfl (fun _ hS=>by go_simp) hHeld ?_
     try walk_nrm
     refine zt 8 (.string q) rfl (fun _ hS=>by have kk:=HRC.out _ ((Mv.block hS C (lt_of_heap C3.out) id).trans C3.out);have kc:=kk.2.2.2.2.1;go_simp) hHeld ?_
     try walk_nrm
     refine wpAnyH_ready (rs:=[4,13]) (by kernel_rfl) (by simp) (AllReadyH.cons rfl (fun K' hK=>?n5xr4) (AllReadyH.cons rfl (fun K' hK=>?n5xr13) AllReadyH.nil))
     case n5xr4 =>
      rw [if_pos (by rfl)]
      unfold Oper.wp execOp
      go_simp
      refine (HCB.out w4.drew (M4.out.trans hHeld)).mono ?_
      rintro e w5x0x4 ⟨f5a,f5c,rfl,hf,hm⟩
      have F5:=zh hf
      clear hf
      have hs:=hHeld.trans hm
      clear hm
      refine hK.out _ _ hs (fun hHeld=>?_)
      clear hK K'
      try walk_nrm
      clear hs
      refine wpAnyH_ready (rs:=[9,13]) (by kernel_rfl) (by simp) (AllReadyH.cons rfl (fun K' hK=>?n5x4r9) (AllReadyH.cons rfl (fun K' hK=>?n5x4r13) AllReadyH.nil))
      case n5x4r9 =>
       rw [if_pos (by rfl)]
       unfold Oper.wp execOp
       go_simp
       refine (HFIB.out w5x0x4 f5a f5c (M4.out.trans hHeld) F5.out).mono ?_
       rintro e w5x1x9 ⟨c5,rfl,hj,hm⟩
       have HI5:=zh (found_info hj)
       have HR5:Hid (fe2=0→c5[4]?=some (.string rb)):=zh fun hz=>by rw [HRB.out];exact found_record hj (by rw [←HFE2.out];exact hz)
       clear hj
       have hs:=hHeld.trans hm
       have F5:=zh (F5.out.mv hm)
       clear hm
       refine hK.out _ _ hs (fun hHeld=>?_)
       clear hK K'
       try walk_nrm
       clear hs
       refine zt 10 (.tuple #[.agg c5,.int .i64 fe2]) rfl (fun _ hS=>by go_simp) hHeld ?_
       try walk_nrm
       refine zt 11 (.agg c5) rfl (fun _ hS=>by go_simp) hHeld ?_
       try walk_nrm
       refine zt 12 (.int .i64 fe2) rfl (fun _ hS=>by go_simp) hHeld ?_
       try walk_nrm
       refine zo 13 rfl fun K' hK=>?_
       unfold Oper.wp execOp
       go_simp
       generalize hWZ:World.alloc w5x1x9 _=w5x2x13
       have hm:Mv (fun _=>False) w5x1x9 w5x2x13:=by rw [←hWZ];exact (Mv.refl _ _).alloc _
       have hb:w5x2x13.heap[w5x1x9.heap.size]?=some (.cells z75 61 (0,0)):=by rw [←hWZ];exact heap_alloc_new w5x1x9 _
       obtain ⟨A7,hA7⟩:=zg (w5x1x9.heap.size)
       have HA7:Hid (w4.heap.size≤A7):=zh (by rw [hA7];exact hHeld.size)
       rw [←hA7] at hb ⊢
       have ZA7:=zh hb
       clear hb hA7 hWZ
       have hs:=hHeld.trans hm
       have F5:=zh (F5.out.mv hm)
       clear hm
       refine hK.out _ _ hs (fun hHeld=>?_)
       clear hK K'
       try walk_nrm
       clear hs
       refine zo 14 rfl fun K' hK=>?_
       refine wp_store_row 61 (.tmp 7) (.tmp 61) rfl A7 c5 rfl rfl 61 z75 ZA7.out HI5.out.1 HI5.out.2.1 HI5.out.2.2 ?_
       have hb3:=setRow_heap _ _ _ c5 _ _ ZA7.out
       have hs:=hHeld.setRow (.inr HA7.out) c5
       generalize w5x2x13.setRow A7 c5=wz at hs hb3 ⊢
       have HB3:=zh hb3
       have HMZ:=zh hs
       clear hb3
       refine hK.out _ _ hs (fun hHeld=>?_)
       clear hK K'
       try walk_nrm
       clear hs
       refine zt 15 (.int .i64 fe2) rfl (fun _ hS=>by go_simp) hHeld ?_
       try walk_nrm
       refine zd ?_
       go_wp2_with fail
       go_meet
       exact ⟨A7,c5,rfl,rfl,HB3.out,HR5.out,HMZ.out⟩
      case n5x4r13 =>
       rw [if_pos (by rfl)]
       unfold Oper.wp execOp
       go_simp
       generalize hWZ:World.alloc w5x0x4 _=w5x1x13
       have hm:Mv (fun _=>False) w5x0x4 w5x1x13:=by rw [←hWZ];exact (Mv.refl _ _).alloc _
       have hb:w5x1x13.heap[w5x0x4.heap.size]?=some (.cells z75 61 (0,0)):=by rw [←hWZ];exact heap_alloc_new w5x0x4 _
       obtain ⟨A7,hA7⟩:=zg (w5x0x4.heap.size)
       have HA7:Hid (w4.heap.size≤A7):=zh (by rw [hA7];exact hHeld.size)
       rw [←hA7] at hb ⊢
       have ZA7:=zh hb
       clear hb hA7 hWZ
       have hs:=hHeld.trans hm
       have F5:=zh (F5.out.mv hm)
       clear hm
       refine hK.out _ _ hs (fun hHeld=>?_)
       clear hK K'
       try walk_nrm
       clear hs
       refine zo 9 rfl fun K' hK=>?_
       unfold Oper.wp execOp
       go_simp
       refine (HFIB.out w5x1x13 f5a f5c (M4.out.trans hHeld) F5.out).mono ?_
       rintro e w5x2x9 ⟨c5,rfl,hj,hm⟩
       have HI5:=zh (found_info hj)
       have HR5:Hid (fe2=0→c5[4]?=some (.string rb)):=zh fun hz=>by rw [HRB.out];exact found_record hj (by rw [←HFE2.out];exact hz)
       clear hj
       have hs:=hHeld.trans hm
       have F5:=zh (F5.out.mv hm)
       have ZA7:=zbl hm ZA7
       clear hm
       refine hK.out _ _ hs (fun hHeld=>?_)
       clear hK K'
       try walk_nrm
       clear hs
       refine zt 10 (.tuple #[.agg c5,.int .i64 fe2]) rfl (fun _ hS=>by go_simp) hHeld ?_
       try walk_nrm
       refine zt 11 (.agg c5) rfl (fun _ hS=>by go_simp) hHeld ?_
       try walk_nrm
       refine zt 12 (.int .i64 fe2) rfl (fun _ hS=>by go_simp) hHeld ?_
       try walk_nrm
       refine zo 14 rfl fun K' hK=>?_
       refine wp_store_row 61 (.tmp 7) (.tmp 61) rfl A7 c5 rfl rfl 61 z75 ZA7.out HI5.out.1 HI5.out.2.1 HI5.out.2.2 ?_
       have hb3:=setRow_heap _ _ _ c5 _ _ ZA7.out
       have hs:=hHeld.setRow (.inr HA7.out) c5
       generalize w5x2x9.setRow A7 c5=wz at hs hb3 ⊢
       have HB3:=zh hb3
       have HMZ:=zh hs
       clear hb3
       refine hK.out _ _ hs (fun hHeld=>?_)
       clear hK K'
       try walk_nrm
       clear hs
       refine zt 15 (.int .i64 fe2) rfl (fun _ hS=>by go_simp) hHeld ?_
       try walk_nrm
       refine zd ?_
       go_wp2_with fail
       go_meet
       exact ⟨A7,c5,rfl,rfl,HB3.out,HR5.out,HMZ.out⟩
     case n5xr13 =>
      rw [if_pos (by rfl)]
      unfold Oper.wp execOp
      go_simp
      generalize hWZ:(World.alloc w4 _).drew=w5x0x13
      have hm:Mv (fun _=>False) w4 w5x0x13:=by rw [←hWZ];exact ((Mv.refl _ _).alloc _).drew
      have hb:w5x0x13.heap[w4.heap.size]?=some (.cells z75 61 (0,0)):=by rw [←hWZ];exact heap_alloc_new w4 _
      obtain ⟨A7,hA7⟩:=zg (w4.heap.size)
      have HA7:Hid (w4.heap.size≤A7):=zh (by rw [hA7];exact Nat.le_refl _)
      rw [←hA7] at hb ⊢
      have ZA7:=zh hb
      clear hb hA7 hWZ
      have hs:=hm
      clear hm
      refine hK.out _ _ hs (fun hHeld=>?_)
      clear hK K'
      try walk_nrm
      clear hs
      refine zo 4 rfl fun K' hK=>?_
      unfold Oper.wp execOp
      go_simp
      refine (HCB.out w5x0x13 (M4.out.trans hHeld)).mono ?_
      rintro e w5x1x4 ⟨f5a,f5c,rfl,hf,hm⟩
      have F5:=zh hf
      clear hf
      have hs:=hHeld.trans hm
      have ZA7:=zbl hm ZA7
      clear hm
      refine hK.out _ _ hs (fun hHeld=>?_)
      clear hK K'
      try walk_nrm
      clear hs
      refine zo 9 rfl fun K' hK=>?_
      unfold Oper.wp execOp
      go_simp
      refine (HFIB.out w5x1x4 f5a f5c (M4.out.trans hHeld) F5.out).mono ?_
      rintro e w5x2x9 ⟨c5,rfl,hj,hm⟩
      have HI5:=zh (found_info hj)
      have HR5:Hid (fe2=0→c5[4]?=some (.string rb)):=zh fun hz=>by rw [HRB.out];exact found_record hj (by rw [←HFE2.out];exact hz)
      clear hj
      have hs:=hHeld.trans hm
      have F5:=zh (F5.out.mv hm)
      have ZA7:=zbl hm ZA7
      clear hm
      refine hK.out _ _ hs (fun hHeld=>?_)
      clear hK K'
      try walk_nrm
      clear hs
      refine zt 10 (.tuple #[.agg c5,.int .i64 fe2]) rfl (fun _ hS=>by go_simp) hHeld ?_
      try walk_nrm
      refine zt 11 (.agg c5) rfl (fun _ hS=>by go_simp) hHeld ?_
      try walk_nrm
      refine zt 12 (.int .i64 fe2) rfl (fun _ hS=>by go_simp) hHeld ?_
      try walk_nrm
      refine zo 14 rfl fun K' hK=>?_
      refine wp_store_row 61 (.tmp 7) (.tmp 61) rfl A7 c5 rfl rfl 61 z75 ZA7.out HI5.out.1 HI5.out.2.1 HI5.out.2.2 ?_
      have hb3:=setRow_heap _ _ _ c5 _ _ ZA7.out
      have hs:=hHeld.setRow (.inr HA7.out) c5
      generalize w5x2x9.setRow A7 c5=wz at hs hb3 ⊢
      have HB3:=zh hb3
      have HMZ:=zh hs
      clear hb3
      refine hK.out _ _ hs (fun hHeld=>?_)
      clear hK K'
      try walk_nrm
      clear hs
      refine zt 15 (.int .i64 fe2) rfl (fun _ hS=>by go_simp) hHeld ?_
      try walk_nrm
      refine zd ?_
      go_wp2_with fail
      go_meet
      exact ⟨A7,c5,rfl,rfl,HB3.out,HR5.out,HMZ.out⟩
   case rest =>
    obtain ⟨A7,c5,rfl,rfl,hb,hr,hmz⟩:=hcut
    obtain ⟨w5,rfl⟩:∃ z:World,z=wc:=⟨_,rfl⟩
    have BA7:=zh hb
    have HR5:=zh hr
    clear hr
    have M5:=zh (M4.out.trans hmz)
    have C3:=zbl hmz C3
    have B3:=zbl hmz B3
    have BA5:=zbl hmz BA5
    have HV3:Hid (E=0→∃ V,VerIn w5 cs V∧V.Good k p.data.toList q.data.toList):=zh fun hz=>by obtain ⟨V,h1,h2⟩:=HV3.out hz;exact ⟨V,h1.mv hmz,h2⟩
    clear hb hmz
    go_upto_region 6 with fail
    go_cut [9,10] (fun s9 s10 wx=>∃ A9,s9=.pointer (some ⟨A9,0,none⟩)∧s10=.int .i64 ge1∧wx.heap[A9]?=some (.cells xv 36 (0,0))∧Mv (fun _=>False) w5 wx)
    case first =>
     as_aux_lemma =>
      refine wp_region_noPanic ?_
      refine wp_region_held_drew (S:=(fun w'=>Mv (fun _=>False) w5 w')) (by kernel_rfl) ((Mv.refl _ _).drew) (fun hHeld=>?_)
      refine zt 0 (.pointer (some ⟨C,0,none⟩)) rfl (fun _ hS=>by go_simp) hHeld ?_
      try walk_nrm
      refine zt 1 (.int .i64 k) rfl (fun _ hS=>by have kk:=HRC.out _ ((Mv.block hS C (lt_of_heap C3.out) id).trans C3.out);have kc:=kk.1;go_simp) hHeld ?_
      try walk_nrm
      refine zt 2 (.pointer (some ⟨C,1,none⟩)) rfl (fun _ hS=>by go_simp) hHeld ?_
      try walk_nrm
      refine zt 3 av rfl (fun _ hS=>by have kk:=HRC.out _ ((Mv.block hS C (lt_of_heap C3.out) id).trans C3.out);have kc:=kk.2.1;go_simp) hHeld ?_
      try walk_nrm
      refine wpAnyH_ready (rs:=[4,9]) (by kernel_rfl) (by simp) (AllReadyH.cons rfl (fun K' hK=>?n6xr4) (AllReadyH.cons rfl (fun K' hK=>?n6xr9) AllReadyH.nil))
      case n6xr4 =>
       rw [if_pos (by rfl)]
       unfold Oper.wp execOp
       go_simp
       refine (HCA.out w5.drew (M5.out.trans hHeld)).mono ?_
       rintro e w6x0x4 ⟨f6a,f6c,rfl,hf,hm⟩
       have F6:=zh hf
       clear hf
       have hs:=hHeld.trans hm
       clear hm
       refine hK.out _ _ hs (fun hHeld=>?_)
       clear hK K'
       try walk_nrm
       clear hs
       refine wpAnyH_ready (rs:=[5,9]) (by kernel_rfl) (by simp) (AllReadyH.cons rfl (fun K' hK=>?n6x4r5) (AllReadyH.cons rfl (fun K' hK=>?n6x4r9) AllReadyH.nil))
       case n6x4r5 =>
        rw [if_pos (by rfl)]
        unfold Oper.wp execOp
        go_simp
        refine (HGIA.out w6x0x4 f6a f6c (M5.out.trans hHeld) F6.out).mono ?_
        rintro e w6x1x5 ⟨rfl,hm⟩
        have hs:=hHeld.trans hm
        have F6:=zh (F6.out.mv hm)
        clear hm
        refine hK.out _ _ hs (fun hHeld=>?_)
        clear hK K'
        try walk_nrm
        clear hs
        refine zt 6 (.tuple #[.agg xv,.int .i64 ge1]) rfl (fun _ hS=>by go_simp) hHeld ?_
        try walk_nrm
        refine zt 7 (.agg xv) rfl (fun _ hS=>by go_simp) hHeld ?_
        try walk_nrm
        refine zt 8 (.int .i64 ge1) rfl (fun _ hS=>by go_simp) hHeld ?_
        try walk_nrm
        refine zo 9 rfl fun K' hK=>?_
        unfold Oper.wp execOp
        go_simp
        generalize hWZ:World.alloc w6x1x5 _=w6x2x9
        have hm:Mv (fun _=>False) w6x1x5 w6x2x9:=by rw [←hWZ];exact (Mv.refl _ _).alloc _
        have hb:w6x2x9.heap[w6x1x5.heap.size]?=some (.cells z36 36 (0,0)):=by rw [←hWZ];exact heap_alloc_new w6x1x5 _
        obtain ⟨A9,hA9⟩:=zg (w6x1x5.heap.size)
        have HA9:Hid (w5.heap.size≤A9):=zh (by rw [hA9];exact hHeld.size)
        rw [←hA9] at hb ⊢
        have ZA9:=zh hb
        clear hb hA9 hWZ
        have hs:=hHeld.trans hm
        have F6:=zh (F6.out.mv hm)
        clear hm
        refine hK.out _ _ hs (fun hHeld=>?_)
        clear hK K'
        try walk_nrm
        clear hs
        refine zo 10 rfl fun K' hK=>?_
        refine wp_store_row 36 (.tmp 9) (.tmp 70) rfl A9 xv rfl rfl 36 z36 ZA9.out HHI.out.1 HHI.out.2.1 HHI.out.2.2 ?_
        have hb3:=setRow_heap _ _ _ xv _ _ ZA9.out
        have hs:=hHeld.setRow (.inr HA9.out) xv
        generalize w6x2x9.setRow A9 xv=wz at hs hb3 ⊢
        have HB3:=zh hb3
        have HMZ:=zh hs
        clear hb3
        refine hK.out _ _ hs (fun hHeld=>?_)
        clear hK K'
        try walk_nrm
        clear hs
        refine zt 11 (.int .i64 ge1) rfl (fun _ hS=>by go_simp) hHeld ?_
        try walk_nrm
        refine zd ?_
        go_wp2_with fail
        go_meet
        exact ⟨A9,rfl,rfl,HB3.out,HMZ.out⟩
       case n6x4r9 =>
        rw [if_pos (by rfl)]
        unfold Oper.wp execOp
        go_simp
        generalize hWZ:World.alloc w6x0x4 _=w6x1x9
        have hm:Mv (fun _=>False) w6x0x4 w6x1x9:=by rw [←hWZ];exact (Mv.refl _ _).alloc _
        have hb:w6x1x9.heap[w6x0x4.heap.size]?=some (.cells z36 36 (0,0)):=by rw [←hWZ];exact heap_alloc_new w6x0x4 _
        obtain ⟨A9,hA9⟩:=zg (w6x0x4.heap.size)
        have HA9:Hid (w5.heap.size≤A9):=zh (by rw [hA9];exact hHeld.size)
        rw [←hA9] at hb ⊢
        have ZA9:=zh hb
        clear hb hA9 hWZ
        have hs:=hHeld.trans hm
        have F6:=zh (F6.out.mv hm)
        clear hm
        refine hK.out _ _ hs (fun hHeld=>?_)
        clear hK K'
        try walk_nrm
        clear hs
        refine zo 5 rfl fun K' hK=>?_
        unfold Oper.wp execOp
        go_simp
        refine (HGIA.out w6x1x9 f6a f6c (M5.out.trans hHeld) F6.out).mono ?_
        rintro e w6x2x5 ⟨rfl,hm⟩
        have hs:=hHeld.trans hm
        have F6:=zh (F6.out.mv hm)
        have ZA9:=zbl hm ZA9
        clear hm
        refine hK.out _ _ hs (fun hHeld=>?_)
        clear hK K'
        try walk_nrm
        clear hs
        refine zt 6 (.tuple #[.agg xv,.int .i64 ge1]) rfl (fun _ hS=>by go_simp) hHeld ?_
        try walk_nrm
        refine zt 7 (.agg xv) rfl (fun _ hS=>by go_simp) hHeld ?_
        try walk_nrm
        refine zt 8 (.int .i64 ge1) rfl (fun _ hS=>by go_simp) hHeld ?_
        try walk_nrm
        refine zo 10 rfl fun K' hK=>?_
        refine wp_store_row 36 (.tmp 9) (.tmp 70) rfl A9 xv rfl rfl 36 z36 ZA9.out HHI.out.1 HHI.out.2.1 HHI.out.2.2 ?_
        have hb3:=setRow_heap _ _ _ xv _ _ ZA9.out
        have hs:=hHeld.setRow (.inr HA9.out) xv
        generalize w6x2x5.setRow A9 xv=wz at hs hb3 ⊢
        have HB3:=zh hb3
        have HMZ:=zh hs
        clear hb3
        refine hK.out _ _ hs (fun hHeld=>?_)
        clear hK K'
        try walk_nrm
        clear hs
        refine zt 11 (.int .i64 ge1) rfl (fun _ hS=>by go_simp) hHeld ?_
        try walk_nrm
        refine zd ?_
        go_wp2_with fail
        go_meet
        exact ⟨A9,rfl,rfl,HB3.out,HMZ.out⟩
      case n6xr9 =>
       rw [if_pos (by rfl)]
       unfold Oper.wp execOp
       go_simp
       generalize hWZ:(World.alloc w5 _).drew=w6x0x9
       have hm:Mv (fun _=>False) w5 w6x0x9:=by rw [←hWZ];exact ((Mv.refl _ _).alloc _).drew
       have hb:w6x0x9.heap[w5.heap.size]?=some (.cells z36 36 (0,0)):=by rw [←hWZ];exact heap_alloc_new w5 _
       obtain ⟨A9,hA9⟩:=zg (w5.heap.size)
       have HA9:Hid (w5.heap.size≤A9):=zh (by rw [hA9];exact Nat.le_refl _)
       rw [←hA9] at hb ⊢
       have ZA9:=zh hb
       clear hb hA9 hWZ
       have hs:=hm
       clear hm
       refine hK.out _ _ hs (fun hHeld=>?_)
       clear hK K'
       try walk_nrm
       clear hs
       refine zo 4 rfl fun K' hK=>?_
       unfold Oper.wp execOp
       go_simp
       refine (HCA.out w6x0x9 (M5.out.trans hHeld)).mono ?_
       rintro e w6x1x4 ⟨f6a,f6c,rfl,hf,hm⟩
       have F6:=zh hf
       clear hf
       have hs:=hHeld.trans hm
       have ZA9:=zbl hm ZA9
       clear hm
       refine hK.out _ _ hs (fun hHeld=>?_)
       clear hK K'
       try walk_nrm
       clear hs
       refine zo 5 rfl fun K' hK=>?_
       unfold Oper.wp execOp
       go_simp
       refine (HGIA.out w6x1x4 f6a f6c (M5.out.trans hHeld) F6.out).mono ?_
       rintro e w6x2x5 ⟨rfl,hm⟩
       have hs:=hHeld.trans hm
       have F6:=zh (F6.out.mv hm)
       have ZA9:=zbl hm ZA9
       clear hm
       refine hK.out _ _ hs (fun hHeld=>?_)
       clear hK K'
       try walk_nrm
       clear hs
       refine zt 6 (.tuple #[.agg xv,.int .i64 ge1]) rfl (fun _ hS=>by go_simp) hHeld ?_
       try walk_nrm
       refine zt 7 (.agg xv) rfl (fun _ hS=>by go_simp) hHeld ?_
       try walk_nrm
       refine zt 8 (.int .i64 ge1) rfl (fun _ hS=>by go_simp) hHeld ?_
       try walk_nrm
       refine zo 10 rfl fun K' hK=>?_
       refine wp_store_row 36 (.tmp 9) (.tmp 70) rfl A9 xv rfl rfl 36 z36 ZA9.out HHI.out.1 HHI.out.2.1 HHI.out.2.2 ?_
       have hb3:=setRow_heap _ _ _ xv _ _ ZA9.out
       have hs:=hHeld.setRow (.inr HA9.out) xv
       generalize w6x2x5.setRow A9 xv=wz at hs hb3 ⊢
       have HB3:=zh hb3
       have HMZ:=zh hs
       clear hb3
       refine hK.out _ _ hs (fun hHeld=>?_)
       clear hK K'
       try walk_nrm
       clear hs
       refine zt 11 (.int .i64 ge1) rfl (fun _ hS=>by go_simp) hHeld ?_
       try walk_nrm
       refine zd ?_
       go_wp2_with fail
       go_meet
       exact ⟨A9,rfl,rfl,HB3.out,HMZ.out⟩
    case rest =>
     obtain ⟨A9,rfl,rfl,hb,hmz⟩:=hcut
     obtain ⟨w6,rfl⟩:∃ z:World,z=wc:=⟨_,rfl⟩
     have BA9:=zh hb
     have M6:=zh (M5.out.trans hmz)
     have C3:=zbl hmz C3
     have B3:=zbl hmz B3
     have BA5:=zbl hmz BA5
     have BA7:=zbl hmz BA7
     have HV3:Hid (E=0→∃ V,VerIn w6 cs V∧V.Good k p.data.toList q.data.toList):=zh fun hz=>by obtain ⟨V,h1,h2⟩:=HV3.out hz;exact ⟨V,h1.mv hmz,h2⟩
     clear hb hmz
     go_upto_region 7 with fail
     go_cut [11,12] (fun s11 s12 wx=>∃ A11,s11=.pointer (some ⟨A11,0,none⟩)∧s12=.int .i64 ge2∧wx.heap[A11]?=some (.cells yv 36 (0,0))∧Mv (fun _=>False) w6 wx)
     case first =>
      as_aux_lemma =>
       refine wp_region_noPanic ?_
       refine wp_region_held_drew (S:=(fun w'=>Mv (fun _=>False) w6 w')) (by kernel_rfl) ((Mv.refl _ _).drew) (fun hHeld=>?_)
       refine zt 0 (.pointer (some ⟨C,0,none⟩)) rfl (fun _ hS=>by go_simp) hHeld ?_
       try walk_nrm
       refine zt 1 (.int .i64 k) rfl (fun _ hS=>by have kk:=HRC.out _ ((Mv.block hS C (lt_of_heap C3.out) id).trans C3.out);have kc:=kk.1;go_simp) hHeld ?_
       try walk_nrm
       refine zt 2 (.pointer (some ⟨C,2,none⟩)) rfl (fun _ hS=>by go_simp) hHeld ?_
       try walk_nrm
       refine zt 3 bv rfl (fun _ hS=>by have kk:=HRC.out _ ((Mv.block hS C (lt_of_heap C3.out) id).trans C3.out);have kc:=kk.2.2.1;go_simp) hHeld ?_
       try walk_nrm
       refine wpAnyH_ready (rs:=[4,9]) (by kernel_rfl) (by simp) (AllReadyH.cons rfl (fun K' hK=>?n7xr4) (AllReadyH.cons rfl (fun K' hK=>?n7xr9) AllReadyH.nil))
       case n7xr4 =>
        rw [if_pos (by rfl)]
        unfold Oper.wp execOp
        go_simp
        refine (HCB.out w6.drew (M6.out.trans hHeld)).mono ?_
        rintro e w7x0x4 ⟨f7a,f7c,rfl,hf,hm⟩
        have F7:=zh hf
        clear hf
        have hs:=hHeld.trans hm
        clear hm
        refine hK.out _ _ hs (fun hHeld=>?_)
        clear hK K'
        try walk_nrm
        clear hs
        refine wpAnyH_ready (rs:=[5,9]) (by kernel_rfl) (by simp) (AllReadyH.cons rfl (fun K' hK=>?n7x4r5) (AllReadyH.cons rfl (fun K' hK=>?n7x4r9) AllReadyH.nil))
        case n7x4r5 =>
         rw [if_pos (by rfl)]
         unfold Oper.wp execOp
         go_simp
         refine (HGIB.out w7x0x4 f7a f7c (M6.out.trans hHeld) F7.out).mono ?_
         rintro e w7x1x5 ⟨rfl,hm⟩
         have hs:=hHeld.trans hm
         have F7:=zh (F7.out.mv hm)
         clear hm
         refine hK.out _ _ hs (fun hHeld=>?_)
         clear hK K'
         try walk_nrm
         clear hs
         refine zt 6 (.tuple #[.agg yv,.int .i64 ge2]) rfl (fun _ hS=>by go_simp) hHeld ?_
         try walk_nrm
         refine zt 7 (.agg yv) rfl (fun _ hS=>by go_simp) hHeld ?_
         try walk_nrm
         refine zt 8 (.int .i64 ge2) rfl (fun _ hS=>by go_simp) hHeld ?_
         try walk_nrm
         refine zo 9 rfl fun K' hK=>?_
         unfold Oper.wp execOp
         go_simp
         generalize hWZ:World.alloc w7x1x5 _=w7x2x9
         have hm:Mv (fun _=>False) w7x1x5 w7x2x9:=by rw [←hWZ];exact (Mv.refl _ _).alloc _
         have hb:w7x2x9.heap[w7x1x5.heap.size]?=some (.cells z36 36 (0,0)):=by rw [←hWZ];exact heap_alloc_new w7x1x5 _
         obtain ⟨A11,hA11⟩:=zg (w7x1x5.heap.size)
         have HA11:Hid (w6.heap.size≤A11):=zh (by rw [hA11];exact hHeld.size)
         rw [←hA11] at hb ⊢
         have ZA11:=zh hb
         clear hb hA11 hWZ
         have hs:=hHeld.trans hm
         have F7:=zh (F7.out.mv hm)
         clear hm
         refine hK.out _ _ hs (fun hHeld=>?_)
         clear hK K'
         try walk_nrm
         clear hs
         refine zo 10 rfl fun K' hK=>?_
         refine wp_store_row 36 (.tmp 11) (.tmp 79) rfl A11 yv rfl rfl 36 z36 ZA11.out HHY.out.1 HHY.out.2.1 HHY.out.2.2 ?_
         have hb3:=setRow_heap _ _ _ yv _ _ ZA11.out
         have hs:=hHeld.setRow (.inr HA11.out) yv
         generalize w7x2x9.setRow A11 yv=wz at hs hb3 ⊢
         have HB3:=zh hb3
         have HMZ:=zh hs
         clear hb3
         refine hK.out _ _ hs (fun hHeld=>?_)
         clear hK K'
         try walk_nrm
         clear hs
         refine zt 11 (.int .i64 ge2) rfl (fun _ hS=>by go_simp) hHeld ?_
         try walk_nrm
         refine zd ?_
         go_wp2_with fail
         go_meet
         exact ⟨A11,rfl,rfl,HB3.out,HMZ.out⟩
        case n7x4r9 =>
         rw [if_pos (by rfl)]
         unfold Oper.wp execOp
         go_simp
         generalize hWZ:World.alloc w7x0x4 _=w7x1x9
         have hm:Mv (fun _=>False) w7x0x4 w7x1x9:=by rw [←hWZ];exact (Mv.refl _ _).alloc _
         have hb:w7x1x9.heap[w7x0x4.heap.size]?=some (.cells z36 36 (0,0)):=by rw [←hWZ];exact heap_alloc_new w7x0x4 _
         obtain ⟨A11,hA11⟩:=zg (w7x0x4.heap.size)
         have HA11:Hid (w6.heap.size≤A11):=zh (by rw [hA11];exact hHeld.size)
         rw [←hA11] at hb ⊢
         have ZA11:=zh hb
         clear hb hA11 hWZ
         have hs:=hHeld.trans hm
         have F7:=zh (F7.out.mv hm)
         clear hm
         refine hK.out _ _ hs (fun hHeld=>?_)
         clear hK K'
         try walk_nrm
         clear hs
         refine zo 5 rfl fun K' hK=>?_
         unfold Oper.wp execOp
         go_simp
         refine (HGIB.out w7x1x9 f7a f7c (M6.out.trans hHeld) F7.out).mono ?_
         rintro e w7x2x5 ⟨rfl,hm⟩
         have hs:=hHeld.trans hm
         have F7:=zh (F7.out.mv hm)
         have ZA11:=zbl hm ZA11
         clear hm
         refine hK.out _ _ hs (fun hHeld=>?_)
         clear hK K'
         try walk_nrm
         clear hs
         refine zt 6 (.tuple #[.agg yv,.int .i64 ge2]) rfl (fun _ hS=>by go_simp) hHeld ?_
         try walk_nrm
         refine zt 7 (.agg yv) rfl (fun _ hS=>by go_simp) hHeld ?_
         try walk_nrm
         refine zt 8 (.int .i64 ge2) rfl (fun _ hS=>by go_simp) hHeld ?_
         try walk_nrm
         refine zo 10 rfl fun K' hK=>?_
         refine wp_store_row 36 (.tmp 11) (.tmp 79) rfl A11 yv rfl rfl 36 z36 ZA11.out HHY.out.1 HHY.out.2.1 HHY.out.2.2 ?_
         have hb3:=setRow_heap _ _ _ yv _ _ ZA11.out
         have hs:=hHeld.setRow (.inr HA11.out) yv
         generalize w7x2x5.setRow A11 yv=wz at hs hb3 ⊢
         have HB3:=zh hb3
         have HMZ:=zh hs
         clear hb3
         refine hK.out _ _ hs (fun hHeld=>?_)
         clear hK K'
         try walk_nrm
         clear hs
         refine zt 11 (.int .i64 ge2) rfl (fun _ hS=>by go_simp) hHeld ?_
         try walk_nrm
         refine zd ?_
         go_wp2_with fail
         go_meet
         exact ⟨A11,rfl,rfl,HB3.out,HMZ.out⟩
       case n7xr9 =>
        rw [if_pos (by rfl)]
        unfold Oper.wp execOp
        go_simp
        generalize hWZ:(World.alloc w6 _).drew=w7x0x9
        have hm:Mv (fun _=>False) w6 w7x0x9:=by rw [←hWZ];exact ((Mv.refl _ _).alloc _).drew
        have hb:w7x0x9.heap[w6.heap.size]?=some (.cells z36 36 (0,0)):=by rw [←hWZ];exact heap_alloc_new w6 _
        obtain ⟨A11,hA11⟩:=zg (w6.heap.size)
        have HA11:Hid (w6.heap.size≤A11):=zh (by rw [hA11];exact Nat.le_refl _)
        rw [←hA11] at hb ⊢
        have ZA11:=zh hb
        clear hb hA11 hWZ
        have hs:=hm
        clear hm
        refine hK.out _ _ hs (fun hHeld=>?_)
        clear hK K'
        try walk_nrm
        clear hs
        refine zo 4 rfl fun K' hK=>?_
        unfold Oper.wp execOp
        go_simp
        refine (HCB.out w7x0x9 (M6.out.trans hHeld)).mono ?_
        rintro e w7x1x4 ⟨f7a,f7c,rfl,hf,hm⟩
        have F7:=zh hf
        clear hf
        have hs:=hHeld.trans hm
        have ZA11:=zbl hm ZA11
        clear hm
        refine hK.out _ _ hs (fun hHeld=>?_)
        clear hK K'
        try walk_nrm
        clear hs
        refine zo 5 rfl fun K' hK=>?_
        unfold Oper.wp execOp
        go_simp
        refine (HGIB.out w7x1x4 f7a f7c (M6.out.trans hHeld) F7.out).mono ?_
        rintro e w7x2x5 ⟨rfl,hm⟩
        have hs:=hHeld.trans hm
        have F7:=zh (F7.out.mv hm)
        have ZA11:=zbl hm ZA11
        clear hm
        refine hK.out _ _ hs (fun hHeld=>?_)
        clear hK K'
        try walk_nrm
        clear hs
        refine zt 6 (.tuple #[.agg yv,.int .i64 ge2]) rfl (fun _ hS=>by go_simp) hHeld ?_
        try walk_nrm
        refine zt 7 (.agg yv) rfl (fun _ hS=>by go_simp) hHeld ?_
        try walk_nrm
        refine zt 8 (.int .i64 ge2) rfl (fun _ hS=>by go_simp) hHeld ?_
        try walk_nrm
        refine zo 10 rfl fun K' hK=>?_
        refine wp_store_row 36 (.tmp 11) (.tmp 79) rfl A11 yv rfl rfl 36 z36 ZA11.out HHY.out.1 HHY.out.2.1 HHY.out.2.2 ?_
        have hb3:=setRow_heap _ _ _ yv _ _ ZA11.out
        have hs:=hHeld.setRow (.inr HA11.out) yv
        generalize w7x2x5.setRow A11 yv=wz at hs hb3 ⊢
        have HB3:=zh hb3
        have HMZ:=zh hs
        clear hb3
        refine hK.out _ _ hs (fun hHeld=>?_)
        clear hK K'
        try walk_nrm
        clear hs
        refine zt 11 (.int .i64 ge2) rfl (fun _ hS=>by go_simp) hHeld ?_
        try walk_nrm
        refine zd ?_
        go_wp2_with fail
        go_meet
        exact ⟨A11,rfl,rfl,HB3.out,HMZ.out⟩
     case rest =>
      obtain ⟨A11,rfl,rfl,hb,hmz⟩:=hcut
      obtain ⟨w7,rfl⟩:∃ z:World,z=wc:=⟨_,rfl⟩
      have BA11:=zh hb
      have M7:=zh (M6.out.trans hmz)
      have C3:=zbl hmz C3
      have B3:=zbl hmz B3
      have BA5:=zbl hmz BA5
      have BA7:=zbl hmz BA7
      have BA9:=zbl hmz BA9
      have HV3:Hid (E=0→∃ V,VerIn w7 cs V∧V.Good k p.data.toList q.data.toList):=zh fun hz=>by obtain ⟨V,h1,h2⟩:=HV3.out hz;exact ⟨V,h1.mv hmz,h2⟩
      clear hb hmz
      obtain ⟨rp,hrp⟩:=zg ((fe1 == 0 && fe2 == 0 && ge1 == 0 && ge2 == 0 && !d5 && d6 && lk))
      rw [←hrp] at HRIPE
      have HRP:=zh hrp
      clear hrp
      have g5:=HD5.out.symm
      have g6:=HD6.out.symm
      have x0:=cell_of_heap BA9.out 0 HX0.out
      have y0:=cell_of_heap BA11.out 0 HY0.out
      go_upto_region 8 with fail
      go_cut [13] (fun s13 wx=>s13=.bool rp∧Mv (fun _=>False) w7 wx)
      case first =>
       as_aux_lemma =>
        by_cases hf1:fe1=0
        case neg =>
         have g0:(fe1 == 0)=false:=by simpa using hf1
         go_quiet (fail)
         rename_i nq
         go_wp2_with fail
         go_meet
         exact ⟨by rw [HRP.out];simp [g0],Mv.drewN' (Mv.refl _ _) nq⟩
        case pos =>
         subst hf1
         by_cases hf2:fe2=0
         case neg =>
          have g0:(fe2 == 0)=false:=by simpa using hf2
          go_quiet (fail)
          rename_i nq
          go_wp2_with fail
          go_meet
          exact ⟨by rw [HRP.out];simp [g0],Mv.drewN' (Mv.refl _ _) nq⟩
         case pos =>
          subst hf2
          by_cases hg1:ge1=0
          case neg =>
           have g0:(ge1 == 0)=false:=by simpa using hg1
           go_quiet (fail)
           rename_i nq
           go_wp2_with fail
           go_meet
           exact ⟨by rw [HRP.out];simp [g0],Mv.drewN' (Mv.refl _ _) nq⟩
          case pos =>
           subst hg1
           by_cases hg2:ge2=0
           case neg =>
            have g0:(ge2 == 0)=false:=by simpa using hg2
            go_quiet (fail)
            rename_i nq
            go_wp2_with fail
            go_meet
            exact ⟨by rw [HRP.out];simp [g0],Mv.drewN' (Mv.refl _ _) nq⟩
           case pos =>
            subst hg2
            have ra4:=cell_of_heap BA5.out 4 (HR4.out rfl)
            have rb4:=cell_of_heap BA7.out 4 (HR5.out rfl)
            cases d5 with
            | true =>
             go_quiet (fail)
             rename_i nq
             go_wp2_with fail
             go_meet
             exact ⟨by rw [HRP.out];simp,Mv.drewN' (Mv.refl _ _) nq⟩
            | false =>
             cases d6 with
             | false =>
              go_quiet (fail)
              rename_i nq
              go_wp2_with fail
              go_meet
              exact ⟨by rw [HRP.out];simp,Mv.drewN' (Mv.refl _ _) nq⟩
             | true =>
              refine wp_region_noPanic ?_
              refine wp_region_held_drew (S:=(fun w'=>Mv (fun _=>False) w7 w')) (by kernel_rfl) ((Mv.refl _ _).drew) (fun hHeld=>?_)
              refine zt 0 (.int .i64 0) rfl (fun _ hS=>by go_simp) hHeld ?_
              try walk_nrm
              refine zt 1 (.bool true) rfl (fun _ hS=>by go_simp) hHeld ?_
              try walk_nrm
              refine zt 2 (.bool true) rfl (fun _ hS=>by go_simp) hHeld ?_
              try walk_nrm
              refine zt 3 (.int .i64 0) rfl (fun _ hS=>by go_simp) hHeld ?_
              try walk_nrm
              refine zt 4 (.bool true) rfl (fun _ hS=>by go_simp) hHeld ?_
              try walk_nrm
              refine zt 5 (.bool true) rfl (fun _ hS=>by go_simp) hHeld ?_
              try walk_nrm
              refine zt 6 (.bool true) rfl (fun _ hS=>by go_simp) hHeld ?_
              try walk_nrm
              refine zt 7 (.int .i64 0) rfl (fun _ hS=>by go_simp) hHeld ?_
              try walk_nrm
              refine zt 8 (.bool true) rfl (fun _ hS=>by go_simp) hHeld ?_
              try walk_nrm
              refine zt 9 (.bool true) rfl (fun _ hS=>by go_simp) hHeld ?_
              try walk_nrm
              refine zt 10 (.bool true) rfl (fun _ hS=>by go_simp) hHeld ?_
              try walk_nrm
              refine zt 11 (.int .i64 0) rfl (fun _ hS=>by go_simp) hHeld ?_
              try walk_nrm
              refine zt 12 (.bool true) rfl (fun _ hS=>by go_simp) hHeld ?_
              try walk_nrm
              refine zt 13 (.bool true) rfl (fun _ hS=>by go_simp) hHeld ?_
              try walk_nrm
              refine zt 14 (.bool true) rfl (fun _ hS=>by go_simp) hHeld ?_
              try walk_nrm
              refine zt 15 (.pointer (some ⟨A5,4,none⟩)) rfl (fun _ hS=>by go_simp) hHeld ?_
              try walk_nrm
              refine zt 16 (.string ra) rfl (fun _ hS=>by have kc:=cell_of_heap ((Mv.block hS A5 (lt_of_heap BA5.out) id).trans BA5.out) 4 (HR4.out rfl);go_simp) hHeld ?_
              try walk_nrm
              refine zt 17 (.pointer (some ⟨A7,4,none⟩)) rfl (fun _ hS=>by go_simp) hHeld ?_
              try walk_nrm
              refine zt 18 (.string rb) rfl (fun _ hS=>by have kc:=cell_of_heap ((Mv.block hS A7 (lt_of_heap BA7.out) id).trans BA7.out) 4 (HR5.out rfl);go_simp) hHeld ?_
              try walk_nrm
              refine zt 19 (.bool true) rfl (fun _ hS=>by go_simp) hHeld ?_
              try walk_nrm
              refine zt 20 (.bool true) rfl (fun _ hS=>by go_simp) hHeld ?_
              try walk_nrm
              refine zt 21 (.bool true) rfl (fun _ hS=>by go_simp) hHeld ?_
              try walk_nrm
              refine zt 22 (.pointer (some ⟨A9,0,none⟩)) rfl (fun _ hS=>by go_simp) hHeld ?_
              try walk_nrm
              refine zt 23 (.string xh.o) rfl (fun _ hS=>by have kc:=cell_of_heap ((Mv.block hS A9 (lt_of_heap BA9.out) id).trans BA9.out) 0 HX0.out;go_simp) hHeld ?_
              try walk_nrm
              refine zt 24 (.pointer (some ⟨A11,0,none⟩)) rfl (fun _ hS=>by go_simp) hHeld ?_
              try walk_nrm
              refine zt 25 (.string yh.o) rfl (fun _ hS=>by have kc:=cell_of_heap ((Mv.block hS A11 (lt_of_heap BA11.out) id).trans BA11.out) 0 HY0.out;go_simp) hHeld ?_
              try walk_nrm
              refine zt 26 (.bool true) rfl (fun _ hS=>by go_simp) hHeld ?_
              try walk_nrm
              refine zt 27 (.bool true) rfl (fun _ hS=>by go_simp) hHeld ?_
              try walk_nrm
              refine zt 28 (.bool true) rfl (fun _ hS=>by go_simp) hHeld ?_
              try walk_nrm
              refine zt 29 (.pointer (some ⟨C,0,none⟩)) rfl (fun _ hS=>by go_simp) hHeld ?_
              try walk_nrm
              refine zt 30 (.int .i64 k) rfl (fun _ hS=>by have kk:=HRC.out _ ((Mv.block hS C (lt_of_heap C3.out) id).trans C3.out);have kc:=kk.1;go_simp) hHeld ?_
              try walk_nrm
              refine zt 31 (.pointer (some ⟨C,5,none⟩)) rfl (fun _ hS=>by go_simp) hHeld ?_
              try walk_nrm
              refine zt 32 lv rfl (fun _ hS=>by have kk:=HRC.out _ ((Mv.block hS C (lt_of_heap C3.out) id).trans C3.out);have kc:=kk.2.2.2.2.2;go_simp) hHeld ?_
              try walk_nrm
              obtain ⟨xl,hxl⟩:=zg (xv.toList)
              obtain ⟨yl,hyl⟩:=zg (yv.toList)
              have hxl2:xv=xl.toArray:=by rw [hxl]
              have hyl2:yv=yl.toArray:=by rw [hyl]
              have HX9:Hid (∀ (t:Nat) u,xl[t]?=some u→w7.cell? ⟨A9,0+t,none⟩=some u):=zh fun t u hu=>cell_of_heap BA9.out _ (by rw [Nat.zero_add,hxl2];simpa using hu)
              have HY9:Hid (∀ (t:Nat) u,yl[t]?=some u→w7.cell? ⟨A11,0+t,none⟩=some u):=zh fun t u hu=>cell_of_heap BA11.out _ (by rw [Nat.zero_add,hyl2];simpa using hu)
              have HXI3:Hid ((Tryz.prog.info? 36).map (·.size)=some xl.length):=zh (by have:=HHI.out.1;rw [hxl2] at this;simpa using this)
              have HYI3:Hid ((Tryz.prog.info? 36).map (·.size)=some yl.length):=zh (by have:=HHY.out.1;rw [hyl2] at this;simpa using this)
              have HXL2:=zh hxl2
              have HYL2:=zh hyl2
              clear hxl hyl hxl2 hyl2
              refine zj 34 (.agg xl.toArray) rfl (yieldsIf_load_mid (by rfl) 36 _ rfl A9 0 rfl xl _ (fun _ h=>fun t v hv=>(Mv.cell h (p:=⟨A9,0+t,none⟩) (World.block_lt_of_cell? _ _ (HX9.out t v hv)) id).trans (HX9.out t v hv)) Tryz.underlying36 rfl HXI3.out) hHeld ?_
              try walk_nrm
              refine zj 35 (.agg yl.toArray) rfl (yieldsIf_load_mid (by rfl) 36 _ rfl A11 0 rfl yl _ (fun _ h=>fun t v hv=>(Mv.cell h (p:=⟨A11,0+t,none⟩) (World.block_lt_of_cell? _ _ (HY9.out t v hv)) id).trans (HY9.out t v hv)) Tryz.underlying36 rfl HYI3.out) hHeld ?_
              try walk_nrm
              refine zo 33 rfl fun K' hK=>?_
              unfold Oper.wp execOp
              go_simp
              refine (HCL.out w7.drew (M7.out.trans hHeld)).mono ?_
              rintro e w8 ⟨fl,flc,rfl,hf,hm⟩
              have FL:=zh hf
              have hs:=hHeld.trans hm
              clear hf hm
              refine hK.out _ _ hs (fun hHeld=>?_)
              clear hK K'
              try walk_nrm
              clear hs
              refine zo 36 rfl fun K' hK=>?_
              unfold Oper.wp execOp
              go_simp
              have hcall:=HTOG.out w8 fl flc (M7.out.trans hHeld) FL.out
              rw [HXL2.out,HYL2.out] at hcall
              refine hcall.mono ?_
              rintro e w9 ⟨rfl,hm⟩
              clear hcall
              have hs:=hHeld.trans hm
              clear hm
              refine hK.out _ _ hs (fun hHeld=>?_)
              clear hK K'
              try walk_nrm
              clear hs
              refine zt 37 (.bool lk) rfl (fun _ hS=>by go_simp) hHeld ?_
              try walk_nrm
              refine zt 38 (.bool lk) rfl (fun _ hS=>by go_simp) hHeld ?_
              try walk_nrm
              have HMZ:=zh hHeld
              refine zd ?_
              go_wp2_with fail
              go_meet
              exact ⟨by rw [HRP.out];simp,HMZ.out⟩
      case rest =>
       obtain ⟨rfl,hmz⟩:=hcut
       obtain ⟨w8,rfl⟩:∃ z:World,z=wc:=⟨_,rfl⟩
       have M8:=zh (M7.out.trans hmz)
       have C8:=zbl hmz C3
       have B8:=zbl hmz B3
       have HV8:Hid (E=0→∃ V,VerIn w8 cs V∧V.Good k p.data.toList q.data.toList):=zh fun hz=>by obtain ⟨V,h1,h2⟩:=HV3.out hz;exact ⟨V,h1.mv hmz,h2⟩
       clear hmz x0 y0 g5 g6
       cases rp with
       | false =>
        have hE:¬ (E=0):=fun e=>by have:=HRIPE.out.2 e;cases this
        have hcs:=HJZ.out hE
        have z0:=cell_of_heap B8.out 0 (v:=.int .i64 0) (by rw [hcs];rfl)
        have z1:=cell_of_heap B8.out 1 (v:=.slice none 0 0) (by rw [hcs];rfl)
        have z41:=cell_of_heap B8.out 41 (v:=.slice none 0 0) (by rw [hcs];rfl)
        clear hcs
        have g0:(E == 0)=false:=by simpa using hE
        go_wp2_with fail
        go_ret
        refine ⟨?_,M8.out⟩
        show Ending.returned (.bool (E != 0))=_
        rw [show (E != 0)=true by simpa using hE]
       | true =>
        have hE:E=0:=HRIPE.out.1 rfl
        subst hE
        obtain ⟨V,hvi,hvg⟩:=HV8.out rfl
        have HVI:=zh hvi
        have HVG:=zh hvg
        clear hvi hvg
        have HCI:Hid ((Tryz.prog.info? 39).map (·.size)=some cs.size):=zh (by rw [HCZ.out];exact info39)
        obtain ⟨k0,k1,k2,k3,k4,k5⟩:=HRC.out _ C8.out
        go_wp2_with ((refine wpList_load_rowG 39 (.tmp 3) rfl A3 rfl 39 cs (0,0) _ B8.out Tryz.underlying39 rfl HCI.out rfl ?_);go_wp2_with ((go_at_call 9;refine (holds_good k V cs p q w8 HVI.out HVG.out (HE.out.mv M8.out (fun _ h=>h.elim)) (HENV.out.mv M8.out)).mono ?_;rintro e w9 ⟨rfl,hm⟩;have M9:=zh (M8.out.trans hm);have B9:=zbl hm B8;have HVI9:=zh (HVI.out.mv hm);obtain ⟨n0,n1,n2,n3,n4,n5⟩:=HRC.out _ ((hm.block _ (lt_of_heap C8.out) id).trans C8.out);clear hm k0 k1 k2 k3 k4 k5);go_wp2_with ((refine wpList_load_row rfl 39 (.tmp 3) rfl A3 rfl 39 cs (0,0) _ B9.out Tryz.underlying39 rfl HCI.out ?_);go_wp2_with ((go_at_call 29;refine (lawStands_any k V cs p q w9 HVI9.out HVG.out (HE.out.mv M9.out (fun _ h=>h.elim)) (HENV.out.mv M9.out)).mono ?_;rintro e w10 ⟨rfl,hm⟩;have M10:=zh (M9.out.trans hm);clear hm);go_wp2_with fail))))
        go_ret
        exact ⟨rfl,M10.out⟩
end Go.Proofs.YtdfdikpklddnhaaGreatDoor
