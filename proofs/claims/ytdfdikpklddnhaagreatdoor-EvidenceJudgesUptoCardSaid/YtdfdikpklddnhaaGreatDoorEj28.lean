/- Of the proof of EvidenceJudges, second form: for values of bulk at most 1048576. (Ej28) -/
import Derived.Test.YtdfdikpklddnhaaGreatDoorEj01
import Derived.Test.YtdfdikpklddnhaaGreatDoorEj26
import Derived.Test.YtdfdikpklddnhaaGreatDoorEj27
import Derived.Deep.DeepCutAuto
namespace Go.Proofs.YtdfdikpklddnhaaGreatDoor
open Go.RowKit
set_option linter.unusedSimpArgs false
theorem FactAt.reads {W:World} {A:Nat} {f:FactP} {pv nv:Value} (h:FactAt W A 0 f pv nv) (hk:f.Ok) :
  W.cell? ⟨A,5,none⟩=some (.string f.old.o)∧W.cell? ⟨A,6,none⟩=some (.int .i64 f.old.n)∧W.cell? ⟨A,39,none⟩=some (.string f.head.o)∧W.cell? ⟨A,40,none⟩=some (.int .i64 f.head.n)∧W.cell? ⟨A,73,none⟩=some pv∧W.cell? ⟨A,74,none⟩=some nv ∧
   (∀ (j:Nat) v,f.head.V[j]?=some v→W.cell? ⟨A,39+j,none⟩=some v)∧(∀ (j:Nat) v,f.old.V[j]?=some v→W.cell? ⟨A,5+j,none⟩=some v):=by
 have e:∀ (j:Nat) v,(f.cells pv nv)[j]?=some v→W.cell? ⟨A,j,none⟩=some v:=fun j v hj=>by have:=h j v hj;rw [Nat.zero_add] at this;exact this
 exact ⟨e 5 _ (f.cold pv nv 0 _ rfl),e 6 _ (f.cold pv nv 1 _ rfl),e 39 _ (f.chead pv nv hk 0 _ rfl),e 40 _ (f.chead pv nv hk 1 _ rfl),e 73 _ (f.c73 pv nv hk),e 74 _ (f.c74 pv nv hk),fun j v hv=>e _ _ (f.chead pv nv hk j v hv),fun j v hv=>e _ _ (f.cold pv nv j v hv)⟩
set_option maxRecDepth 100000 in
set_option maxHeartbeats 3200000 in
theorem agreed_any (k:Int) (f:FactP) (pv nv:Value) (h:HeadP) (none:Bool) (w:World) (hf:f.Ok) (hh:h.root.length=32) (hp:HsIn w pv f.proof) (he:EnvH w) :
  Calls Tryz.prog 356 #[.agg (f.cells pv nv).toArray,.int .i64 k,.agg h.V.toArray,.bool none] w fun e w'=>e=.returned (.bool (agreedP k f h none))∧Mv (fun _=>False) w w':=by
 have HP:=zh hp
 have HE:=zh he
 have HFO:=zh hf
 have HH:=zh hh
 obtain ⟨fc,hfc⟩:=zg ((f.cells pv nv).toArray)
 obtain ⟨hv,hhv⟩:=zg (h.V.toArray)
 rw [←hfc,←hhv]
 obtain ⟨A,hA⟩:=zg (w.heap.size)
 have h1:((w.alloc (.cells fc 166)).alloc (.cells hv 36)).heap[w.heap.size]?=some (.cells fc 166 (0,0)):=(Below.heap_alloc _ _ _ (by simp)).trans (heap_alloc_new _ _)
 have h2:((w.alloc (.cells fc 166)).alloc (.cells hv 36)).heap[w.heap.size+1]?=some (.cells hv 36 (0,0)):=by
  rw [show w.heap.size+1=(w.alloc (.cells fc 166)).heap.size by simp];exact heap_alloc_new _ _
 have hm:Mv (fun _=>False) w ((w.alloc (.cells fc 166)).alloc (.cells hv 36)):=((Mv.refl _ _).alloc _).alloc _
 have HFC:=zh hfc
 have HHV:=zh hhv
 clear hp he hf hh hfc hhv
 cases none with
 | true =>
  have hv0:agreedP k f h true=false:=by unfold agreedP;simp
  have HV0:=zh hv0
  clear hv0
  go_enter Tryz.func356,Tryz.ntmps356
  go_upto_region 1 with fail
  generalize hW1:(w.alloc (.cells fc 166)).alloc (.cells hv 36)=W1
  rw [hW1] at h1 h2 hm
  have HM:=zh hm
  clear hW1 h1 h2 hm hA
  go_wp2_with fail
  go_ret
  exact ⟨by rw [HV0.out];rfl,HM.out⟩
 | false =>
  have hval:agreedP k f h false=(bareP f && f.head.eq h && f.old.o.toList == h.o.toList && decide (1≤f.old.n) && decide (f.old.n<h.n) && goesP k f.proof f.head f.old):=by unfold agreedP;rfl
  have HVAL:=zh hval
  have hneh:=head_neq f.head h HFO.out.h HH.out
  obtain ⟨b0,hb0⟩:=zg (bareP f)
  obtain ⟨b1,hb1⟩:=zg (f.head.eq h)
  obtain ⟨b2,hb2⟩:=zg ((f.old.o.toList == h.o.toList))
  rw [←hb0,←hb1,←hb2] at HVAL
  rw [←hb1] at hneh
  have HBARE:Hid (∀ W:World,Calls Tryz.prog 354 #[.agg fc] W fun e w'=>e=.returned (.bool b0)∧Mv (fun _=>False) W w'):=zh fun W=>by
   have:=bare_any fc f.path f.ver f.rcd f.id W (by rw [HFC.out];rfl) (by rw [HFC.out];rfl) (by rw [HFC.out];rfl) (by rw [HFC.out];rfl)
   rw [hb0];exact this
  have g2:=hb2.symm
  clear hval hb0 hb1 hb2
  go_enter Tryz.func356,Tryz.ntmps356
  go_upto_region 1 with fail
  generalize hW1:(w.alloc (.cells fc 166)).alloc (.cells hv 36)=W1
  rw [hW1] at h1 h2 hm
  rw [←hA] at h1 h2 ⊢
  have HA1:=zh h1
  have HB1:=zh h2
  have HM:=zh hm
  have hfa:FactAt W1 A 0 f pv nv:=FactAt.of_block (by rw [←HFC.out];exact h1)
  have HFA:=zh hfa
  have HI75:Hid ((Tryz.prog.info? 61).map (·.size)=some fc.size):=zh (by rw [HFC.out,List.size_toArray,FactP.cells_len _ _ _ HFO.out];exact info61)
  obtain ⟨fh,hfh⟩:=zg (f.head.V)
  obtain ⟨fo,hfo⟩:=zg (f.old.V)
  have HIH:Hid ((Tryz.prog.info? 36).map (·.size)=some fh.length):=zh (by rw [hfh,HeadP.V_len _ HFO.out.h];exact info36)
  have HIO:Hid ((Tryz.prog.info? 36).map (·.size)=some fo.length):=zh (by rw [hfo,HeadP.V_len _ HFO.out.o];exact info36)
  have HIV:Hid ((Tryz.prog.info? 36).map (·.size)=some hv.size):=zh (by rw [HHV.out,List.size_toArray,HeadP.V_len _ HH.out];exact info36)
  rw [←hfh,←HHV.out] at hneh
  have HFH:=zh hfh
  have HFOO:=zh hfo
  have heg:=eqg36
  obtain ⟨oo,hoo⟩:=zg (f.old.o)
  obtain ⟨on,hon⟩:=zg (f.old.n)
  obtain ⟨ho,hho⟩:=zg (h.o)
  obtain ⟨hn,hhn⟩:=zg (h.n)
  rw [←hoo,←hho] at g2
  rw [←hon,←hhn] at HVAL
  have HOO:=zh hoo
  have HON:=zh hon
  have HHO:=zh hho
  have HHN:=zh hhn
  clear hfa hW1 h1 h2 hm hA hfh hfo hoo hon hho hhn
  cases b0 with
  | false =>
   have hv0:agreedP k f h false=false:=by rw [HVAL.out];simp
   have HV0:=zh hv0
   clear hv0
   go_wp2_with ((refine wpList_load_rowG 61 (.tmp 11) rfl A rfl 166 fc (0,0) _ HA1.out Tryz.underlying61 rfl HI75.out rfl ?_);go_wp2_with ((go_at_call 354;refine (HBARE.out _).mono ?_;rintro e w2 ⟨rfl,hm2⟩;have HM2:=zh (HM.out.trans hm2);have HFA2:=zh (HFA.out.mv hm2 id);have HB:=zbl hm2 HB1;obtain ⟨c5,c6,c39,c40,c73,c74,l39,l5⟩:=HFA2.out.reads HFO.out;rw [←HFH.out] at l39;rw [←HFOO.out] at l5;have HLH:=zh l39;have HLO:=zh l5;obtain ⟨d0,d1,_⟩:=head_cells (show w2.heap[A+1]?=some (.cells h.V.toArray 36 (0,0)) by rw [←HHV.out];exact HB.out);rw [←HOO.out] at c5;rw [←HON.out] at c6;rw [←HHO.out] at d0;rw [←HHN.out] at d1;clear l39 l5 hm2 c39 c40 c74);go_wp2_with fail))
   go_ret
   exact ⟨by rw [HV0.out];rfl,HM2.out⟩
  | true =>
   cases b1 with
   | false =>
    have hv0:agreedP k f h false=false:=by rw [HVAL.out];simp
    have HV0:=zh hv0
    clear hv0
    go_wp2_with ((refine wpList_load_rowG 61 (.tmp 11) rfl A rfl 166 fc (0,0) _ HA1.out Tryz.underlying61 rfl HI75.out rfl ?_);go_wp2_with ((go_at_call 354;refine (HBARE.out _).mono ?_;rintro e w2 ⟨rfl,hm2⟩;have HM2:=zh (HM.out.trans hm2);have HFA2:=zh (HFA.out.mv hm2 id);have HB:=zbl hm2 HB1;obtain ⟨c5,c6,c39,c40,c73,c74,l39,l5⟩:=HFA2.out.reads HFO.out;rw [←HFH.out] at l39;rw [←HFOO.out] at l5;have HLH:=zh l39;have HLO:=zh l5;obtain ⟨d0,d1,_⟩:=head_cells (show w2.heap[A+1]?=some (.cells h.V.toArray 36 (0,0)) by rw [←HHV.out];exact HB.out);rw [←HOO.out] at c5;rw [←HON.out] at c6;rw [←HHO.out] at d0;rw [←HHN.out] at d1;clear l39 l5 hm2 c39 c40 c74);go_wp2_with ((refine wpList_load_cellsAtG 36 (.tmp 18) rfl A 39 rfl fh _ HLH.out Tryz.underlying36 rfl HIH.out rfl ?_);go_wp2_with ((refine wpList_load_rowG 36 (.tmp 6) rfl (A+1) rfl 36 hv (0,0) _ HB.out Tryz.underlying36 rfl HIV.out rfl ?_);go_wp2_with fail))))
    go_ret
    exact ⟨by rw [HV0.out];rfl,HM2.out⟩
   | true =>
    cases b2 with
    | false =>
     have hv0:agreedP k f h false=false:=by rw [HVAL.out];simp
     have HV0:=zh hv0
     clear hv0
     go_wp2_with ((refine wpList_load_rowG 61 (.tmp 11) rfl A rfl 166 fc (0,0) _ HA1.out Tryz.underlying61 rfl HI75.out rfl ?_);go_wp2_with ((go_at_call 354;refine (HBARE.out _).mono ?_;rintro e w2 ⟨rfl,hm2⟩;have HM2:=zh (HM.out.trans hm2);have HFA2:=zh (HFA.out.mv hm2 id);have HB:=zbl hm2 HB1;obtain ⟨c5,c6,c39,c40,c73,c74,l39,l5⟩:=HFA2.out.reads HFO.out;rw [←HFH.out] at l39;rw [←HFOO.out] at l5;have HLH:=zh l39;have HLO:=zh l5;obtain ⟨d0,d1,_⟩:=head_cells (show w2.heap[A+1]?=some (.cells h.V.toArray 36 (0,0)) by rw [←HHV.out];exact HB.out);rw [←HOO.out] at c5;rw [←HON.out] at c6;rw [←HHO.out] at d0;rw [←HHN.out] at d1;clear l39 l5 hm2 c39 c40 c74);go_wp2_with ((refine wpList_load_cellsAtG 36 (.tmp 18) rfl A 39 rfl fh _ HLH.out Tryz.underlying36 rfl HIH.out rfl ?_);go_wp2_with ((refine wpList_load_rowG 36 (.tmp 6) rfl (A+1) rfl 36 hv (0,0) _ HB.out Tryz.underlying36 rfl HIV.out rfl ?_);go_wp2_with fail))))
     go_ret
     exact ⟨by rw [HV0.out];rfl,HM2.out⟩
    | true =>
     by_cases h1:on<1
     ·have e1:¬ (1≤on):=by omega
      have hv0:agreedP k f h false=false:=by rw [HVAL.out];simp [e1]
      have HV0:=zh hv0
      clear hv0
      go_wp2_with ((refine wpList_load_rowG 61 (.tmp 11) rfl A rfl 166 fc (0,0) _ HA1.out Tryz.underlying61 rfl HI75.out rfl ?_);go_wp2_with ((go_at_call 354;refine (HBARE.out _).mono ?_;rintro e w2 ⟨rfl,hm2⟩;have HM2:=zh (HM.out.trans hm2);have HFA2:=zh (HFA.out.mv hm2 id);have HB:=zbl hm2 HB1;obtain ⟨c5,c6,c39,c40,c73,c74,l39,l5⟩:=HFA2.out.reads HFO.out;rw [←HFH.out] at l39;rw [←HFOO.out] at l5;have HLH:=zh l39;have HLO:=zh l5;obtain ⟨d0,d1,_⟩:=head_cells (show w2.heap[A+1]?=some (.cells h.V.toArray 36 (0,0)) by rw [←HHV.out];exact HB.out);rw [←HOO.out] at c5;rw [←HON.out] at c6;rw [←HHO.out] at d0;rw [←HHN.out] at d1;clear l39 l5 hm2 c39 c40 c74);go_wp2_with ((refine wpList_load_cellsAtG 36 (.tmp 18) rfl A 39 rfl fh _ HLH.out Tryz.underlying36 rfl HIH.out rfl ?_);go_wp2_with ((refine wpList_load_rowG 36 (.tmp 6) rfl (A+1) rfl 36 hv (0,0) _ HB.out Tryz.underlying36 rfl HIV.out rfl ?_);go_wp2_with fail))))
      go_ret
      exact ⟨by rw [HV0.out];rfl,HM2.out⟩
     ·have e1:1≤on:=by omega
      by_cases h2:on<hn
      ·have e3:¬ (hn≤on):=by omega
       have hv0:agreedP k f h false=goesP k f.proof f.head f.old:=by rw [HVAL.out];simp [e1,h2]
       have HV0:=zh hv0
       clear hv0
       go_wp2_with ((refine wpList_load_rowG 61 (.tmp 11) rfl A rfl 166 fc (0,0) _ HA1.out Tryz.underlying61 rfl HI75.out rfl ?_);go_wp2_with ((go_at_call 354;refine (HBARE.out _).mono ?_;rintro e w2 ⟨rfl,hm2⟩;have HM2:=zh (HM.out.trans hm2);have HFA2:=zh (HFA.out.mv hm2 id);have HB:=zbl hm2 HB1;obtain ⟨c5,c6,c39,c40,c73,c74,l39,l5⟩:=HFA2.out.reads HFO.out;rw [←HFH.out] at l39;rw [←HFOO.out] at l5;have HLH:=zh l39;have HLO:=zh l5;obtain ⟨d0,d1,_⟩:=head_cells (show w2.heap[A+1]?=some (.cells h.V.toArray 36 (0,0)) by rw [←HHV.out];exact HB.out);rw [←HOO.out] at c5;rw [←HON.out] at c6;rw [←HHO.out] at d0;rw [←HHN.out] at d1;clear l39 l5 hm2 c39 c40 c74);go_wp2_with ((refine wpList_load_cellsAtG 36 (.tmp 18) rfl A 39 rfl fh _ HLH.out Tryz.underlying36 rfl HIH.out rfl ?_);go_wp2_with ((refine wpList_load_rowG 36 (.tmp 6) rfl (A+1) rfl 36 hv (0,0) _ HB.out Tryz.underlying36 rfl HIV.out rfl ?_);go_wp2_with ((refine wpList_load_cellsAt rfl 36 (.tmp 53) rfl A 39 rfl fh _ HLH.out Tryz.underlying36 rfl HIH.out ?_);go_wp2_with ((refine wpList_load_cellsAt rfl 36 (.tmp 56) rfl A 5 rfl fo _ HLO.out Tryz.underlying36 rfl HIO.out ?_);go_wp2_with ((go_at_call 99;have hgo:=goesOn_any k pv f.proof f.head f.old w2 (HP.out.mv HM2.out (fun _ _ h=>h)) HFO.out.h HFO.out.o (HE.out.mv HM2.out (fun _ h=>h.elim));rw [←HFH.out,←HFOO.out] at hgo;refine hgo.mono ?_;rintro e w3 ⟨rfl,hm3⟩;have HM3:=zh (HM2.out.trans hm3);clear hgo hm3;obtain ⟨cc,hcc⟩:=zg (goesP k f.proof f.head f.old);rw [←hcc];have HCC:=zh hcc;clear hcc);go_wp2_with fail)))))))
       go_ret
       exact ⟨by rw [HV0.out,←HCC.out];rfl,HM3.out⟩
      ·have e3:hn≤on:=by omega
       have hv0:agreedP k f h false=false:=by rw [HVAL.out];simp [h2]
       have HV0:=zh hv0
       clear hv0
       go_wp2_with ((refine wpList_load_rowG 61 (.tmp 11) rfl A rfl 166 fc (0,0) _ HA1.out Tryz.underlying61 rfl HI75.out rfl ?_);go_wp2_with ((go_at_call 354;refine (HBARE.out _).mono ?_;rintro e w2 ⟨rfl,hm2⟩;have HM2:=zh (HM.out.trans hm2);have HFA2:=zh (HFA.out.mv hm2 id);have HB:=zbl hm2 HB1;obtain ⟨c5,c6,c39,c40,c73,c74,l39,l5⟩:=HFA2.out.reads HFO.out;rw [←HFH.out] at l39;rw [←HFOO.out] at l5;have HLH:=zh l39;have HLO:=zh l5;obtain ⟨d0,d1,_⟩:=head_cells (show w2.heap[A+1]?=some (.cells h.V.toArray 36 (0,0)) by rw [←HHV.out];exact HB.out);rw [←HOO.out] at c5;rw [←HON.out] at c6;rw [←HHO.out] at d0;rw [←HHN.out] at d1;clear l39 l5 hm2 c39 c40 c74);go_wp2_with ((refine wpList_load_cellsAtG 36 (.tmp 18) rfl A 39 rfl fh _ HLH.out Tryz.underlying36 rfl HIH.out rfl ?_);go_wp2_with ((refine wpList_load_rowG 36 (.tmp 6) rfl (A+1) rfl 36 hv (0,0) _ HB.out Tryz.underlying36 rfl HIV.out rfl ?_);go_wp2_with fail))))
       go_ret
       exact ⟨by rw [HV0.out];rfl,HM2.out⟩
def HeadP.behind (k:Int) (f:FactP) (h:HeadP) (none:Bool):HeadP:=if none=true then ⟨f.head.o,0,emptyP k⟩ else h
theorem head_one (h:HeadP):h.V.toArray.all (·.oneCell')=true:=by
 unfold HeadP.V headV
 rw [List.all_toArray]
 simp [Value.oneCell',byteV]
set_option maxRecDepth 100000 in
set_option maxHeartbeats 3200000 in
theorem moved_any (k:Int) (f:FactP) (pv nv:Value) (h:HeadP) (none:Bool) (w:World) (hf:f.Ok) (hh:h.root.length=32) (hp:HsIn w pv f.proof) (he:EnvH w) :
  Calls Tryz.prog 353 #[.agg (f.cells pv nv).toArray,.int .i64 k,.agg h.V.toArray,.bool none] w fun e w'=>e=.returned (.bool (movedP k f h none))∧Mv (fun _=>False) w w':=by
 obtain ⟨g,hg⟩:=zg (HeadP.behind k f h none)
 have hgr:g.root.length=32:=by
  rw [hg];unfold HeadP.behind;split
  ·exact emptyP_length k
  ·exact hh
 have hval:movedP k f h none=(bareP f && f.old.eq g && f.head.o.toList == g.o.toList && decide (g.n<f.head.n) && decide (f.head.n≤281474976710656) && (if g.n=0 then f.proof.length == 0 else goesP k f.proof f.head g)):=by rw [hg];rfl
 have HVAL:=zh hval
 obtain ⟨pa,pc,hpv⟩:=hp.shape
 subst hpv
 obtain ⟨pl,hpl⟩:=zg (f.proof.length)
 have HPL:=zh hpl
 have HP:=zh hp
 have HE:=zh he
 have HFO:=zh hf
 have HH:=zh hh
 have HGR:=zh hgr
 have HG:=zh hg
 obtain ⟨fc,hfc⟩:=zg ((f.cells (.slice pa f.proof.length pc) nv).toArray)
 obtain ⟨hv0,hhv⟩:=zg (h.V.toArray)
 obtain ⟨hv,hgv⟩:=zg (g.V.toArray)
 rw [←hfc,←hhv]
 obtain ⟨A,hA⟩:=zg (w.heap.size)
 have h1:((w.alloc (.cells fc 164)).alloc (.cells hv0 36)).heap[w.heap.size]?=some (.cells fc 164 (0,0)):=(Below.heap_alloc _ _ _ (by simp)).trans (heap_alloc_new _ _)
 have h2:((w.alloc (.cells fc 164)).alloc (.cells hv0 36)).heap[w.heap.size+1]?=some (.cells hv0 36 (0,0)):=by
  rw [show w.heap.size+1=(w.alloc (.cells fc 164)).heap.size by simp];exact heap_alloc_new _ _
 have hm:Mv (fun _=>False) w ((w.alloc (.cells fc 164)).alloc (.cells hv0 36)):=((Mv.refl _ _).alloc _).alloc _
 have HFC:=zh hfc
 have HHV0:=zh hhv
 have HHV:=zh hgv
 have hneo:=head_neq f.old g HFO.out.o HGR.out
 obtain ⟨b0,hb0⟩:=zg (bareP f)
 obtain ⟨b1,hb1⟩:=zg (f.old.eq g)
 obtain ⟨b2,hb2⟩:=zg ((f.head.o.toList == g.o.toList))
 rw [←hb0,←hb1,←hb2,←hpl] at HVAL
 rw [←hb1] at hneo
 have HBARE:Hid (∀ W:World,Calls Tryz.prog 354 #[.agg fc] W fun e w'=>e=.returned (.bool b0)∧Mv (fun _=>False) W w'):=zh fun W=>by
  have:=bare_any fc f.path f.ver f.rcd f.id W (by rw [HFC.out];rfl) (by rw [HFC.out];rfl) (by rw [HFC.out];rfl) (by rw [HFC.out];rfl)
  rw [hb0];exact this
 have g2:=hb2.symm
 have HI75:Hid ((Tryz.prog.info? 61).map (·.size)=some fc.size):=zh (by rw [HFC.out,List.size_toArray,FactP.cells_len _ _ _ HFO.out];exact info61)
 obtain ⟨fh,hfh⟩:=zg (f.head.V)
 obtain ⟨fo,hfo⟩:=zg (f.old.V)
 have HIH:Hid ((Tryz.prog.info? 36).map (·.size)=some fh.length):=zh (by rw [hfh,HeadP.V_len _ HFO.out.h];exact info36)
 have HIO:Hid ((Tryz.prog.info? 36).map (·.size)=some fo.length):=zh (by rw [hfo,HeadP.V_len _ HFO.out.o];exact info36)
 have HIV:Hid ((Tryz.prog.info? 36).map (·.size)=some hv.size):=zh (by rw [HHV.out,List.size_toArray,HeadP.V_len _ HGR.out];exact info36)
 rw [←hfo,←HHV.out] at hneo
 have HFH:=zh hfh
 have HFOO:=zh hfo
 have heg:=eqg36
 obtain ⟨oo,hoo⟩:=zg (f.head.o)
 obtain ⟨on,hon⟩:=zg (f.head.n)
 obtain ⟨ho,hho⟩:=zg (g.o)
 obtain ⟨hn,hhn⟩:=zg (g.n)
 rw [←hoo,←hho] at g2
 rw [←hon,←hhn] at HVAL
 have HOO:=zh hoo
 have HON:=zh hon
 have HHO:=zh hho
 have HHN:=zh hhn
 clear hp he hf hh hfc hhv hgv hgr hg hval hb0 hb1 hb2 hfh hfo hoo hon hho hhn hpl
 go_enter Tryz.func353,Tryz.ntmps353
 go_upto_if 9 with fail
 generalize hW1:(w.alloc (.cells fc 164)).alloc (.cells hv0 36)=W1
 rw [hW1] at h1 h2 hm
 rw [←hA] at h1 h2 ⊢
 have HA0:=zh h1
 have HB0:=zh h2
 have HM0:=zh hm
 have HAW:=zh hA
 clear hW1 h1 h2 hm hA
 go_cut [] (fun wx=>wx.heap[A]?=some (.cells fc 164 (0,0))∧wx.heap[A+1]?=some (.cells hv 36 (0,0))∧Mv (fun _=>False) w wx)
 case first =>
  cases none with
  | false =>
   go_wp2_with fail
   go_meet
   have:hv0=hv:=by rw [HHV0.out,HHV.out,HG.out];rfl
   exact ⟨HA0.out,by rw [←this];exact HB0.out,HM0.out⟩
  | true =>
   obtain ⟨ec,hec⟩:=zg (((emptyP k).map byteV).toArray)
   have hecz:ec.size=32:=by rw [hec];simp [emptyP_length]
   have HEC:=zh hec
   have hbj:=build_joined (.string oo) (.int .i64 0) ec hecz
   have hhv2:hv=#[.string oo,.int .i64 0]++ec:=by rw [HHV.out,HG.out,HEC.out,HOO.out];simp [HeadP.behind,HeadP.V,headV]
   have HHV2:=zh hhv2
   have ho39:∀ W:World,W.heap[A]?=some (.cells fc 164 (0,0))→W.cell? ⟨A,39,Option.none⟩=some (.string oo):=fun W hW=>by
    have:=(FactAt.of_block (w:=W) (f:=f) (pv:=.slice pa f.proof.length pc) (nv:=nv) (by rw [←HFC.out];exact hW)).reads HFO.out
    rw [HOO.out];exact this.2.2.1
   have HO39:=zh ho39
   clear hec ho39 hhv2
   go_upto_region 2 with fail
   refine wp_region_noPanic ?_
   refine wp_region_held_drew (S:=(fun w'=>w'.heap[A]?=some (.cells fc 164 (0,0)))) (by kernel_rfl) (HA0.out) (fun hHeld=>?_)
   refine zt 0 (.pointer (some ⟨A,0,Option.none⟩)) rfl (fun _ hS=>by go_simp) hHeld ?_
   try walk_nrm
   refine zt 1 (.pointer (some ⟨A,39,Option.none⟩)) rfl (fun _ hS=>by go_simp) hHeld ?_
   try walk_nrm
   refine zt 2 (.pointer (some ⟨A,39,Option.none⟩)) rfl (fun _ hS=>by go_simp) hHeld ?_
   try walk_nrm
   refine zt 3 (.string oo) rfl (fun _ hS=>by have:=HO39.out _ hS;go_simp) hHeld ?_
   try walk_nrm
   refine zt 4 (.int .i64 k) rfl (fun _ hS=>by go_simp) hHeld ?_
   try walk_nrm
   refine zo 5 rfl fun K' hK=>?_
   unfold Oper.wp execOp
   go_simp
   have hem:=emptyHash_any k W1.drew (HE.out.mv HM0.out.drew (fun _ h=>h.elim))
   rw [show hashV (emptyP k)=.agg ec by rw [HEC.out];rfl] at hem
   refine hem.mono ?_
   rintro e w2 ⟨rfl,hm2⟩
   have HM2:Hid (Mv (fun _=>False) W1 w2):=zh ((Mv.refl _ _).drew.trans hm2)
   have hs2:=(hm2.block A (lt_of_heap hHeld) id).trans hHeld
   clear hem hm2
   refine hK.out _ _ hs2 (fun hHeld=>?_)
   clear hK K'
   try walk_nrm
   clear hs2
   refine zt 6 (.agg (#[.string oo,.int .i64 0]++ec)) rfl (fun _ hS=>by go_simp) hHeld ?_
   try walk_nrm
   refine zo 7 rfl fun K' hK=>?_
   have hB2:=(HM2.out.block _ (lt_of_heap HB0.out) id).trans HB0.out
   refine wp_store_row 36 (.tmp 6) (.tmp 16) rfl (A+1) (#[.string oo,.int .i64 0]++ec) rfl rfl 36 hv0 hB2 (by rw [←HHV2.out];exact HIV.out) (by rw [HHV0.out,List.size_toArray,HeadP.V_len _ HH.out];simp [hecz]) (by rw [←HHV2.out,HHV.out];exact head_one g) ?_
   have hs3:(w2.setRow (A+1) (#[.string oo,.int .i64 0]++ec)).heap[A]?=some (.cells fc 164 (0,0)):=(setRow_other _ _ _ _ (by omega)).trans hHeld
   have hs4:=hs3
   have hb3:(w2.setRow (A+1) (#[.string oo,.int .i64 0]++ec)).heap[A+1]?=some (.cells hv 36 (0,0)):=by rw [HHV2.out];exact setRow_heap _ _ _ _ _ _ hB2
   have HM3:Hid (Mv (fun _=>False) w (w2.setRow (A+1) (#[.string oo,.int .i64 0]++ec))):=zh ((HM0.out.trans HM2.out).setRow (.inr (by have:=HAW.out;omega)) _)
   have HB3:=zh hb3
   have HS4:=zh hs4
   clear hB2 hb3 hs4
   refine hK.out _ _ hs3 (fun hHeld=>?_)
   clear hK K'
   try walk_nrm
   clear hs3
   refine zd ?_
   go_wp2_with fail
   go_meet
   exact ⟨HS4.out,HB3.out,HM3.out⟩
 case rest =>
  obtain ⟨h1,h2,hm⟩:=hcut
  have HA1:=zh h1
  have HB1:=zh h2
  have HM:=zh hm
  have hfa:FactAt wc A 0 f (.slice pa f.proof.length pc) nv:=FactAt.of_block (by rw [←HFC.out];exact h1)
  have HFA:=zh hfa
  clear hfa h1 h2 hm
  cases b0 with
  | false =>
   have hv0:movedP k f h none=false:=by rw [HVAL.out];simp
   have HV0:=zh hv0
   clear hv0
   go_wp2_with ((refine wpList_load_row rfl 61 (.tmp 17) rfl A rfl 164 fc (0,0) _ HA1.out Tryz.underlying61 rfl HI75.out ?_);go_wp2_with ((go_at_call 354;refine (HBARE.out _).mono ?_;rintro e w2 ⟨rfl,hm2⟩;have HM2:=zh (HM.out.trans hm2);have HFA2:=zh (HFA.out.mv hm2 id);have HB:=zbl hm2 HB1;obtain ⟨c5,c6,c39,c40,c73,c74,l39,l5⟩:=HFA2.out.reads HFO.out;rw [←HFH.out] at l39;rw [←HFOO.out] at l5;have HLH:=zh l39;have HLO:=zh l5;obtain ⟨d0,d1,_⟩:=head_cells (show w2.heap[A+1]?=some (.cells g.V.toArray 36 (0,0)) by rw [←HHV.out];exact HB.out);rw [←HOO.out] at c39;rw [←HON.out] at c40;rw [←HHO.out] at d0;rw [←HHN.out] at d1;rw [←HPL.out] at c73;clear l39 l5 hm2 c5 c6 c74);go_wp2_with fail))
   go_ret
   exact ⟨by rw [HV0.out];rfl,HM2.out⟩
  | true =>
   cases b1 with
   | false =>
    have hv0:movedP k f h none=false:=by rw [HVAL.out];simp
    have HV0:=zh hv0
    clear hv0
    go_wp2_with ((refine wpList_load_row rfl 61 (.tmp 17) rfl A rfl 164 fc (0,0) _ HA1.out Tryz.underlying61 rfl HI75.out ?_);go_wp2_with ((go_at_call 354;refine (HBARE.out _).mono ?_;rintro e w2 ⟨rfl,hm2⟩;have HM2:=zh (HM.out.trans hm2);have HFA2:=zh (HFA.out.mv hm2 id);have HB:=zbl hm2 HB1;obtain ⟨c5,c6,c39,c40,c73,c74,l39,l5⟩:=HFA2.out.reads HFO.out;rw [←HFH.out] at l39;rw [←HFOO.out] at l5;have HLH:=zh l39;have HLO:=zh l5;obtain ⟨d0,d1,_⟩:=head_cells (show w2.heap[A+1]?=some (.cells g.V.toArray 36 (0,0)) by rw [←HHV.out];exact HB.out);rw [←HOO.out] at c39;rw [←HON.out] at c40;rw [←HHO.out] at d0;rw [←HHN.out] at d1;rw [←HPL.out] at c73;clear l39 l5 hm2 c5 c6 c74);go_wp2_with ((refine wpList_load_cellsAtG 36 (.tmp 23) rfl A 5 rfl fo _ HLO.out Tryz.underlying36 rfl HIO.out rfl ?_);go_wp2_with ((refine wpList_load_rowG 36 (.tmp 6) rfl (A+1) rfl 36 hv (0,0) _ HB.out Tryz.underlying36 rfl HIV.out rfl ?_);go_wp2_with fail))))
    go_ret
    exact ⟨by rw [HV0.out];rfl,HM2.out⟩
   | true =>
    cases b2 with
    | false =>
     have hv0:movedP k f h none=false:=by rw [HVAL.out];simp
     have HV0:=zh hv0
     clear hv0
     go_wp2_with ((refine wpList_load_row rfl 61 (.tmp 17) rfl A rfl 164 fc (0,0) _ HA1.out Tryz.underlying61 rfl HI75.out ?_);go_wp2_with ((go_at_call 354;refine (HBARE.out _).mono ?_;rintro e w2 ⟨rfl,hm2⟩;have HM2:=zh (HM.out.trans hm2);have HFA2:=zh (HFA.out.mv hm2 id);have HB:=zbl hm2 HB1;obtain ⟨c5,c6,c39,c40,c73,c74,l39,l5⟩:=HFA2.out.reads HFO.out;rw [←HFH.out] at l39;rw [←HFOO.out] at l5;have HLH:=zh l39;have HLO:=zh l5;obtain ⟨d0,d1,_⟩:=head_cells (show w2.heap[A+1]?=some (.cells g.V.toArray 36 (0,0)) by rw [←HHV.out];exact HB.out);rw [←HOO.out] at c39;rw [←HON.out] at c40;rw [←HHO.out] at d0;rw [←HHN.out] at d1;rw [←HPL.out] at c73;clear l39 l5 hm2 c5 c6 c74);go_wp2_with ((refine wpList_load_cellsAtG 36 (.tmp 23) rfl A 5 rfl fo _ HLO.out Tryz.underlying36 rfl HIO.out rfl ?_);go_wp2_with ((refine wpList_load_rowG 36 (.tmp 6) rfl (A+1) rfl 36 hv (0,0) _ HB.out Tryz.underlying36 rfl HIV.out rfl ?_);go_wp2_with fail))))
     go_ret
     exact ⟨by rw [HV0.out];rfl,HM2.out⟩
    | true =>
     by_cases h1:on≤hn
     ·have e1:¬ (hn<on):=by omega
      have hv0:movedP k f h none=false:=by rw [HVAL.out];simp [e1]
      have HV0:=zh hv0
      clear hv0
      go_wp2_with ((refine wpList_load_row rfl 61 (.tmp 17) rfl A rfl 164 fc (0,0) _ HA1.out Tryz.underlying61 rfl HI75.out ?_);go_wp2_with ((go_at_call 354;refine (HBARE.out _).mono ?_;rintro e w2 ⟨rfl,hm2⟩;have HM2:=zh (HM.out.trans hm2);have HFA2:=zh (HFA.out.mv hm2 id);have HB:=zbl hm2 HB1;obtain ⟨c5,c6,c39,c40,c73,c74,l39,l5⟩:=HFA2.out.reads HFO.out;rw [←HFH.out] at l39;rw [←HFOO.out] at l5;have HLH:=zh l39;have HLO:=zh l5;obtain ⟨d0,d1,_⟩:=head_cells (show w2.heap[A+1]?=some (.cells g.V.toArray 36 (0,0)) by rw [←HHV.out];exact HB.out);rw [←HOO.out] at c39;rw [←HON.out] at c40;rw [←HHO.out] at d0;rw [←HHN.out] at d1;rw [←HPL.out] at c73;clear l39 l5 hm2 c5 c6 c74);go_wp2_with ((refine wpList_load_cellsAtG 36 (.tmp 23) rfl A 5 rfl fo _ HLO.out Tryz.underlying36 rfl HIO.out rfl ?_);go_wp2_with ((refine wpList_load_rowG 36 (.tmp 6) rfl (A+1) rfl 36 hv (0,0) _ HB.out Tryz.underlying36 rfl HIV.out rfl ?_);go_wp2_with fail))))
      go_ret
      exact ⟨by rw [HV0.out];rfl,HM2.out⟩
     ·have e1:hn<on:=by omega
      by_cases h2:281474976710656<on
      ·have e3:¬ (on≤281474976710656):=by omega
       have hv0:movedP k f h none=false:=by rw [HVAL.out];simp [e3]
       have HV0:=zh hv0
       clear hv0
       go_wp2_with ((refine wpList_load_row rfl 61 (.tmp 17) rfl A rfl 164 fc (0,0) _ HA1.out Tryz.underlying61 rfl HI75.out ?_);go_wp2_with ((go_at_call 354;refine (HBARE.out _).mono ?_;rintro e w2 ⟨rfl,hm2⟩;have HM2:=zh (HM.out.trans hm2);have HFA2:=zh (HFA.out.mv hm2 id);have HB:=zbl hm2 HB1;obtain ⟨c5,c6,c39,c40,c73,c74,l39,l5⟩:=HFA2.out.reads HFO.out;rw [←HFH.out] at l39;rw [←HFOO.out] at l5;have HLH:=zh l39;have HLO:=zh l5;obtain ⟨d0,d1,_⟩:=head_cells (show w2.heap[A+1]?=some (.cells g.V.toArray 36 (0,0)) by rw [←HHV.out];exact HB.out);rw [←HOO.out] at c39;rw [←HON.out] at c40;rw [←HHO.out] at d0;rw [←HHN.out] at d1;rw [←HPL.out] at c73;clear l39 l5 hm2 c5 c6 c74);go_wp2_with ((refine wpList_load_cellsAtG 36 (.tmp 23) rfl A 5 rfl fo _ HLO.out Tryz.underlying36 rfl HIO.out rfl ?_);go_wp2_with ((refine wpList_load_rowG 36 (.tmp 6) rfl (A+1) rfl 36 hv (0,0) _ HB.out Tryz.underlying36 rfl HIV.out rfl ?_);go_wp2_with fail))))
       go_ret
       exact ⟨by rw [HV0.out];rfl,HM2.out⟩
      ·have e3:on≤281474976710656:=by omega
       by_cases h3:hn=0
       ·subst h3
        obtain ⟨bl,hbl⟩:=zg (((pl:Int) == 0))
        have hv0:movedP k f h none=bl:=by
         rw [HVAL.out,hbl]
         simp [e1,e3]
         cases pl <;> simp <;> omega
        have HV0:=zh hv0
        have gl:=hbl.symm
        clear hv0 hbl
        go_wp2_with ((refine wpList_load_row rfl 61 (.tmp 17) rfl A rfl 164 fc (0,0) _ HA1.out Tryz.underlying61 rfl HI75.out ?_);go_wp2_with ((go_at_call 354;refine (HBARE.out _).mono ?_;rintro e w2 ⟨rfl,hm2⟩;have HM2:=zh (HM.out.trans hm2);have HFA2:=zh (HFA.out.mv hm2 id);have HB:=zbl hm2 HB1;obtain ⟨c5,c6,c39,c40,c73,c74,l39,l5⟩:=HFA2.out.reads HFO.out;rw [←HFH.out] at l39;rw [←HFOO.out] at l5;have HLH:=zh l39;have HLO:=zh l5;obtain ⟨d0,d1,_⟩:=head_cells (show w2.heap[A+1]?=some (.cells g.V.toArray 36 (0,0)) by rw [←HHV.out];exact HB.out);rw [←HOO.out] at c39;rw [←HON.out] at c40;rw [←HHO.out] at d0;rw [←HHN.out] at d1;rw [←HPL.out] at c73;clear l39 l5 hm2 c5 c6 c74);go_wp2_with ((refine wpList_load_cellsAtG 36 (.tmp 23) rfl A 5 rfl fo _ HLO.out Tryz.underlying36 rfl HIO.out rfl ?_);go_wp2_with ((refine wpList_load_rowG 36 (.tmp 6) rfl (A+1) rfl 36 hv (0,0) _ HB.out Tryz.underlying36 rfl HIV.out rfl ?_);go_wp2_with fail))))
        go_ret
        exact ⟨by rw [HV0.out];rfl,HM2.out⟩
       ·have g3:(hn == 0)=false:=by simpa using h3
        have hv0:movedP k f h none=goesP k f.proof f.head g:=by rw [HVAL.out];simp [e1,e3,h3]
        have HV0:=zh hv0
        clear hv0
        go_wp2_with ((refine wpList_load_row rfl 61 (.tmp 17) rfl A rfl 164 fc (0,0) _ HA1.out Tryz.underlying61 rfl HI75.out ?_);go_wp2_with ((go_at_call 354;refine (HBARE.out _).mono ?_;rintro e w2 ⟨rfl,hm2⟩;have HM2:=zh (HM.out.trans hm2);have HFA2:=zh (HFA.out.mv hm2 id);have HB:=zbl hm2 HB1;obtain ⟨c5,c6,c39,c40,c73,c74,l39,l5⟩:=HFA2.out.reads HFO.out;rw [←HFH.out] at l39;rw [←HFOO.out] at l5;have HLH:=zh l39;have HLO:=zh l5;obtain ⟨d0,d1,_⟩:=head_cells (show w2.heap[A+1]?=some (.cells g.V.toArray 36 (0,0)) by rw [←HHV.out];exact HB.out);rw [←HOO.out] at c39;rw [←HON.out] at c40;rw [←HHO.out] at d0;rw [←HHN.out] at d1;rw [←HPL.out] at c73;clear l39 l5 hm2 c5 c6 c74);go_wp2_with ((refine wpList_load_cellsAtG 36 (.tmp 23) rfl A 5 rfl fo _ HLO.out Tryz.underlying36 rfl HIO.out rfl ?_);go_wp2_with ((refine wpList_load_rowG 36 (.tmp 6) rfl (A+1) rfl 36 hv (0,0) _ HB.out Tryz.underlying36 rfl HIV.out rfl ?_);go_wp2_with ((refine wpList_load_cellsAt rfl 36 (.tmp 66) rfl A 39 rfl fh _ HLH.out Tryz.underlying36 rfl HIH.out ?_);go_wp2_with ((refine wpList_load_row rfl 36 (.tmp 6) rfl (A+1) rfl 36 hv (0,0) _ HB.out Tryz.underlying36 rfl HIV.out ?_);go_wp2_with ((go_at_call 99;have hgo:=goesOn_any k (.slice pa f.proof.length pc) f.proof f.head g w2 (HP.out.mv HM2.out (fun _ _ h=>h)) HFO.out.h HGR.out (HE.out.mv HM2.out (fun _ h=>h.elim));rw [←HFH.out,←HHV.out,←HPL.out] at hgo;refine hgo.mono ?_;rintro e w3 ⟨rfl,hm3⟩;have HM3:=zh (HM2.out.trans hm3);clear hgo hm3;obtain ⟨cc,hcc⟩:=zg (goesP k f.proof f.head g);rw [←hcc];have HCC:=zh hcc;clear hcc);go_wp2_with fail)))))))
        go_ret
        exact ⟨by rw [HV0.out,←HCC.out];rfl,HM3.out⟩
set_option maxRecDepth 100000 in
set_option maxHeartbeats 1600000 in
theorem accepted_any (k:Int) (f:FactP) (pv nv:Value) (h:HeadP) (none:Bool) (w:World) (hf:f.Ok) (hh:h.root.length=32) (hp:HsIn w pv f.proof) (hn:SlIn w nv f.note) (he:EnvH w) (henv:EnvP w) (hr:f.rcd.size≤1048576) (hpl:f.proof.length≤1048576) :
  Calls Tryz.prog 355 #[.agg (f.cells pv nv).toArray,.int .i64 k,.agg h.V.toArray,.bool none] w fun e w'=>e=.returned (.bool (acceptedP k f h none))∧Mv (fun _=>False) w w':=by
 have HP:=zh hp
 have HE:=zh he
 have HENV:=zh henv
 have HN:=zh hn
 have HR:=zh hr
 have HPL:=zh hpl
 have HFO:=zh hf
 have HH:=zh hh
 obtain ⟨fc,hfc⟩:=zg ((f.cells pv nv).toArray)
 obtain ⟨hv,hhv⟩:=zg (h.V.toArray)
 rw [←hfc,←hhv]
 obtain ⟨A,hA⟩:=zg (w.heap.size)
 have h1:((w.alloc (.cells fc 165)).alloc (.cells hv 36)).heap[w.heap.size]?=some (.cells fc 165 (0,0)):=(Below.heap_alloc _ _ _ (by simp)).trans (heap_alloc_new _ _)
 have h2:((w.alloc (.cells fc 165)).alloc (.cells hv 36)).heap[w.heap.size+1]?=some (.cells hv 36 (0,0)):=by
  rw [show w.heap.size+1=(w.alloc (.cells fc 165)).heap.size by simp];exact heap_alloc_new _ _
 have hm:Mv (fun _=>False) w ((w.alloc (.cells fc 165)).alloc (.cells hv 36)):=((Mv.refl _ _).alloc _).alloc _
 have HFC:=zh hfc
 have HHV:=zh hhv
 clear hp he henv hn hr hpl hf hh hfc hhv
 cases none with
 | true =>
  go_enter Tryz.func355,Tryz.ntmps355
  go_upto_region 1 with fail
  generalize hW1:(w.alloc (.cells fc 165)).alloc (.cells hv 36)=W1
  rw [hW1] at h1 h2 hm
  have HM:=zh hm
  clear hW1 h1 h2 hm hA
  go_wp2_with fail
  go_ret
  have hv0:acceptedP k f h true=false:=by unfold acceptedP;simp
  exact ⟨by rw [hv0];rfl,HM.out⟩
 | false =>
  go_enter Tryz.func355,Tryz.ntmps355
  go_upto_region 1 with fail
  generalize hW1:(w.alloc (.cells fc 165)).alloc (.cells hv 36)=W1
  rw [hW1] at h1 h2 hm
  rw [←hA] at h1 h2 ⊢
  have HB:=zh h2
  have HM:=zh hm
  have hfa:FactAt W1 A 0 f pv nv:=FactAt.of_block (by rw [←HFC.out];exact h1)
  have HFA:=zh hfa
  obtain ⟨fh,hfh⟩:=zg (f.head.V)
  obtain ⟨fo,hfo⟩:=zg (f.old.V)
  have HLH:Hid (∀ (j:Nat) v,fh[j]?=some v→W1.cell? ⟨A,39+j,Option.none⟩=some v):=zh fun j v hv=>by
   have:=hfa (39+j) v (f.chead pv nv HFO.out j v (by rw [←hfh];exact hv));rw [Nat.zero_add] at this;exact this
  have HLO:Hid (∀ (j:Nat) v,fo[j]?=some v→W1.cell? ⟨A,5+j,Option.none⟩=some v):=zh fun j v hv=>by
   have:=hfa (5+j) v (f.cold pv nv j v (by rw [←hfo];exact hv));rw [Nat.zero_add] at this;exact this
  have HIH:Hid ((Tryz.prog.info? 36).map (·.size)=some fh.length):=zh (by rw [hfh,HeadP.V_len _ HFO.out.h];exact info36)
  have HIO:Hid ((Tryz.prog.info? 36).map (·.size)=some fo.length):=zh (by rw [hfo,HeadP.V_len _ HFO.out.o];exact info36)
  have HIV:Hid ((Tryz.prog.info? 36).map (·.size)=some hv.size):=zh (by rw [HHV.out,List.size_toArray,HeadP.V_len _ HH.out];exact info36)
  have c1:=hfa 1 _ (f.c1 pv nv)
  have c2:=hfa 2 _ (f.c2 pv nv)
  have c3:=hfa 3 _ (f.c3 pv nv)
  have c4:=hfa 4 _ (f.c4 pv nv)
  have c73:=hfa 73 _ (f.c73 pv nv HFO.out)
  have c74:=hfa 74 _ (f.c74 pv nv HFO.out)
  simp only [Nat.zero_add] at c1 c2 c3 c4 c73 c74
  have hneh:=head_neq f.head h HFO.out.h HH.out
  have hneo:=head_neq f.old head0 HFO.out.o rfl
  rw [←hfh,←HHV.out] at hneh
  rw [←hfo,head0_lit] at hneo
  have heg:=eqg36
  have HFH:=zh hfh
  have HFOO:=zh hfo
  clear hfa hW1 h1 h2 hm hA hfh hfo
  have hval:acceptedP k f h false=(f.head.eq h && f.old.eq head0 && f.note.length == 0 && isOfP f.rcd.data.toList f.path.data.toList f.ver.data.toList && (checkAns k h.n f.id h.root (leafP k f.rcd.data.toList) f.proof == 0)):=by unfold acceptedP;rfl
  have HVAL:=zh hval
  obtain ⟨b1,hb1⟩:=zg (f.head.eq h)
  obtain ⟨b2,hb2⟩:=zg (f.old.eq head0)
  obtain ⟨nl,hnl⟩:=zg (f.note.length)
  rw [←hb1] at hneh
  rw [←hb2] at hneo
  rw [←hb1,←hb2,←hnl] at HVAL
  obtain ⟨na,nc,hnv⟩:∃ a c,nv=.slice a nl c:=by
   rcases HN.out with ⟨h1,h2⟩|⟨g,off,cap,h1,_⟩
   ·exact ⟨_,_,by rw [h1,hnl,h2];rfl⟩
   ·exact ⟨_,_,by rw [h1,hnl]⟩
  rw [hnv] at c74
  have HNV:=zh hnv
  clear hval hb1 hb2 hnl hnv
  cases b1 with
  | false =>
   have hv0:acceptedP k f h false=false:=by rw [HVAL.out];simp
   have HV0:=zh hv0
   clear hv0 hneo
   go_wp2_with ((refine wpList_load_cellsAtG 36 (.tmp 12) rfl A 39 rfl fh _ HLH.out Tryz.underlying36 rfl HIH.out rfl ?_);go_wp2_with ((refine wpList_load_rowG 36 (.tmp 6) rfl (A+1) rfl 36 hv (0,0) _ HB.out Tryz.underlying36 rfl HIV.out rfl ?_);go_wp2_with fail))
   go_ret
   exact ⟨by rw [HV0.out];rfl,HM.out⟩
  | true =>
   cases b2 with
   | false =>
    have hv0:acceptedP k f h false=false:=by rw [HVAL.out];simp
    have HV0:=zh hv0
    clear hv0
    go_wp2_with ((refine wpList_load_cellsAtG 36 (.tmp 12) rfl A 39 rfl fh _ HLH.out Tryz.underlying36 rfl HIH.out rfl ?_);go_wp2_with ((refine wpList_load_rowG 36 (.tmp 6) rfl (A+1) rfl 36 hv (0,0) _ HB.out Tryz.underlying36 rfl HIV.out rfl ?_);go_wp2_with ((refine wpList_load_cellsAtG 36 (.tmp 19) rfl A 5 rfl fo _ HLO.out Tryz.underlying36 rfl HIO.out rfl ?_);go_wp2_with fail)))
    go_ret
    exact ⟨by rw [HV0.out];rfl,HM.out⟩
   | true =>
    by_cases hn0:nl=0
    ·subst hn0
     have HISO:=zh (isOf_any f.rcd f.path f.ver W1 (HENV.out.still HM.out.below) HR.out)
     obtain ⟨b4,hb4⟩:=zg (isOfP f.rcd.data.toList f.path.data.toList f.ver.data.toList)
     rw [←hb4] at HISO HVAL
     clear hb4
     cases b4 with
     | false =>
      have hv0:acceptedP k f h false=false:=by rw [HVAL.out];simp
      have HV0:=zh hv0
      clear hv0
      go_wp2_with ((refine wpList_load_cellsAtG 36 (.tmp 12) rfl A 39 rfl fh _ HLH.out Tryz.underlying36 rfl HIH.out rfl ?_);go_wp2_with ((refine wpList_load_rowG 36 (.tmp 6) rfl (A+1) rfl 36 hv (0,0) _ HB.out Tryz.underlying36 rfl HIV.out rfl ?_);go_wp2_with ((refine wpList_load_cellsAtG 36 (.tmp 19) rfl A 5 rfl fo _ HLO.out Tryz.underlying36 rfl HIO.out rfl ?_);go_wp2_with ((go_at_call 42;refine HISO.out.mono ?_;rintro e w2 ⟨rfl,hb2⟩;have HM2:Hid (Mv (fun _=>False) w w2):=zh (HM.out.trans (Mv.of_below hb2));have HS2:Hid (Mv (fun _=>False) W1 w2):=zh (Mv.of_below hb2);clear hb2);go_wp2_with fail))))
      go_ret
      exact ⟨by rw [HV0.out];rfl,HM2.out⟩
     | true =>
      have hv0:acceptedP k f h false=(checkAns k h.n f.id h.root (leafP k f.rcd.data.toList) f.proof == 0):=by rw [HVAL.out];simp
      have HV0:=zh hv0
      clear hv0
      go_wp2_with ((refine wpList_load_cellsAtG 36 (.tmp 12) rfl A 39 rfl fh _ HLH.out Tryz.underlying36 rfl HIH.out rfl ?_);go_wp2_with ((refine wpList_load_rowG 36 (.tmp 6) rfl (A+1) rfl 36 hv (0,0) _ HB.out Tryz.underlying36 rfl HIV.out rfl ?_);go_wp2_with ((refine wpList_load_cellsAtG 36 (.tmp 19) rfl A 5 rfl fo _ HLO.out Tryz.underlying36 rfl HIO.out rfl ?_);go_wp2_with ((go_at_call 42;refine HISO.out.mono ?_;rintro e w2 ⟨rfl,hb2⟩;have HM2:Hid (Mv (fun _=>False) w w2):=zh (HM.out.trans (Mv.of_below hb2));have HS2:Hid (Mv (fun _=>False) W1 w2):=zh (Mv.of_below hb2);clear hb2;have e73:=(HS2.out.cell (p:=⟨A,73,Option.none⟩) (World.block_lt_of_cell? _ _ c73) id).trans c73;have e3:=(HS2.out.cell (p:=⟨A,3,Option.none⟩) (World.block_lt_of_cell? _ _ c3) id).trans c3;have e4:=(HS2.out.cell (p:=⟨A,4,Option.none⟩) (World.block_lt_of_cell? _ _ c4) id).trans c4);go_wp2_with ((refine wpList_load_row rfl 36 (.tmp 6) rfl (A+1) rfl 36 hv (0,0) _ ((HS2.out.block (A+1) (lt_of_heap HB.out) id).trans HB.out) Tryz.underlying36 rfl HIV.out ?_);go_wp2_with ((go_at_call 43;have hst:=stands_any k pv f.proof h.o h.n h.root f.id f.rcd w2 (HP.out.mv HM2.out (fun _ _ h=>h)) HH.out (Nat.le_trans HPL.out (by decide)) (Nat.le_trans HR.out (by decide)) (HE.out.mv HM2.out (fun _ h=>h.elim));rw [show headV h.o h.n h.root=h.V from rfl,←HHV.out] at hst;refine hst.mono ?_;rintro e w3 ⟨rfl,hm3⟩;have HM3:=zh (HM2.out.trans hm3);clear hst hm3;obtain ⟨cc,hcc⟩:=zg ((checkAns k h.n f.id h.root (leafP k f.rcd.data.toList) f.proof == 0));rw [←hcc];have HCC:=zh hcc;clear hcc);go_wp2_with fail))))))
      go_ret
      exact ⟨by rw [HV0.out,←HCC.out];rfl,HM3.out⟩
    ·have hn1:((nl:Int) != 0)=true:=by simp;omega
     have hv0:acceptedP k f h false=false:=by rw [HVAL.out];simp [hn0]
     have HV0:=zh hv0
     clear hv0
     go_wp2_with ((refine wpList_load_cellsAtG 36 (.tmp 12) rfl A 39 rfl fh _ HLH.out Tryz.underlying36 rfl HIH.out rfl ?_);go_wp2_with ((refine wpList_load_rowG 36 (.tmp 6) rfl (A+1) rfl 36 hv (0,0) _ HB.out Tryz.underlying36 rfl HIV.out rfl ?_);go_wp2_with ((refine wpList_load_cellsAtG 36 (.tmp 19) rfl A 5 rfl fo _ HLO.out Tryz.underlying36 rfl HIO.out rfl ?_);go_wp2_with fail)))
     go_ret
     exact ⟨by rw [HV0.out];rfl,HM.out⟩
structure FactP.Small (f:FactP):Prop where
 r:f.rcd.size≤1048576
 p:f.proof.length≤1048576
def FactIn (w:World) (g o:Nat) (f:FactP):Prop:=f.Ok∧f.Small∧∃ pv nv,FactAt w g o f pv nv∧HsIn w pv f.proof∧SlIn w nv f.note
theorem FactIn.mv {w w':World} {g o:Nat} {f:FactP} (h:FactIn w g o f) (hm:Mv (fun _=>False) w w'):FactIn w' g o f:=by
 obtain ⟨h1,h2,pv,nv,h3,h4,h5⟩:=h
 exact ⟨h1,h2,pv,nv,h3.mv hm id,h4.mv hm (fun _ _ h=>h),h5.mv hm (fun _ _ h=>h)⟩
def FactsIn (w:World) (v:Value) (L:List FactP):Prop :=
 ∃ a c,v=.slice a L.length c∧L.length≤c∧∀ (j:Nat) f,L[j]?=some f→∃ g off,a=some ⟨g,off,none⟩∧FactIn w g (off+j * 75) f
theorem FactsIn.mv {w w':World} {v:Value} {L:List FactP} (h:FactsIn w v L) (hm:Mv (fun _=>False) w w'):FactsIn w' v L:=by
 obtain ⟨a,c,h1,h2,h3⟩:=h
 exact ⟨a,c,h1,h2,fun j f hj=>by
  obtain ⟨g,off,e,hf⟩:=h3 j f hj
  exact ⟨g,off,e,hf.mv hm⟩⟩
theorem EnvP.mv {w w':World} (h:EnvP w) (hm:Mv (fun _=>False) w w'):EnvP w':=h.still hm.below
theorem method_r165 (cs : Array Value) (w : World) : (method 565 165 (.agg cs) "ledger/evidence.right").run Tryz.prog w = .ok (355, .agg cs) w := by kernel_rfl
theorem method_r164 (cs : Array Value) (w : World) : (method 565 164 (.agg cs) "ledger/evidence.right").run Tryz.prog w = .ok (353, .agg cs) w := by kernel_rfl
theorem method_r166 (cs : Array Value) (w : World) : (method 565 166 (.agg cs) "ledger/evidence.right").run Tryz.prog w = .ok (356, .agg cs) w := by kernel_rfl
theorem method_r244 (cs : Array Value) (w : World) : (method 565 244 (.agg cs) "ledger/evidence.right").run Tryz.prog w = .ok (360, .agg cs) w := by kernel_rfl
set_option maxRecDepth 100000 in
set_option maxHeartbeats 800000 in
theorem wp_right {o : Oper} {a : Act} {w : World} {K : Act → World → Prop} {Q : Exit → Act → World → Prop} (s t1 t2 t3 : Nat) (tys : Array TypeId) (ho : o.op = .call { callee := .invoke (.tmp s) "ledger/evidence.right", args := #[.tmp t1, .tmp t2, .tmp t3], argTypes := tys })
  (k:Int) (f:FactP) (pv nv:Value) (h:HeadP) (none:Bool) (hs:a.tmps[s]?.getD undef=factV f.kind (f.cells pv nv).toArray) (h1:a.tmps[t1]?.getD undef=.int .i64 k) (h2:a.tmps[t2]?.getD undef=.agg h.V.toArray) (h3:a.tmps[t3]?.getD undef=.bool none)
  (hf:f.Ok) (hsm:f.Small) (hh:h.root.length=32) (hp:HsIn w pv f.proof) (hn:SlIn w nv f.note) (he:EnvH w) (henv:EnvP w)
  (hK:∀ w',Mv (fun _=>False) w w'→K (a.put o.dst (.bool (rightP k f h none))) w'):Oper.wp Tryz.prog o a w K Q:=by
 have m1:=method_r165
 have m2:=method_r164
 have m3:=method_r166
 have m4:=method_r244
 have HACC:=zh (accepted_any k f pv nv h none w hf hh hp hn he henv hsm.r hsm.p)
 have HMOV:=zh (moved_any k f pv nv h none w hf hh hp he)
 have HAGR:=zh (agreed_any k f pv nv h none w hf hh hp he)
 have HSTR:=zh (stranger_any (f.cells pv nv).toArray h.V.toArray k none w)
 obtain ⟨fc,hfc⟩:=zg ((f.cells pv nv).toArray)
 obtain ⟨hv,hhv⟩:=zg (h.V.toArray)
 rw [←hfc,←hhv] at HACC HMOV HAGR HSTR
 rw [←hfc] at hs
 rw [←hhv] at h2
 have HK:=zh hK
 clear hf hsm hh hp hn he henv hfc hhv hK
 unfold factV at hs
 unfold Oper.wp execOp
 rw [ho]
 by_cases e1:f.kind=1
 ·rw [if_pos e1] at hs
  have hr:rightP k f h none=acceptedP k f h none:=by unfold rightP;rw [if_pos e1]
  go_simp
  refine HACC.out.mono ?_
  rintro e w' ⟨rfl,hm⟩
  have:=HK.out w' hm
  rw [hr] at this
  exact this
 ·rw [if_neg e1] at hs
  by_cases e2:f.kind=2
  ·rw [if_pos e2] at hs
   have hr:rightP k f h none=movedP k f h none:=by unfold rightP;rw [if_neg e1,if_pos e2]
   clear e1 e2
   go_simp
   refine HMOV.out.mono ?_
   rintro e w' ⟨rfl,hm⟩
   have:=HK.out w' hm
   rw [hr] at this
   exact this
  ·rw [if_neg e2] at hs
   by_cases e3:f.kind=3
   ·rw [if_pos e3] at hs
    have hr:rightP k f h none=agreedP k f h none:=by unfold rightP;rw [if_neg e1,if_neg e2,if_pos e3]
    clear e1 e2 e3
    go_simp
    refine HAGR.out.mono ?_
    rintro e w' ⟨rfl,hm⟩
    have:=HK.out w' hm
    rw [hr] at this
    exact this
   ·rw [if_neg e3] at hs
    have hr:rightP k f h none=false:=by unfold rightP;rw [if_neg e1,if_neg e2,if_neg e3]
    clear e1 e2 e3
    go_simp
    refine HSTR.out.mono ?_
    rintro e w' ⟨rfl,hm⟩
    have:=HK.out w' hm
    rw [hr] at this
    exact this
def stepHead (f:FactP) (h:HeadP):HeadP:=if f.kind=2 then f.head else h
def stepNone (f:FactP) (none:Bool):Bool:=if f.kind=2 then false else none
def followP (k:Int):List FactP→HeadP→Bool→Option HeadP
 | [],h,_=>some h
 | f :: l,h,b=>if rightP k f h b=true then followP k l (stepHead f h) (stepNone f b) else none
def headE (k:Int):HeadP:=⟨ByteArray.empty,0,emptyP k⟩
def followE (k:Int) (L:List FactP):Int:=if 1024<L.length then 2 else if (followP k L (headE k) true).isSome=true then 0 else 180
def followH (k:Int) (L:List FactP):HeadP:=if 1024<L.length then head0 else (followP k L (headE k) true).getD head0
end Go.Proofs.YtdfdikpklddnhaaGreatDoor
