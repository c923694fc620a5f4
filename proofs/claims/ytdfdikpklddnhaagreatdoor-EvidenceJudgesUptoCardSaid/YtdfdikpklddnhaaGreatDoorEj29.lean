/- Of the proof of EvidenceJudges, second form: for values of bulk at most 1048576. (Ej29) -/
import Derived.Test.YtdfdikpklddnhaaGreatDoorEj01
import Derived.Test.YtdfdikpklddnhaaGreatDoorEj28
import Derived.WalkMore
import Derived.Laws.AppendOwnNone
import Derived.Deep.DeepCutAuto
namespace Go.Proofs.YtdfdikpklddnhaaGreatDoor
open Go.RowKit
set_option linter.unusedSimpArgs false
def z36:Array Value:=#[.string ⟨#[]⟩,.int .i64 0,.int .u8 0,.int .u8 0,.int .u8 0,.int .u8 0,.int .u8 0,.int .u8 0,.int .u8 0,.int .u8 0,.int .u8 0,.int .u8 0,.int .u8 0,.int .u8 0,.int .u8 0,.int .u8 0,.int .u8 0,.int .u8 0,.int .u8 0,.int .u8 0,.int .u8 0,.int .u8 0,.int .u8 0,.int .u8 0,.int .u8 0,.int .u8 0,.int .u8 0,.int .u8 0,.int .u8 0,.int .u8 0,.int .u8 0,.int .u8 0,.int .u8 0,.int .u8 0]
theorem z36_head:head0.V.toArray=z36:=by kernel_rfl
theorem z36_info:(Tryz.prog.info? 36).map (·.size)=some z36.size:=by kernel_rfl
theorem z36_size:z36.size=34:=by kernel_rfl
theorem z36_one:z36.all (·.oneCell')=true:=by kernel_rfl
def z75:Array Value:=#[.int .i64 0,.string ⟨#[]⟩,.string ⟨#[]⟩,.int .i64 0,.string ⟨#[]⟩]++z36++z36++#[.slice none 0 0,.slice none 0 0]
theorem as_165_164 (v:Value) (W:World):(Instr.typeAssert (.iface 165 v) 160 164 true).run Tryz.prog W=.ok (.tuple #[.agg z75,.bool false]) W:=by kernel_rfl
theorem as_165_165 (v:Value) (W:World):(Instr.typeAssert (.iface 165 v) 160 165 true).run Tryz.prog W=.ok (.tuple #[v,.bool true]) W:=by kernel_rfl
theorem as_165_166 (v:Value) (W:World):(Instr.typeAssert (.iface 165 v) 160 166 true).run Tryz.prog W=.ok (.tuple #[.agg z75,.bool false]) W:=by kernel_rfl
theorem as_166_164 (v:Value) (W:World):(Instr.typeAssert (.iface 166 v) 160 164 true).run Tryz.prog W=.ok (.tuple #[.agg z75,.bool false]) W:=by kernel_rfl
theorem as_166_165 (v:Value) (W:World):(Instr.typeAssert (.iface 166 v) 160 165 true).run Tryz.prog W=.ok (.tuple #[.agg z75,.bool false]) W:=by kernel_rfl
theorem as_166_166 (v:Value) (W:World):(Instr.typeAssert (.iface 166 v) 160 166 true).run Tryz.prog W=.ok (.tuple #[v,.bool true]) W:=by kernel_rfl
theorem as_164_164 (v:Value) (W:World):(Instr.typeAssert (.iface 164 v) 160 164 true).run Tryz.prog W=.ok (.tuple #[v,.bool true]) W:=by kernel_rfl
theorem fact_one (f:FactP) (a a':Option Addr) (n n' c c':Nat):(f.cells (.slice a n c) (.slice a' n' c')).toArray.all (·.oneCell')=true:=by
 rw [List.all_toArray]
 simp [FactP.cells,HeadP.V,headV,Value.oneCell',byteV]
theorem SlIn.shape {w:World} {v:Value} {l:Bs} (h:SlIn w v l):∃ a c,v=.slice a l.length c:=by
 rcases h with ⟨rfl,rfl⟩|⟨g,off,cap,rfl,_⟩
 ·exact ⟨_,_,rfl⟩
 ·exact ⟨_,_,rfl⟩
theorem followP_cons (k:Int) (L:List FactP) (j:Nat) (f:FactP) (hf:L[j]?=some f) (h:HeadP) (b:Bool):followP k (L.drop j) h b=if rightP k f h b=true then followP k (L.drop (j+1)) (stepHead f h) (stepNone f b) else none:=by
 obtain ⟨hj,hf⟩:=List.getElem?_eq_some_iff.1 hf
 rw [List.drop_eq_getElem_cons hj,hf]
 rfl
theorem headE_build (k:Int):(headE k).V.toArray=#[.string ⟨#[]⟩,.int .i64 0]++((emptyP k).map byteV).toArray:=by
 simp [headE,HeadP.V,headV];rfl
set_option maxRecDepth 100000 in
set_option maxHeartbeats 3200000 in
theorem followed_any (k:Int) (v:Value) (L:List FactP) (w:World) (hL:FactsIn w v L) (he:EnvH w) (henv:EnvP w) :
  Calls Tryz.prog 52 #[.int .i64 k,v] w fun e w'=>e=.returned (.tuple #[.agg (followH k L).V.toArray,.int .i64 (followE k L)])∧Mv (fun _=>False) w w':=by
 obtain ⟨a,c,hv,hLc,hLj⟩:=hL
 subst hv
 obtain ⟨n,hn⟩:=zg (L.length)
 rw [←hn] at hLc ⊢
 have HN:=zh hn
 have HLJ:=zh hLj
 have HE:=zh he
 have HENV:=zh henv
 by_cases hbig:1024<n
 ·have hE:followE k L=2:=by unfold followE;rw [←hn,if_pos hbig]
  have hH:(followH k L).V.toArray=z36:=by unfold followH;rw [←hn,if_pos hbig];exact z36_head
  rw [hE,hH]
  have hbi:(1024:Int)<n:=by omega
  clear hE hH hn hLj he henv
  obtain ⟨R,hR⟩:=zg (w.heap.size)
  have HRR:=zh hR
  go_enter Tryz.func52,Tryz.ntmps52
  have hz:∀ Z:Array Value,(w.alloc (.cells Z 36)).heap[R]?=some (.cells Z 36 (0,0)):=fun Z=>by rw [hR];exact heap_alloc_new _ _
  have HZ:=zh hz
  go_upto_region 1 with fail
  rw [←hR]
  clear hz hR
  go_step3
  go_wp2_with (first
   | (refine wpList_store_row rfl 36 _ _ rfl R z36 rfl rfl 36 _ (HZ.out _) z36_info rfl z36_one ?_))
  rw [Exit.noGoto_ret]
  refine bodyPost_ret (results_ct (fn:=Tryz.f52) rfl _ _ R 36 z36 (.int .i64 2) _ rfl rfl (setRow_heap _ _ _ _ _ _ (HZ.out _)) Tryz.underlying36 rfl z36_info) rfl ?_
  exact ⟨rfl,((Mv.refl _ _).alloc _).setRow (.inr (by have:=HRR.out;omega)) _⟩
 ·have hbg:¬ ((1024:Int)<n):=by omega
  have hE:followE k L=if (followP k L (headE k) true).isSome=true then 0 else 180:=by unfold followE;rw [←hn,if_neg hbig]
  have hH:followH k L=(followP k L (headE k) true).getD head0:=by unfold followH;rw [←hn,if_neg hbig]
  obtain ⟨E,hEE⟩:=zg (followE k L)
  obtain ⟨HH,hHH⟩:=zg (followH k L)
  rw [←hEE,←hHH]
  rw [←hEE] at hE
  rw [←hHH] at hH
  have HEE:=zh hE
  have HHH:=zh hH
  obtain ⟨ec,hec⟩:=zg (((emptyP k).map byteV).toArray)
  have hecz:ec.size=32:=by rw [hec];simp [emptyP_length]
  have HEC:=zh hec
  have hbj:=build_joined (.string ⟨#[]⟩) (.int .i64 0) ec hecz
  obtain ⟨hv,hhv⟩:=zg ((headE k).V.toArray)
  have hhv2:hv=#[.string ⟨#[]⟩,.int .i64 0]++ec:=by rw [hhv,headE_build,hec]
  rw [←hhv2] at hbj
  have HHV:=zh hhv
  have HIV:Hid ((Tryz.prog.info? 36).map (·.size)=some hv.size):=zh (by rw [hhv,List.size_toArray,HeadP.V_len _ (emptyP_length k)];exact info36)
  have HVZ:Hid (34=hv.size):=zh (by rw [hhv,List.size_toArray,HeadP.V_len _ (emptyP_length k)])
  have HVO:Hid (hv.all (·.oneCell')=true):=zh (by rw [hhv];exact head_one _)
  clear hE hH hEE hHH hec hhv hhv2 hn hLj he henv
  obtain ⟨R,hR⟩:=zg (w.heap.size)
  have HRR:=zh hR
  go_enter Tryz.func52,Tryz.ntmps52
  go_upto_region 1 with fail
  rw [←hR]
  generalize hW:w.alloc _=W2
  have h1:W2.heap[R]?=some (.cells z36 36 (0,0)):=by rw [←hW,hR];exact heap_alloc_new _ _
  have hm:Mv (fun _=>False) w W2:=by rw [←hW];exact (Mv.refl _ _).alloc _
  have H1:=zh h1
  have HM:=zh hm
  clear hW h1 hm hR
  go_step3
  go_wp2_with (first
   | (go_at_call 22;have hem:=emptyHash_any k W2 (HE.out.mv HM.out (fun _ h=>h.elim));rw [show hashV (emptyP k)=.agg ec by rw [HEC.out];rfl] at hem;refine hem.mono ?_;rintro e w2 ⟨rfl,hm2⟩;have HM2:=zh (HM.out.trans hm2);have H2:=zbl hm2 H1;clear hem hm2)
   | (refine wpList_store_row rfl 36 _ _ rfl w2.heap.size hv rfl rfl 36 _ (heap_alloc_new _ _) HIV.out HVZ.out HVO.out ?_))
  obtain ⟨H,hH⟩:=zg (w2.heap.size)
  have HHR:Hid (H=w2.heap.size∧R<H):=zh ⟨hH,by rw [hH];exact lt_of_heap H2.out⟩
  have HW:Hid (∀ Z:Array Value,((w2.alloc (.cells Z 36)).setRow w2.heap.size hv).heap[H]?=some (.cells hv 36 (0,0))∧((w2.alloc (.cells Z 36)).setRow w2.heap.size hv).heap[R]?=some (.cells z36 36 (0,0))∧Mv (fun _=>False) w ((w2.alloc (.cells Z 36)).setRow w2.heap.size hv)):=zh fun Z =>
   ⟨by rw [hH];exact setRow_heap _ _ _ _ _ _ (heap_alloc_new _ _),(setRow_other _ _ _ _ (by have:=HHR.out;omega)).trans ((Below.heap_alloc _ _ _ (lt_of_heap H2.out)).trans H2.out),(HM2.out.alloc _).setRow (.inr HM2.out.size) _⟩
  rw [←hH]
  generalize hW:World.setRow _ _ _=W3
  obtain ⟨h3,r3,m3⟩:=HW.out _
  rw [←hH,hW] at h3 r3 m3
  have H3:=zh h3
  have R3:=zh r3
  have M3:=zh m3
  clear hW hH h3 r3 m3 HW
  go_step3
  go_wp2_with fail
  go_loopw [7,8,23] (fun s7 s8 i wr=>∃ (j:Nat) (h:HeadP) (b:Bool),j≤n∧i=.int .i64 j∧s7=.bool b∧s8=.int .i64 0∧wr.heap[H]?=some (.cells h.V.toArray 36 (0,0))∧h.root.length=32∧wr.heap[R]?=some (.cells z36 36 (0,0))∧Mv (fun _=>False) w wr∧followP k L (headE k) true=followP k (L.drop j) h b) (fun _ _ i _=>n - (intOf i).toNat)
  case atStart=>exact ⟨0,headE k,true,by omega,rfl,rfl,rfl,by rw [←HHV.out];exact H3.out,emptyP_length k,R3.out,M3.out,rfl⟩
  case round =>
   obtain ⟨j,h,b,hj,rfl,rfl,rfl,hh,hr32,hrr,hmv,hfol⟩:=hrel
   have HHJ:=zh hh
   have HR32:=zh hr32
   have HRR2:=zh hrr
   have HMV:=zh hmv
   have HFOL:=zh hfol
   clear hh hr32 hrr hmv hfol hbj
   by_cases hjn:j<n
   ·obtain ⟨f,hf⟩:∃ f,L[j]?=some f:=⟨L[j]'(by rw [←HN.out];exact hjn),List.getElem?_eq_getElem _⟩
    obtain ⟨g,off,ha,hfin⟩:=HLJ.out j f hf
    obtain ⟨hok,hsm,pv,nv,hat,hps,hns⟩:=hfin.mv HMV.out
    obtain ⟨pa,pc,hpv⟩:=hps.shape
    obtain ⟨na,nc,hnv⟩:=hns.shape
    subst ha
    have hfold:=followP_cons k L j f hf h b
    have HFOLD:=zh hfold
    obtain ⟨fl,hfl⟩:=zg (f.cells pv nv)
    obtain ⟨fc,hfc⟩:=zg ((f.cells pv nv).toArray)
    have hflc:fl.toArray=fc:=by rw [hfl,hfc]
    have hfz:fc.size=75:=by rw [hfc,List.size_toArray,FactP.cells_len _ _ _ hok]
    have HC:Hid (∀ (t:Nat) u,fl[t]?=some u→wr.cell? ⟨g,off+j * 75+t,none⟩=some u):=zh fun t u hu=>hat t u (by rw [←hfl];exact hu)
    have HCX:Hid (∀ (o:Obj) (t:Nat) u,fl[t]?=some u→(wr.alloc o).cell? ⟨g,off+j * 75+t,none⟩=some u):=zh fun o t u hu=>(World.cell?_of_block (Below.heap_alloc _ _ _ (World.block_lt_of_cell? _ _ (HC.out t u hu)))).trans (HC.out t u hu)
    have HI75L:Hid ((Tryz.prog.info? 61).map (·.size)=some fl.length):=zh (by rw [hfl,FactP.cells_len _ _ _ hok];exact info61)
    have HI75:Hid ((Tryz.prog.info? 61).map (·.size)=some fc.size):=zh (by rw [hfz];exact info61)
    have HI64:Hid ((Tryz.prog.info? 164).map (·.size)=some fc.size):=zh (by rw [hfz];kernel_rfl)
    have HZ75:Hid (75=fc.size):=zh hfz.symm
    have HONE:Hid (fc.all (·.oneCell')=true):=zh (by rw [hfc,hpv,hnv];exact fact_one f _ _ _ _ _ _)
    have HK0:Hid (fc[0]?=some (.int .i64 f.kind)∧fc.size=75):=zh ⟨by rw [hfc];rfl,hfz⟩
    have HFLC:=zh hflc
    have HFC:=zh hfc
    have HOK:=zh hok
    have HSM:=zh hsm
    have HPS:=zh hps
    have HNS:=zh hns
    have HLEN:Hid (off+j * 75=off+j * 75):=zh rfl
    obtain ⟨cs,hcs⟩:=zg (h.V.toArray)
    rw [←hcs] at HHJ
    have HCS:=zh hcs
    have HIC:Hid ((Tryz.prog.info? 36).map (·.size)=some cs.size):=zh (by rw [hcs,List.size_toArray,HeadP.V_len _ HR32.out];exact info36)
    obtain ⟨rb,hrb⟩:=zg (rightP k f h b)
    obtain ⟨fv,hfv⟩:=zg (factV f.kind fc)
    have HRB:=zh hrb
    have HFV:=zh hfv
    rw [←hrb] at HFOLD
    have hjc:(j:Int)<n:=by omega
    clear hf hfin hok hsm hat hps hns hpv hnv hfold hfl hfc hflc hfz hcs hrb hfv
    go_upto_region 7 with (first
     | (refine wpList_load_cellsAt rfl 61 (.tmp 25) rfl g (off+j * 75) rfl fl _ (HCX.out _) Tryz.underlying61 rfl HI75L.out ?_;rw [HFLC.out])
     | (refine wpList_load_cellsAt rfl 61 (.tmp 25) rfl g (off+j * 75) rfl fl _ HC.out Tryz.underlying61 rfl HI75L.out ?_;rw [HFLC.out])
     | (refine wpList_store_row rfl 61 (.tmp 10) (.tmp 26) rfl wr.heap.size fc rfl rfl 61 _ (heap_alloc_new _ _) HI75.out HZ75.out HONE.out ?_))
    obtain ⟨X,hX⟩:=zg (wr.heap.size)
    have HW:Hid (∀ Z:Array Value,((wr.alloc (.cells Z 61)).setRow wr.heap.size fc).heap[X]?=some (.cells fc 61 (0,0))∧((wr.alloc (.cells Z 61)).setRow wr.heap.size fc).heap[H]?=some (.cells cs 36 (0,0))∧((wr.alloc (.cells Z 61)).setRow wr.heap.size fc).heap[R]?=some (.cells z36 36 (0,0))∧Mv (fun _=>False) wr ((wr.alloc (.cells Z 61)).setRow wr.heap.size fc)):=zh fun Z =>
     ⟨by rw [hX];exact setRow_heap _ _ _ _ _ _ (heap_alloc_new _ _),(setRow_other _ _ _ _ (by have:=lt_of_heap HHJ.out;omega)).trans ((Below.heap_alloc _ _ _ (lt_of_heap HHJ.out)).trans HHJ.out),(setRow_other _ _ _ _ (by have:=lt_of_heap HRR2.out;omega)).trans ((Below.heap_alloc _ _ _ (lt_of_heap HRR2.out)).trans HRR2.out),((Mv.refl _ _).alloc _).setRow (.inr (Nat.le_refl _)) _⟩
    rw [←hX]
    generalize hW:World.setRow _ _ _=w5
    obtain ⟨x5,h5,r5,m5⟩:=HW.out _
    rw [←hX,hW] at x5 h5 r5 m5
    have X5:=zh x5
    have H5:=zh h5
    have R5:=zh r5
    have M5:=zh m5
    clear hW hX x5 h5 r5 m5 HW
    go_upto_if 34 with (first
     | (refine wpList_load_row rfl 61 (.tmp 10) rfl X rfl 61 fc (0,0) _ X5.out Tryz.underlying61 rfl HI75.out ?_)
     | (go_at_call 85;have hfo:=factOf_any fc f.kind w5 HK0.out.1 HK0.out.2;rw [←HFV.out] at hfo;refine hfo.mono ?_;rintro e w6 ⟨rfl,hm6⟩;have M6:=zh (M5.out.trans hm6);have H6:=zbl hm6 H5;have R6:=zbl hm6 R5;clear hfo hm6)
     | (refine wpList_load_row rfl 36 (.tmp 6) rfl H rfl 36 cs (0,0) _ H6.out Tryz.underlying36 rfl HIC.out ?_)
     | (refine wpList_step (fun K hK=>?_);rw [if_pos (by rfl)];refine wp_right 29 30 31 32 _ rfl k f pv nv h b (by rw [←HFC.out,←HFV.out];rfl) rfl (by rw [←HCS.out];rfl) rfl HOK.out HSM.out HR32.out (HPS.out.mv M6.out (fun _ _ h=>h)) (HNS.out.mv M6.out (fun _ _ h=>h)) (HE.out.mv (HMV.out.trans M6.out) (fun _ h=>h.elim)) (HENV.out.mv (HMV.out.trans M6.out)) (fun w7 hm7=>?_);refine hK _ _ ?_;rw [←HRB.out];have M7:=zh ((HMV.out.trans M6.out).trans hm7);have H7:=zbl hm7 H6;have R7:=zbl hm7 R6;clear hm7 hK))
    cases rb with
    | false =>
     have hE0:E=180:=by rw [HEE.out,HFOL.out,HFOLD.out];rfl
     have hH0:HH=head0:=by rw [HHH.out,HFOL.out,HFOLD.out];rfl
     have HE0:=zh hE0
     have HH0:=zh hH0
     clear hE0 hH0
     go_wp2_with (first
      | (refine wpList_store_row rfl 36 (.tmp 4) (.tmp 52) rfl R z36 rfl rfl 36 z36 R7.out z36_info rfl z36_one ?_))
     rw [Exit.noGoto_ret]
     refine bodyPost_ret (results_ct (fn:=Tryz.f52) rfl _ _ R 36 z36 (.int .i64 180) _ rfl rfl (setRow_heap _ _ _ _ _ _ R7.out) Tryz.underlying36 rfl z36_info) rfl ?_
     exact ⟨by rw [HE0.out,HH0.out,z36_head],M7.out.setRow (.inr (by have:=HRR.out;omega)) _⟩
    | true =>
     by_cases e1:f.kind=1
     ·have hfv2:fv=.iface 165 (.agg fc):=by rw [HFV.out];unfold factV;rw [if_pos e1]
      subst hfv2
      have hst:stepHead f h=h∧stepNone f b=b:=by unfold stepHead stepNone;rw [if_neg (by omega),if_neg (by omega)];exact ⟨rfl,rfl⟩
      have HST:=zh hst
      clear hst e1
      have t1:=as_165_164
      have t2:=as_165_165
      have t3:=as_165_166
      go_wp2_with fail
      go_roundw
      case rel=>exact ⟨j+1,h,b,by omega,by go_num,rfl,rfl,by rw [←HCS.out];exact H7.out,HR32.out,R7.out,M7.out,by rw [HFOL.out,HFOLD.out,HST.out.1,HST.out.2];rfl⟩
      case measure=>simp [intOf];omega
     ·by_cases e3:f.kind=3
      ·have hfv2:fv=.iface 166 (.agg fc):=by rw [HFV.out];unfold factV;rw [if_neg e1,if_neg (by omega),if_pos e3]
       subst hfv2
       have hst:stepHead f h=h∧stepNone f b=b:=by unfold stepHead stepNone;rw [if_neg (by omega),if_neg (by omega)];exact ⟨rfl,rfl⟩
       have HST:=zh hst
       clear hst e1 e3
       have t1:=as_166_164
       have t2:=as_166_165
       have t3:=as_166_166
       go_wp2_with fail
       go_roundw
       case rel=>exact ⟨j+1,h,b,by omega,by go_num,rfl,rfl,by rw [←HCS.out];exact H7.out,HR32.out,R7.out,M7.out,by rw [HFOL.out,HFOLD.out,HST.out.1,HST.out.2];rfl⟩
       case measure=>simp [intOf];omega
      ·by_cases e2:f.kind=2
       ·have hfv2:fv=.iface 164 (.agg fc):=by rw [HFV.out];unfold factV;rw [if_neg e1,if_pos e2]
        subst hfv2
        have hst:stepHead f h=f.head∧stepNone f b=false:=by unfold stepHead stepNone;rw [if_pos e2,if_pos e2];exact ⟨rfl,rfl⟩
        have HST:=zh hst
        obtain ⟨fh,hfh⟩:=zg (f.head.V)
        have hz2:=HeadP.V_len _ HOK.out.h
        rw [←hfh] at hz2
        have HIFH:Hid ((Tryz.prog.info? 36).map (·.size)=some fh.length):=zh (by rw [hz2];exact info36)
        have HIFH2:Hid ((Tryz.prog.info? 36).map (·.size)=some fh.toArray.size):=zh (by rw [List.size_toArray,hz2];exact info36)
        have HFHO:Hid (fh.toArray.all (·.oneCell')=true):=zh (by rw [hfh];exact head_one _)
        have HFHZ:Hid (cs.size=fh.toArray.size):=zh (by rw [HCS.out,List.size_toArray,List.size_toArray,HeadP.V_len _ HR32.out,hz2])
        have HFH:=zh hfh
        obtain ⟨Y,hY⟩:=zg (w7.heap.size)
        have HYC:Hid (∀ (Z:Array Value) (t:Nat) u,fh[t]?=some u→((w7.alloc (.cells Z 164)).setRow w7.heap.size fc).cell? ⟨w7.heap.size,39+t,Option.none⟩=some u):=zh fun Z t u hu=>by
         have hb:=setRow_heap (w7.alloc (.cells Z 164)) w7.heap.size Z fc 164 (0,0) (heap_alloc_new _ _)
         have:=FactAt.of_block (f:=f) (pv:=pv) (nv:=nv) (by rw [←HFC.out];exact hb)
         have:=(this.reads HOK.out).2.2.2.2.2.2.1 t u (by rw [←HFH.out];exact hu)
         exact this
        have HYH:Hid (∀ (Z:Array Value),((w7.alloc (.cells Z 164)).setRow w7.heap.size fc).heap[H]?=some (.cells cs 36 (0,0))∧((w7.alloc (.cells Z 164)).setRow w7.heap.size fc).heap[R]?=some (.cells z36 36 (0,0))∧Mv (fun _=>False) w ((w7.alloc (.cells Z 164)).setRow w7.heap.size fc)):=zh fun Z =>
         ⟨(setRow_other _ _ _ _ (by have:=lt_of_heap H7.out;omega)).trans ((Below.heap_alloc _ _ _ (lt_of_heap H7.out)).trans H7.out),(setRow_other _ _ _ _ (by have:=lt_of_heap R7.out;omega)).trans ((Below.heap_alloc _ _ _ (lt_of_heap R7.out)).trans R7.out),(M7.out.alloc _).setRow (.inr M7.out.size) _⟩
        clear hst e1 e2 e3 hfh hz2 hY
        have t1:=as_164_164
        go_wp2_with (first
         | (refine wpList_store_row rfl 164 (.tmp 12) (.tmp 38) rfl w7.heap.size fc rfl rfl 164 _ (heap_alloc_new _ _) HI64.out HZ75.out HONE.out ?_)
         | (refine wpList_load_cellsAt rfl 36 (.tmp 40) rfl w7.heap.size 39 rfl fh _ (HYC.out _) Tryz.underlying36 rfl HIFH.out ?_)
         | (refine wpList_store_row rfl 36 (.tmp 6) (.tmp 41) rfl H fh.toArray rfl rfl 36 cs (HYH.out _).1 HIFH2.out HFHZ.out HFHO.out ?_))
        go_roundw
        case rel=>exact ⟨j+1,f.head,false,by omega,by go_num,rfl,rfl,by rw [←HFH.out];exact setRow_heap _ _ _ _ _ _ (HYH.out _).1,HOK.out.h,(setRow_other _ _ _ _ (by have:=HHR.out;omega)).trans (HYH.out _).2.1,(HYH.out _).2.2.setRow (.inr (by have:=HHR.out;have:=HRR.out;omega)) _,by rw [HFOL.out,HFOLD.out,HST.out.1,HST.out.2];rfl⟩
        case measure=>simp [intOf];omega
       ·exfalso
        have:=HRB.out
        unfold rightP at this
        rw [if_neg e1,if_neg e2,if_neg e3] at this
        cases this
   ·have hjn2:j=n:=by omega
    subst hjn2
    have hfin:followP k L (headE k) true=some h:=by rw [HFOL.out,List.drop_of_length_le (by rw [HN.out];exact Nat.le_refl _)];rfl
    have hE0:E=0:=by rw [HEE.out,hfin];rfl
    have hH0:HH=h:=by rw [HHH.out,hfin];rfl
    have HE0:=zh hE0
    have HH0:=zh hH0
    obtain ⟨cs,hcs⟩:=zg (h.V.toArray)
    rw [←hcs] at HHJ
    have HCS:=zh hcs
    have HIC:Hid ((Tryz.prog.info? 36).map (·.size)=some cs.size):=zh (by rw [hcs,List.size_toArray,HeadP.V_len _ HR32.out];exact info36)
    have HCZ:Hid (z36.size=cs.size):=zh (z36_size.trans (by rw [hcs,List.size_toArray,HeadP.V_len _ HR32.out]))
    have HCO:Hid (cs.all (·.oneCell')=true):=zh (by rw [hcs];exact head_one _)
    clear hfin hE0 hH0 hcs
    go_wp2_with (first
     | (refine wpList_load_row rfl 36 _ rfl H rfl 36 cs (0,0) _ HHJ.out Tryz.underlying36 rfl HIC.out ?_)
     | (refine wpList_store_row rfl 36 _ _ rfl R cs rfl rfl 36 z36 HRR2.out HIC.out HCZ.out HCO.out ?_))
    rw [Exit.noGoto_ret]
    refine bodyPost_ret (results_ct (fn:=Tryz.f52) rfl _ _ R 36 cs (.int .i64 0) _ rfl rfl (setRow_heap _ _ _ _ _ _ HRR2.out) Tryz.underlying36 rfl HIC.out) rfl ?_
    exact ⟨by rw [HCS.out,HE0.out,HH0.out],HMV.out.setRow (.inr (by have:=HRR.out;omega)) _⟩
theorem followH_len (k:Int) (L:List FactP) (h:∀ f∈L,f.Ok):(followH k L).root.length=32:=by
 have aux:∀ (L:List FactP) (a:HeadP) (b:Bool),a.root.length=32→(∀ f∈L,f.Ok)→∀ x,followP k L a b=some x→x.root.length=32:=by
  intro L
  induction L with
  | nil=>intro a b ha _ x hx;cases hx;exact ha
  | cons f l ih =>
   intro a b ha hf x hx
   unfold followP at hx
   split at hx
   ·refine ih _ _ ?_ (fun g hg=>hf g (List.mem_cons_of_mem _ hg)) x hx
    unfold stepHead;split
    ·exact (hf f List.mem_cons_self).h
    ·exact ha
   ·cases hx
 unfold followH
 split
 ·rfl
 ·cases hx:followP k L (headE k) true with
  | none=>rfl
  | some x=>exact aux L _ _ (emptyP_length k) h x hx
theorem FactsIn.ok {w:World} {v:Value} {L:List FactP} (h:FactsIn w v L):∀ f∈L,f.Ok:=fun f hf=>by
 obtain ⟨a,c,_,_,h3⟩:=h
 obtain ⟨j,hj⟩:=List.mem_iff_getElem?.1 hf
 obtain ⟨g,off,_,hfi⟩:=h3 j f hj
 exact hfi.1
set_option maxRecDepth 100000 in
theorem check_any2 (k:Int) (v:Value) (L:List FactP) (w:World) (hL:FactsIn w v L) (he:EnvH w) (henv:EnvP w) :
  Calls Tryz.prog 19 #[.int .i64 k,v] w fun e w'=>e=.returned (.int .i64 (followE k L))∧Mv (fun _=>False) w w':=by
 have hF:=followed_any k v L w hL he henv
 have hl:=followH_len k L hL.ok
 obtain ⟨E,hE⟩:=zg (followE k L)
 obtain ⟨cs,hcs⟩:=zg ((followH k L).V.toArray)
 rw [←hE,←hcs] at hF
 rw [←hE]
 have HF:=zh hF
 have HIC:Hid ((Tryz.prog.info? 36).map (·.size)=some cs.size):=zh (by rw [hcs,List.size_toArray,HeadP.V_len _ hl];exact info36)
 have HCZ:Hid (34=cs.size):=zh (by rw [hcs,List.size_toArray,HeadP.V_len _ hl])
 have HCO:Hid (cs.all (·.oneCell')=true):=zh (by rw [hcs];exact head_one _)
 clear hF hl hE hcs hL he henv
 go_enter Tryz.func19,Tryz.ntmps19
 go_wp2_with (first
  | (go_at_call 52;refine HF.out.mono ?_;rintro e w2 ⟨rfl,hm2⟩;have HM2:=zh hm2;clear hm2)
  | (refine wpList_store_row rfl 36 _ _ rfl w2.heap.size cs rfl rfl 36 _ (heap_alloc_new _ _) HIC.out HCZ.out HCO.out ?_))
 go_ret
 exact ⟨rfl,(HM2.out.alloc _).setRow (.inr HM2.out.size) _⟩
def finalE (k:Int) (L:List FactP):Int:=if followE k L=0 then 0 else 180
def finalH (k:Int) (L:List FactP):HeadP:=if followE k L=0 then followH k L else head0
set_option maxRecDepth 100000 in
set_option maxHeartbeats 800000 in
theorem final_any (k:Int) (v:Value) (L:List FactP) (w:World) (hL:FactsIn w v L) (he:EnvH w) (henv:EnvP w) :
  Calls Tryz.prog 20 #[.int .i64 k,v] w fun e w'=>e=.returned (.tuple #[.agg (finalH k L).V.toArray,.int .i64 (finalE k L)])∧Mv (fun _=>False) w w':=by
 obtain ⟨R,hR⟩:=zg (w.heap.size)
 have hF:=fun W (hm:Mv (fun _=>False) w W)=>followed_any k v L W (hL.mv hm) (he.mv hm (fun _ h=>h.elim)) (henv.mv hm)
 have hl:=followH_len k L hL.ok
 obtain ⟨E,hE⟩:=zg (followE k L)
 obtain ⟨cs,hcs⟩:=zg ((followH k L).V.toArray)
 rw [←hE,←hcs] at hF
 have HF:=zh hF
 have HIC:Hid ((Tryz.prog.info? 36).map (·.size)=some cs.size):=zh (by rw [hcs,List.size_toArray,HeadP.V_len _ hl];exact info36)
 have HCZ:Hid (z36.size=cs.size):=zh (z36_size.trans (by rw [hcs,List.size_toArray,HeadP.V_len _ hl]))
 have HCO:Hid (cs.all (·.oneCell')=true):=zh (by rw [hcs];exact head_one _)
 have hE2:finalE k L=if E=0 then 0 else 180:=by unfold finalE;rw [←hE]
 have hH2:(finalH k L).V.toArray=if E=0 then cs else z36:=by unfold finalH;rw [←hE];split <;> first|exact hcs.symm|exact z36_head
 rw [hE2,hH2]
 have HRR:=zh hR
 clear hF hl hE hcs hL he henv hE2 hH2
 by_cases h0:E=0
 ·subst h0
  rw [if_pos rfl,if_pos rfl]
  go_enter Tryz.func20,Tryz.ntmps20
  go_upto_region 1 with fail
  rw [←hR]
  generalize hW:w.alloc _=W2
  have h1:W2.heap[R]?=some (.cells z36 36 (0,0)):=by rw [←hW,hR];exact heap_alloc_new _ _
  have hm:Mv (fun _=>False) w W2:=by rw [←hW];exact (Mv.refl _ _).alloc _
  have H1:=zh h1
  have HM:=zh hm
  clear hW h1 hm hR
  go_wp2_with (first
   | (go_at_call 52;refine (HF.out _ HM.out).mono ?_;rintro e w2 ⟨rfl,hm2⟩;have HM2:=zh (HM.out.trans hm2);have H2:=zbl hm2 H1;clear hm2)
   | (refine wpList_store_row rfl 36 (.tmp 6) _ rfl w2.heap.size cs rfl rfl 36 _ (heap_alloc_new _ _) HIC.out HCZ.out HCO.out ?_)
   | (refine wpList_load_row rfl 36 (.tmp 6) rfl w2.heap.size rfl 36 cs (0,0) _ (setRow_heap _ _ _ _ _ _ (heap_alloc_new _ _)) Tryz.underlying36 rfl HIC.out ?_)
   | (refine wpList_store_row rfl 36 (.tmp 4) _ rfl R cs rfl rfl 36 z36 ((setRow_other _ _ _ _ (by have:=lt_of_heap H2.out;omega)).trans ((Below.heap_alloc _ _ _ (lt_of_heap H2.out)).trans H2.out)) HIC.out HCZ.out HCO.out ?_))
  refine bodyPost_ret (results_ct (fn:=Tryz.f20) rfl _ _ R 36 cs (.int .i64 0) _ rfl rfl (setRow_heap _ _ _ _ _ _ ((setRow_other _ _ _ _ (by have:=lt_of_heap H2.out;omega)).trans ((Below.heap_alloc _ _ _ (lt_of_heap H2.out)).trans H2.out))) Tryz.underlying36 rfl HIC.out) rfl ?_
  exact ⟨rfl,((HM2.out.alloc _).setRow (.inr HM2.out.size) _).setRow (.inr (by have:=HRR.out;omega)) _⟩
 ·rw [if_neg h0,if_neg h0]
  have g0:(E != 0)=true:=by simpa using h0
  clear h0
  go_enter Tryz.func20,Tryz.ntmps20
  go_upto_region 1 with fail
  rw [←hR]
  generalize hW:w.alloc _=W2
  have h1:W2.heap[R]?=some (.cells z36 36 (0,0)):=by rw [←hW,hR];exact heap_alloc_new _ _
  have hm:Mv (fun _=>False) w W2:=by rw [←hW];exact (Mv.refl _ _).alloc _
  have H1:=zh h1
  have HM:=zh hm
  clear hW h1 hm hR
  go_wp2_with (first
   | (go_at_call 52;refine (HF.out _ HM.out).mono ?_;rintro e w2 ⟨rfl,hm2⟩;have HM2:=zh (HM.out.trans hm2);have H2:=zbl hm2 H1;clear hm2)
   | (refine wpList_store_row rfl 36 (.tmp 6) _ rfl w2.heap.size cs rfl rfl 36 _ (heap_alloc_new _ _) HIC.out HCZ.out HCO.out ?_)
   | (refine wpList_store_row rfl 36 (.tmp 4) _ rfl R z36 rfl rfl 36 z36 ((setRow_other _ _ _ _ (by have:=lt_of_heap H2.out;omega)).trans ((Below.heap_alloc _ _ _ (lt_of_heap H2.out)).trans H2.out)) z36_info rfl z36_one ?_))
  refine bodyPost_ret (results_ct (fn:=Tryz.f20) rfl _ _ R 36 z36 (.int .i64 180) _ rfl rfl (setRow_heap _ _ _ _ _ _ ((setRow_other _ _ _ _ (by have:=lt_of_heap H2.out;omega)).trans ((Below.heap_alloc _ _ _ (lt_of_heap H2.out)).trans H2.out))) Tryz.underlying36 rfl z36_info) rfl ?_
  exact ⟨rfl,((HM2.out.alloc _).setRow (.inr HM2.out.size) _).setRow (.inr (by have:=HRR.out;omega)) _⟩
def keyB (p v:ByteArray) (f:FactP):Bool:=f.kind == 1 && f.path.toList == p.toList && f.ver.toList == v.toList
def firstFrom (p v:ByteArray):Nat→List FactP→Int
 | _,[]=>-1
 | i,f :: l=>if keyB p v f=true then i else firstFrom p v (i+1) l
def firstP (p v:ByteArray) (L:List FactP):Int:=firstFrom p v 0 L
theorem firstFrom_cons (p v:ByteArray) (L:List FactP) (j:Nat) (f:FactP) (hf:L[j]?=some f) (i:Nat):firstFrom p v i (L.drop j)=if keyB p v f=true then (i:Int) else firstFrom p v (i+1) (L.drop (j+1)):=by
 obtain ⟨hj,hf⟩:=List.getElem?_eq_some_iff.1 hf
 rw [List.drop_eq_getElem_cons hj,hf]
 rfl
set_option maxRecDepth 100000 in
set_option maxHeartbeats 1600000 in
theorem first_any (v:Value) (L:List FactP) (p q:ByteArray) (w:World) (hL:FactsIn w v L) (hb:L.length≤140737488355328) :
  Calls Tryz.prog 53 #[v,.string p,.string q] w fun e w'=>e=.returned (.int .i64 (firstP p q L))∧Mv (fun _=>False) w w':=by
 obtain ⟨a,c,hv,hLc,hLj⟩:=hL
 subst hv
 obtain ⟨n,hn⟩:=zg (L.length)
 rw [←hn] at hLc hb ⊢
 have HN:=zh hn
 have HLJ:=zh hLj
 obtain ⟨r,hr⟩:=zg (firstP p q L)
 rw [←hr]
 have HR:=zh hr
 clear hn hLj hr
 go_enter Tryz.func53,Tryz.ntmps53
 go_wp2_with fail
 go_loopw [11] (fun i wr=>∃ (j:Nat),j≤n∧i=.int .i64 j∧Mv (fun _=>False) w wr∧firstP p q L=firstFrom p q j (L.drop j)) (fun i _=>n - (intOf i).toNat)
 case atStart=>exact ⟨0,by omega,rfl,Mv.refl _ _,rfl⟩
 case round =>
  obtain ⟨j,hj,rfl,hmv,hfol⟩:=hrel
  have HMV:=zh hmv
  have HFOL:=zh hfol
  clear hmv hfol
  by_cases hjn:j<n
  ·obtain ⟨f,hf⟩:∃ f,L[j]?=some f:=⟨L[j]'(by rw [←HN.out];exact hjn),List.getElem?_eq_getElem _⟩
   obtain ⟨g,off,ha,hfin⟩:=HLJ.out j f hf
   obtain ⟨hok,hsm,pv,nv,hat,hps,hns⟩:=hfin.mv HMV.out
   obtain ⟨pa,pc,hpv⟩:=hps.shape
   obtain ⟨na,nc,hnv⟩:=hns.shape
   subst ha
   have hfold:=firstFrom_cons p q L j f hf j
   have HFOLD:=zh hfold
   obtain ⟨fl,hfl⟩:=zg (f.cells pv nv)
   obtain ⟨fc,hfc⟩:=zg ((f.cells pv nv).toArray)
   have hflc:fl.toArray=fc:=by rw [hfl,hfc]
   have hfz:fc.size=75:=by rw [hfc,List.size_toArray,FactP.cells_len _ _ _ hok]
   have HC:Hid (∀ (t:Nat) u,fl[t]?=some u→wr.cell? ⟨g,off+j * 75+t,none⟩=some u):=zh fun t u hu=>hat t u (by rw [←hfl];exact hu)
   have HCX:Hid (∀ (o:Obj) (t:Nat) u,fl[t]?=some u→(wr.alloc o).cell? ⟨g,off+j * 75+t,none⟩=some u):=zh fun o t u hu=>(World.cell?_of_block (Below.heap_alloc _ _ _ (World.block_lt_of_cell? _ _ (HC.out t u hu)))).trans (HC.out t u hu)
   have HI75L:Hid ((Tryz.prog.info? 61).map (·.size)=some fl.length):=zh (by rw [hfl,FactP.cells_len _ _ _ hok];exact info61)
   have HI75:Hid ((Tryz.prog.info? 61).map (·.size)=some fc.size):=zh (by rw [hfz];exact info61)
   have HZ75:Hid (75=fc.size):=zh hfz.symm
   have HONE:Hid (fc.all (·.oneCell')=true):=zh (by rw [hfc,hpv,hnv];exact fact_one f _ _ _ _ _ _)
   have HFLC:=zh hflc
   have HFC:=zh hfc
   have hjc:(j:Int)<n:=by omega
   have HF012:Hid (fc[0]?=some (.int .i64 f.kind)∧fc[1]?=some (.string f.path)∧fc[2]?=some (.string f.ver)):=zh (by rw [hfc];exact ⟨rfl,rfl,rfl⟩)
   obtain ⟨b0,hb0⟩:=zg ((f.kind == 1))
   obtain ⟨b1,hb1⟩:=zg ((f.path.toList == p.toList))
   obtain ⟨b2,hb2⟩:=zg ((f.ver.toList == q.toList))
   have hkey:keyB p q f=(b0 && b1 && b2):=by rw [hb0,hb1,hb2];rfl
   rw [hkey] at HFOLD
   have g0:=hb0.symm
   have g1:=hb1.symm
   have g2:=hb2.symm
   clear hf hfin hok hsm hat hps hns hpv hnv hfold hfl hfc hflc hfz hkey hb0 hb1 hb2
   go_upto_region 4 with (first
    | (refine wpList_load_cellsAt rfl 61 (.tmp 14) rfl g (off+j * 75) rfl fl _ (HCX.out _) Tryz.underlying61 rfl HI75L.out ?_;rw [HFLC.out])
    | (refine wpList_load_cellsAt rfl 61 (.tmp 14) rfl g (off+j * 75) rfl fl _ HC.out Tryz.underlying61 rfl HI75L.out ?_;rw [HFLC.out])
    | (refine wpList_store_row rfl 61 (.tmp 8) (.tmp 15) rfl wr.heap.size fc rfl rfl 61 _ (heap_alloc_new _ _) HI75.out HZ75.out HONE.out ?_))
   obtain ⟨X,hX⟩:=zg (wr.heap.size)
   have HW:Hid (∀ Z:Array Value,((wr.alloc (.cells Z 61)).setRow wr.heap.size fc).heap[X]?=some (.cells fc 61 (0,0))∧Mv (fun _=>False) wr ((wr.alloc (.cells Z 61)).setRow wr.heap.size fc)):=zh fun Z =>
    ⟨by rw [hX];exact setRow_heap _ _ _ _ _ _ (heap_alloc_new _ _),((Mv.refl _ _).alloc _).setRow (.inr (Nat.le_refl _)) _⟩
   rw [←hX]
   generalize hW:World.setRow _ _ _=w5
   obtain ⟨x5,m5⟩:=HW.out _
   rw [←hX,hW] at x5 m5
   have M5:=zh (HMV.out.trans m5)
   have k0:w5.cell? ⟨X,0,none⟩=some (.int .i64 f.kind):=by rw [cell_of_row _ _ _ _ _ _ x5];exact HF012.out.1
   have k1:w5.cell? ⟨X,1,none⟩=some (.string f.path):=by rw [cell_of_row _ _ _ _ _ _ x5];exact HF012.out.2.1
   have k2:w5.cell? ⟨X,2,none⟩=some (.string f.ver):=by rw [cell_of_row _ _ _ _ _ _ x5];exact HF012.out.2.2
   clear hW hX x5 m5 HW
   cases b0 <;> cases b1 <;> cases b2
   case true.true.true =>
    have hres:r=j:=by rw [HR.out,HFOL.out,HFOLD.out];rfl
    have HRES:=zh hres
    clear hres
    go_wp2_with fail
    go_ret
    exact ⟨by rw [HRES.out];rfl,M5.out⟩
   all_goals
    go_wp2_with fail
    go_roundw
    case rel=>exact ⟨j+1,by omega,by go_num,M5.out,by rw [HFOL.out,HFOLD.out];rfl⟩
    case measure=>simp [intOf];omega
  ·have hjn2:j=n:=by omega
   subst hjn2
   have hres:r=-1:=by rw [HR.out,HFOL.out,List.drop_of_length_le (by rw [HN.out];exact Nat.le_refl _)];rfl
   have HRES:=zh hres
   clear hres
   go_wp2_with fail
   go_ret
   exact ⟨by rw [HRES.out];rfl,HMV.out⟩
def hsV (p:List Bs):List Value:=(p.map fun h=>h.map byteV).flatten
theorem hs_lens {p:List Bs} (h:∀ x∈p,x.length=32):∀ y∈p.map (fun h=>h.map byteV),y.length=32:=fun y hy=>by
 obtain ⟨x,hx,rfl⟩:=List.mem_map.1 hy
 rw [List.length_map];exact h x hx
theorem hsV_len {p:List Bs} (h:∀ x∈p,x.length=32):(hsV p).length=p.length * 32:=by
 unfold hsV
 rw [flat_len 32 _ (hs_lens h),List.length_map]
theorem hsV_one (p:List Bs):∀ u∈hsV p,u.oneCell'=true:=fun u hu=>by
 unfold hsV at hu
 obtain ⟨x,hx,hux⟩:=List.mem_flatten.1 hu
 obtain ⟨h,_,rfl⟩:=List.mem_map.1 hx
 exact byteV_one h u hux
theorem HsAt.lens {w:World} {g off:Nat} {p:List Bs} (h:HsAt w g off p):∀ x∈p,x.length=32:=fun x hx=>by
 obtain ⟨j,hj⟩:=List.mem_iff_getElem?.1 hx
 exact (h j x hj).1
theorem hsV_at {p:List Bs} (hl:∀ x∈p,x.length=32) (j:Nat) (u:Value) (hu:(hsV p)[j]?=some u):∃ x,p[j / 32]?=some x∧(x.map byteV)[j % 32]?=some u:=by
 have hj:j<p.length * 32:=by rw [←hsV_len hl];exact (List.getElem?_eq_some_iff.1 hu).1
 have hk:j / 32<p.length:=(Nat.div_lt_iff_lt_mul (by decide)).2 hj
 have hx:(p.map fun h=>h.map byteV)[j / 32]?=some ((p[j / 32]).map byteV):=by simp [hk]
 have hf:=flat_get 32 (p.map fun h=>h.map byteV) (hs_lens hl) (j / 32) _ hx (j % 32) (Nat.mod_lt _ (by decide))
 have e3:j / 32 * 32+j % 32=j:=Nat.div_add_mod' j 32
 rw [e3] at hf
 exact ⟨p[j / 32],List.getElem?_eq_getElem hk,by rw [←hf];exact hu⟩
theorem HsAt.flat {w:World} {g off:Nat} {p:List Bs} (h:HsAt w g off p) (j:Nat) (u:Value) (hu:(hsV p)[j]?=some u):w.cell? ⟨g,off+j,none⟩=some u:=by
 obtain ⟨x,hx,hq⟩:=hsV_at h.lens j u hu
 have:=(h (j / 32) x hx).2 (j % 32) u hq
 rw [show off+j / 32 * 32+j % 32=off+j by have:=Nat.div_add_mod' j 32;omega] at this
 exact this
theorem HsIn.of_owns {w:World} {B:Nat} {v:Value} {p:List Bs} (hl:∀ x∈p,x.length=32) (h:w.ownsRow B 34 32 v p.length (hsV p)):HsIn w v p:=by
 rcases h.2 with ⟨rfl,h0⟩|⟨g,cap,cur,rfl,hb,hg,hc,hm,hcs,htk⟩
 ·exact .inl ⟨rfl,List.eq_nil_of_length_eq_zero h0⟩
 ·refine .inr ⟨g,0,cap,rfl,hc,fun j x hj=>⟨hl x (List.mem_of_getElem? hj),fun t u hu=>?_⟩,fun _=>lt_of_heap hg⟩
  have hx:(p.map fun h=>h.map byteV)[j]?=some (x.map byteV):=by rw [List.getElem?_map,hj];rfl
  have ht:t<32:=by have:=(List.getElem?_eq_some_iff.1 hu).1;rw [List.length_map,hl x (List.mem_of_getElem? hj)] at this;exact this
  have hjl:j<p.length:=(List.getElem?_eq_some_iff.1 hj).1
  have hf:=flat_get 32 (p.map fun h=>h.map byteV) (hs_lens hl) j _ hx t ht
  rw [hu] at hf
  change (hsV p)[j * 32+t]?=some u at hf
  rw [←htk,List.getElem?_take] at hf
  split at hf
  ·rw [cell_of_row _ _ _ _ _ _ hg,Nat.zero_add];simpa using hf
  ·cases hf
theorem SlIn.of_owns {w:World} {B:Nat} {v:Value} {l:Bs} (h:w.ownsRow B 5 1 v l.length (l.map byteV)):SlIn w v l:=by
 rcases h.2 with ⟨rfl,h0⟩|⟨g,cap,cur,rfl,hb,hg,hc,hm,hcs,htk⟩
 ·exact .inl ⟨rfl,List.eq_nil_of_length_eq_zero h0⟩
 ·refine .inr ⟨g,0,cap,rfl,hc,fun j b hj=>?_,lt_of_heap hg⟩
  have hq:(l.map byteV)[j]?=some (byteV b):=by rw [List.getElem?_map,hj];rfl
  rw [←htk,List.getElem?_take] at hq
  split at hq
  ·rw [cell_of_row _ _ _ _ _ _ hg,Nat.zero_add];simpa [byteV] using hq
  ·cases hq
theorem Tryz.info34f:(Tryz.prog.info? 34).map (fun i=>(i.zero,i.size,i.bytes))=some (some (.agg z32B),32,32):=by kernel_rfl
theorem Tryz.info5f:(Tryz.prog.info? 5).map (fun i=>(i.zero,i.size,i.bytes))=some (some (.int .u8 0),1,1):=by kernel_rfl
def findE (k:Int) (L:List FactP) (p q:ByteArray):Int:=if followE k L≠0 then 180 else if firstP p q L<0 then 121 else 0
def Found (w':World) (B:Nat) (k:Int) (L:List FactP) (p q:ByteArray) (cs:Array Value):Prop :=
 cs.size=75∧cs.all (·.oneCell')=true∧(findE k L p q≠0→cs=z75) ∧
  (findE k L p q=0→∃ (i:Nat) (f:FactP) (pv nv:Value),firstP p q L=i∧L[i]?=some f∧cs=(f.cells pv nv).toArray∧w'.ownsRow B 34 32 pv f.proof.length (hsV f.proof)∧w'.ownsRow B 5 1 nv f.note.length (f.note.map byteV))
theorem z75_info:(Tryz.prog.info? 61).map (·.size)=some z75.size:=by kernel_rfl
theorem z75_size:z75.size=75:=by kernel_rfl
theorem z75_one:z75.all (·.oneCell')=true:=by kernel_rfl
theorem firstFrom_at (p q:ByteArray):∀ (L:List FactP) (i:Nat),(firstFrom p q i L=-1)∨∃ j f,firstFrom p q i L=((i+j:Nat):Int)∧L[j]?=some f∧keyB p q f=true
 | [],i=>.inl rfl
 | f :: l,i=>by
  unfold firstFrom
  by_cases h:keyB p q f=true
  ·rw [if_pos h];exact .inr ⟨0,f,rfl,rfl,h⟩
  ·rw [if_neg h]
   rcases firstFrom_at p q l (i+1) with h1|⟨j,g,h1,h2,h3⟩
   ·exact .inl h1
   ·exact .inr ⟨j+1,g,by rw [h1];congr 1;omega,by simpa using h2,h3⟩
theorem firstP_at (p q:ByteArray) (L:List FactP) (h:¬ firstP p q L<0):∃ (i:Nat) (f:FactP),firstP p q L=i∧L[i]?=some f∧keyB p q f=true:=by
 rcases firstFrom_at p q L 0 with h1|⟨j,f,h1,h2,h3⟩
 ·exact absurd (show firstP p q L<0 by unfold firstP;rw [h1];decide) h
 ·exact ⟨j,f,by unfold firstP;rw [h1];simp,h2,h3⟩
theorem owns_setCellX {w:World} {base:Nat} {e:TypeId} {sz:Nat} {v:Value} {n:Nat} {xs:List Value} (h:w.ownsRow base e sz v n xs) (D j:Nat) (u:Value) {C:Array Value} {E:TypeId} (hD:w.heap[D]?=some (.cells C E (0,0))) (hE:e≠E):(w.setCell ⟨D,j,none⟩ u).ownsRow base e sz v n xs:=by
 refine ⟨h.1,?_⟩
 rcases h.2 with ⟨rfl,h0⟩|⟨g,c,cur,rfl,hb,hg,hr⟩
 ·exact .inl ⟨rfl,h0⟩
 ·exact .inr ⟨g,c,cur,rfl,hb,(heap_setCell_other (fun e2=>by subst e2;rw [hD] at hg;simp at hg;exact hE hg.2.symm) u).trans hg,hr⟩
theorem owns_setRowX {w:World} {base:Nat} {e:TypeId} {sz:Nat} {v:Value} {n:Nat} {xs:List Value} (h:w.ownsRow base e sz v n xs) (D:Nat) (cs:Array Value) {C:Array Value} {E:TypeId} (hD:w.heap[D]?=some (.cells C E (0,0))) (hE:e≠E):(w.setRow D cs).ownsRow base e sz v n xs:=by
 refine ⟨h.1,?_⟩
 rcases h.2 with ⟨rfl,h0⟩|⟨g,c,cur,rfl,hb,hg,hr⟩
 ·exact .inl ⟨rfl,h0⟩
 ·exact .inr ⟨g,c,cur,rfl,hb,(setRow_other _ _ _ _ (fun e2=>by subst e2;rw [hD] at hg;simp at hg;exact hE hg.2.symm)).trans hg,hr⟩
theorem fact_set73 (f:FactP) (pv nv x:Value) (h:f.Ok):(f.cells pv nv).toArray.setIfInBounds 73 x=(f.cells x nv).toArray:=by
 unfold FactP.cells
 have hl:=HeadP.V_len _ h.o
 have hl2:=HeadP.V_len _ h.h
 rw [List.setIfInBounds_toArray,List.set_append_right _ _ (by simp [hl,hl2])]
 simp [hl,hl2]
theorem fact_set74 (f:FactP) (pv nv x:Value) (h:f.Ok):(f.cells pv nv).toArray.setIfInBounds 74 x=(f.cells pv x).toArray:=by
 unfold FactP.cells
 have hl:=HeadP.V_len _ h.o
 have hl2:=HeadP.V_len _ h.h
 rw [List.setIfInBounds_toArray,List.set_append_right _ _ (by simp [hl,hl2])]
 simp [hl,hl2]
set_option maxRecDepth 100000 in
set_option maxHeartbeats 3200000 in
theorem find_any (k:Int) (v:Value) (L:List FactP) (p q:ByteArray) (w:World) (hL:FactsIn w v L) (hb:L.length≤1048576) (hn:∀ f∈L,f.note.length≤1048576) (he:EnvH w) (henv:EnvP w) :
  Calls Tryz.prog 21 #[.int .i64 k,v,.string p,.string q] w fun e w'=>∃ cs,e=.returned (.tuple #[.agg cs,.int .i64 (findE k L p q)])∧Found w' w.heap.size k L p q cs∧Mv (fun _=>False) w w':=by
 obtain ⟨a,c,hv,hLc,hLj⟩:=hL
 have hLL:FactsIn w v L:=⟨a,c,hv,hLc,hLj⟩
 have hC:=fun W (hm:Mv (fun _=>False) w W)=>check_any2 k v L W (hLL.mv hm) (he.mv hm (fun _ h=>h.elim)) (henv.mv hm)
 have hF:=fun W (hm:Mv (fun _=>False) w W)=>first_any v L p q W (hLL.mv hm) (Nat.le_trans hb (by decide))
 obtain ⟨E,hE⟩:=zg (followE k L)
 obtain ⟨I,hI⟩:=zg (firstP p q L)
 rw [←hE] at hC
 rw [←hI] at hF
 subst hv
 have HC:=zh hC
 have HF:=zh hF
 have HLL:=zh hLL
 obtain ⟨n,hnn⟩:=zg (L.length)
 rw [←hnn] at hLc hb HC HF ⊢
 have HN:=zh hnn
 have HLJ:=zh hLj
 have HNOTE:=zh hn
 have HE:=zh hE
 have HI:=zh hI
 obtain ⟨R,hR⟩:=zg (w.heap.size)
 have HRR:=zh hR
 clear hC hF hLL he henv hE hI hnn hLj hn
 by_cases h0:E=0
 ·subst h0
  by_cases hi:I<0
  ·have hfe:findE k L p q=121:=by unfold findE;rw [←HE.out,←HI.out,if_neg (by simp),if_pos hi]
   have HFE:=zh hfe
   rw [hfe]
   clear hfe
   go_enter Tryz.func21,Tryz.ntmps21
   go_upto_region 1 with fail
   rw [←hR]
   generalize hW:w.alloc _=W2
   have h1:W2.heap[R]?=some (.cells z75 61 (0,0)):=by rw [←hW,hR];exact heap_alloc_new _ _
   have hm:Mv (fun _=>False) w W2:=by rw [←hW];exact (Mv.refl _ _).alloc _
   have H1:=zh h1
   have HM:=zh hm
   clear hW h1 hm hR
   go_wp2_with (first
    | (go_at_call 19;refine (HC.out _ HM.out).mono ?_;rintro e w2 ⟨rfl,hm2⟩;have HM2:=zh (HM.out.trans hm2);have H2:=zbl hm2 H1;clear hm2)
    | (go_at_call 53;refine (HF.out _ HM2.out).mono ?_;rintro e w3 ⟨rfl,hm3⟩;have HM3:=zh (HM2.out.trans hm3);have H3:=zbl hm3 H2;clear hm3)
    | (refine wpList_store_row rfl 61 (.tmp 8) _ rfl R z75 rfl rfl 61 z75 H3.out z75_info rfl z75_one ?_))
   refine bodyPost_ret (results_ct (fn:=Tryz.f21) rfl _ _ R 61 z75 (.int .i64 121) _ rfl rfl (setRow_heap _ _ _ _ _ _ H3.out) Tryz.underlying61 rfl z75_info) rfl ?_
   exact ⟨z75,rfl,⟨z75_size,z75_one,fun _=>rfl,fun h=>by rw [HFE.out] at h;cases h⟩,HM3.out.setRow (.inr (by have:=HRR.out;omega)) _⟩
  ·obtain ⟨i,f,hIi,hLi,hkey⟩:=firstP_at p q L (by rw [←HI.out];exact hi)
   have hfe:findE k L p q=0:=by unfold findE;rw [←HE.out,←HI.out,if_neg (by simp),if_neg hi]
   have HFE:=zh hfe
   rw [hfe]
   rw [←HI.out] at hIi
   subst hIi
   obtain ⟨g,off,ha,hok,hsm,pv,nv,hat,hps,hns⟩:=HLJ.out i f hLi
   subst ha
   have hin:i<n:=by rw [HN.out];exact (List.getElem?_eq_some_iff.1 hLi).1
   have hic:(i:Int)<n:=by omega
   have hnl:=HNOTE.out f (List.mem_of_getElem? hLi)
   obtain ⟨fl,hfl⟩:=zg (f.cells pv nv)
   obtain ⟨fc,hfc⟩:=zg ((f.cells pv nv).toArray)
   have hflc:fl.toArray=fc:=by rw [hfl,hfc]
   have hfz:fc.size=75:=by rw [hfc,List.size_toArray,FactP.cells_len _ _ _ hok]
   obtain ⟨pa,pc,hpv⟩:=hps.shape
   obtain ⟨na,nc,hnv⟩:=hns.shape
   have HI75L:Hid ((Tryz.prog.info? 61).map (·.size)=some fl.length):=zh (by rw [hfl,FactP.cells_len _ _ _ hok];exact info61)
   have HI75:Hid ((Tryz.prog.info? 61).map (·.size)=some fc.size):=zh (by rw [hfz];exact info61)
   have HZ75:Hid (75=fc.size):=zh hfz.symm
   have HONE:Hid (fc.all (·.oneCell')=true):=zh (by rw [hfc,hpv,hnv];exact fact_one f _ _ _ _ _ _)
   have HAT:=zh hat
   have HPS:=zh hps
   have HNS:=zh hns
   have HOK:=zh hok
   have HSM:=zh hsm
   have HFL:=zh hfl
   have HFC:=zh hfc
   have HFLC:=zh hflc
   have HLI:=zh hLi
   have HNL:=zh hnl
   have hi0:¬ ((i:Int)<0):=hi
   clear hat hps hns hok hsm hfl hfc hflc hfz hpv hnv hLi hkey hfe hnl hi
   go_enter Tryz.func21,Tryz.ntmps21
   go_upto_region 1 with fail
   rw [←hR]
   generalize hW:w.alloc _=W2
   have h1:W2.heap[R]?=some (.cells z75 61 (0,0)):=by rw [←hW,hR];exact heap_alloc_new _ _
   have hm:Mv (fun _=>False) w W2:=by rw [←hW];exact (Mv.refl _ _).alloc _
   have H1:=zh h1
   have HM:=zh hm
   clear hW h1 hm hR
   go_upto_region 7 with (first
    | (go_at_call 19;refine (HC.out _ HM.out).mono ?_;rintro e w2 ⟨rfl,hm2⟩;have HM2:=zh (HM.out.trans hm2);have H2:=zbl hm2 H1;clear hm2)
    | (go_at_call 53;refine (HF.out _ HM2.out).mono ?_;rintro e w3 ⟨rfl,hm3⟩;have HM3:=zh (HM2.out.trans hm3);have H3:=zbl hm3 H2;have HCL:Hid (∀ (t:Nat) u,fl[t]?=some u→w3.cell? ⟨g,off+i * 75+t,none⟩=some u):=zh (fun t u hu=>(HAT.out.mv HM3.out id) t u (by rw [←HFL.out];exact hu));have HCLX:Hid (∀ (o:Obj) (t:Nat) u,fl[t]?=some u→(w3.alloc o).cell? ⟨g,off+i * 75+t,none⟩=some u):=zh (fun o t u hu=>(World.cell?_of_block (Below.heap_alloc _ _ _ (World.block_lt_of_cell? _ _ (HCL.out t u hu)))).trans (HCL.out t u hu));clear hm3)
    | (refine wpList_load_cellsAt rfl 61 (.tmp 26) rfl g (off+i * 75) rfl fl _ (HCLX.out _) Tryz.underlying61 rfl HI75L.out ?_;rw [HFLC.out])
    | (refine wpList_load_cellsAt rfl 61 (.tmp 26) rfl g (off+i * 75) rfl fl _ HCL.out Tryz.underlying61 rfl HI75L.out ?_;rw [HFLC.out])
    | (refine wpList_store_row rfl 61 (.tmp 11) (.tmp 27) rfl w3.heap.size fc rfl rfl 61 _ (heap_alloc_new _ _) HI75.out HZ75.out HONE.out ?_))
   obtain ⟨X,hX⟩:=zg (w3.heap.size)
   have HW:Hid (∀ Z:Array Value,((w3.alloc (.cells Z 61)).setRow w3.heap.size fc).heap[X]?=some (.cells fc 61 (0,0))∧((w3.alloc (.cells Z 61)).setRow w3.heap.size fc).heap[R]?=some (.cells z75 61 (0,0))∧Mv (fun _=>False) w3 ((w3.alloc (.cells Z 61)).setRow w3.heap.size fc)):=zh fun Z =>
    ⟨by rw [hX];exact setRow_heap _ _ _ _ _ _ (heap_alloc_new _ _),(setRow_other _ _ _ _ (by have:=lt_of_heap H3.out;omega)).trans ((Below.heap_alloc _ _ _ (lt_of_heap H3.out)).trans H3.out),((Mv.refl _ _).alloc _).setRow (.inr (Nat.le_refl _)) _⟩
   rw [←hX]
   generalize hW:World.setRow _ _ _=w5
   obtain ⟨x5,r5,m5⟩:=HW.out _
   rw [←hX,hW] at x5 r5 m5
   have X5:=zh x5
   have R5:=zh r5
   have M5:=zh (HM3.out.trans m5)
   have HXR:Hid (R<X∧X<w5.heap.size∧w.heap.size≤R):=zh ⟨by have:=lt_of_heap H3.out;omega,lt_of_heap x5,by have:=HRR.out;omega⟩
   clear hW hX x5 r5 m5 HW
   try simp only [Act.put,List.setIfInBounds_toArray,List.set_cons_zero,List.set_cons_succ]
   go_cut [] (fun wx=>∃ p2,wx.heap[X]?=some (.cells (f.cells p2 nv).toArray 61 (0,0))∧wx.heap[R]?=some (.cells z75 61 (0,0))∧wx.ownsRow w.heap.size 34 32 p2 f.proof.length (hsV f.proof)∧Mv (fun _=>False) w wx)
   case first =>
    obtain ⟨i0,hi0,hz0,hz1,hz2⟩:=info_parts Tryz.info34f
    have cX:w5.cell? ⟨X,73,Option.none⟩=some pv:=by rw [cell_of_row _ _ _ _ _ _ X5.out];exact by rw [HFC.out,List.getElem?_toArray];exact f.c73 pv nv HOK.out
    have zX:=free_of_heap X5.out 73
    have hown0:=World.ownsRow_nil w5 w.heap.size 34 32
    have HOWN0:=zh hown0
    clear hown0
    rcases HPS.out.mv M5.out (fun _ _ h=>h) with ⟨hpv,hp0⟩|⟨g2,o2,c2,hpv,hpc,hpa,_⟩
    ·rw [hpv] at cX
     have HP0:=zh hp0
     clear hpv hp0
     go_wp2_with (at_builtin;refine wpList_append_own_none rfl _ _ 37 rfl w.heap.size 34 i0 32 Tryz.underlying37 hi0 (.slice none 0 0) 0 [] rfl HOWN0.out rfl ?_)
     go_meet
     refine ⟨.slice none 0 0,?_,(heap_setCell_other (by have:=HXR.out;omega) _).trans R5.out,?_,M5.out.setCell (p:=⟨X,73,Option.none⟩) (.inr (by have:=HXR.out;show w.heap.size≤X;omega)) _⟩
     ·rw [heap_setCell_same X5.out,HFC.out,fact_set73 f pv nv _ HOK.out]
     ·rw [HP0.out];exact World.ownsRow_nil _ _ _ _
    ·rw [hpv] at cX
     have HPV:=zh hpv
     have HPA:=zh hpa
     have hnews:∀ (j:Nat) u,(hsV f.proof)[j]?=some u→w5.cell? ((⟨g2,o2,Option.none⟩:Addr).add j)=some u:=fun j u hu=>by
      have hj:w5.cell? ⟨g2,o2+j,Option.none⟩=some u:=HPA.out.flat j u hu
      unfold Addr.add
      split
      ·rename_i h0;subst h0;exact hj
      ·exact hj
     have HNEWS:=zh hnews
     clear hpv hpa hpc hnews
     go_wp2_with (at_builtin;go_loud (refine wpList_append_own _ rfl _ _ 37 rfl w.heap.size 34 i0 (.agg z32B) 32 32 Tryz.underlying37 hi0 hz0 hz1 hz2 rfl (by decide) _ _ _ rfl HOWN0.out ⟨g2,o2,Option.none⟩ f.proof.length c2 (hsV f.proof) rfl (hsV_len HPA.out.lens) HNEWS.out (hsV_one f.proof) (by have:=HSM.out.p;have:=HNL.out;unfold maxLen;omega) (by have:=HSM.out.p;have:=HNL.out;omega) M5.out.size ?_);intro v6 w6 hown6 hgrow6 hnil6;have hm6:Mv (fun _=>False) w5 w6:=(Mv.refl _ _).grown hgrow6 (fun k hk=>by cases hk);have X6:=zbl hm6 X5;have R6:=zbl hm6 R5;have M6:=zh (M5.out.trans hm6);have HM6:=zh hm6;have HOWN6:=zh hown6;have cX6:=(hm6.cell (p:=⟨X,73,Option.none⟩) (lt_of_heap X5.out) id).trans cX;have zX6:=free_of_heap X6.out 73;obtain ⟨a6,c6,hs6⟩:=owns_shape hown6;rw [Nat.zero_add] at hs6;subst hs6;clear hown6 hgrow6 hnil6 hm6 cX zX)
     go_meet
     refine ⟨.slice a6 f.proof.length c6,?_,(heap_setCell_other (by have:=HXR.out;omega) _).trans R6.out,?_,M6.out.setCell (p:=⟨X,73,Option.none⟩) (.inr (by have:=HXR.out;show w.heap.size≤X;omega)) _⟩
     ·rw [heap_setCell_same X6.out,HFC.out,fact_set73 f pv nv _ HOK.out]
     ·have:=HOWN6.out
      rw [Nat.zero_add,List.nil_append] at this
      exact owns_setCellX this X 73 _ X6.out (by decide)
   case rest =>
    obtain ⟨p1,x8,r8,own1,m8⟩:=hcut
    obtain ⟨w8,hw8⟩:=zg (wc)
    rw [←hw8] at x8 r8 own1 m8 ⊢
    clear hw8 wc
    have X8:=zh x8
    have R8:=zh r8
    have OWN1:=zh own1
    have M8:=zh m8
    clear x8 r8 own1 m8
    have HXR:=zh (And.intro HXR.out.1 (And.intro (lt_of_heap X8.out) HXR.out.2.2))
    go_upto_region 8 with fail
    try simp only [Act.put,List.setIfInBounds_toArray,List.set_cons_zero,List.set_cons_succ]
    go_cut [] (fun wx=>∃ p2,wx.heap[X]?=some (.cells (f.cells p1 p2).toArray 61 (0,0))∧wx.heap[R]?=some (.cells z75 61 (0,0))∧wx.ownsRow w.heap.size 5 1 p2 f.note.length (f.note.map byteV)∧Mv (fun _=>False) w wx∧wx.ownsRow w.heap.size 34 32 p1 f.proof.length (hsV f.proof))
    case first =>
     obtain ⟨i0,hi0,hz0,hz1,hz2⟩:=info_parts Tryz.info5f
     have cX:w8.cell? ⟨X,74,Option.none⟩=some nv:=by rw [cell_of_row _ _ _ _ _ _ X8.out];exact by rw [List.getElem?_toArray];exact f.c74 p1 nv HOK.out
     have zX:=free_of_heap X8.out 74
     have hown0:=World.ownsRow_nil w8 w.heap.size 5 1
     have HOWN0:=zh hown0
     clear hown0
     rcases HNS.out.mv M8.out (fun _ _ h=>h) with ⟨hpv,hp0⟩|⟨g2,o2,c2,hpv,hpc,hpa,_⟩
     ·rw [hpv] at cX
      have HP0:=zh hp0
      clear hpv hp0
      go_wp2_with (at_builtin;refine wpList_append_own_none rfl _ _ 26 rfl w.heap.size 5 i0 1 Tryz.underlying26 hi0 (.slice none 0 0) 0 [] rfl HOWN0.out rfl ?_)
      go_meet
      refine ⟨.slice none 0 0,?_,(heap_setCell_other (by have:=HXR.out;omega) _).trans R8.out,?_,M8.out.setCell (p:=⟨X,74,Option.none⟩) (.inr (by have:=HXR.out;show w.heap.size≤X;omega)) _,owns_setCellX OWN1.out X 74 _ X8.out (by decide)⟩
      ·rw [heap_setCell_same X8.out,fact_set74 f p1 nv _ HOK.out]
      ·rw [HP0.out];exact World.ownsRow_nil _ _ _ _
     ·rw [hpv] at cX
      have HPV:=zh hpv
      have HPA:=zh hpa
      have hnews:∀ (j:Nat) u,(f.note.map byteV)[j]?=some u→w8.cell? ((⟨g2,o2,Option.none⟩:Addr).add j)=some u:=fun j u hu=>by
       have hj:w8.cell? ⟨g2,o2+j,Option.none⟩=some u:=by obtain ⟨b,hb,rfl⟩:=List.getElem?_map_some hu;exact HPA.out j b hb
       unfold Addr.add
       split
       ·rename_i h0;subst h0;exact hj
       ·exact hj
      have HNEWS:=zh hnews
      clear hpv hpa hpc hnews
      go_wp2_with (at_builtin;go_loud (refine wpList_append_own _ rfl _ _ 26 rfl w.heap.size 5 i0 (.int .u8 0) 1 1 Tryz.underlying26 hi0 hz0 hz1 hz2 rfl (by decide) _ _ _ rfl HOWN0.out ⟨g2,o2,Option.none⟩ f.note.length c2 (f.note.map byteV) rfl (by simp) HNEWS.out (byteV_one f.note) (by have:=HSM.out.p;have:=HNL.out;unfold maxLen;omega) (by have:=HSM.out.p;have:=HNL.out;omega) M8.out.size ?_);intro v6 w6 hown6 hgrow6 hnil6;have hm6:Mv (fun _=>False) w8 w6:=(Mv.refl _ _).grown hgrow6 (fun k hk=>by cases hk);have X6:=zbl hm6 X8;have R6:=zbl hm6 R8;have M6:=zh (M8.out.trans hm6);have HM6:=zh hm6;have HOWN6:=zh hown6;have cX6:=(hm6.cell (p:=⟨X,74,Option.none⟩) (lt_of_heap X8.out) id).trans cX;have zX6:=free_of_heap X6.out 74;obtain ⟨a6,c6,hs6⟩:=owns_shape hown6;rw [Nat.zero_add] at hs6;subst hs6;clear hown6 hgrow6 hnil6 hm6 cX zX)
      go_meet
      refine ⟨.slice a6 f.note.length c6,?_,(heap_setCell_other (by have:=HXR.out;omega) _).trans R6.out,?_,M6.out.setCell (p:=⟨X,74,Option.none⟩) (.inr (by have:=HXR.out;show w.heap.size≤X;omega)) _,owns_setCellX (owns_mv OWN1.out HM6.out (fun _ _ _ h=>h)) X 74 _ X6.out (by decide)⟩
      ·rw [heap_setCell_same X6.out,fact_set74 f p1 nv _ HOK.out]
      ·have:=HOWN6.out
       rw [Nat.zero_add,List.nil_append] at this
       exact owns_setCellX this X 74 _ X6.out (by decide)
    case rest =>
     obtain ⟨p2,x9,r9,own2,m9,own1⟩:=hcut
     obtain ⟨cs,hcs⟩:=zg ((f.cells p1 p2).toArray)
     rw [←hcs] at x9
     have hcz:cs.size=75:=by rw [hcs,List.size_toArray,FactP.cells_len _ _ _ HOK.out]
     obtain ⟨pa1,pc1,hp1⟩:=owns_shape own1
     obtain ⟨pa2,pc2,hp2⟩:=owns_shape own2
     have hco:cs.all (·.oneCell')=true:=by rw [hcs,hp1,hp2];exact fact_one f _ _ _ _ _ _
     have X9:=zh x9
     have R9:=zh r9
     have OWN2:=zh own2
     have OWN1b:=zh own1
     have M9:=zh m9
     have HIC:Hid ((Tryz.prog.info? 61).map (·.size)=some cs.size):=zh (by rw [hcz];exact info61)
     have HCZ:Hid (z75.size=cs.size):=zh (z75_size.trans hcz.symm)
     have HCO:=zh hco
     have HCS:=zh hcs
     have HCZ2:=zh hcz
     clear x9 r9 own2 own1 m9 hcs hcz hco hp1 hp2
     go_wp2_with (first
      | (refine wpList_load_row rfl 61 (.tmp 11) rfl X rfl 61 cs (0,0) _ X9.out Tryz.underlying61 rfl HIC.out ?_)
      | (refine wpList_store_row rfl 61 (.tmp 8) _ rfl R cs rfl rfl 61 z75 R9.out HIC.out HCZ.out HCO.out ?_))
     refine bodyPost_ret (results_ct (fn:=Tryz.f21) rfl _ _ R 61 cs (.int .i64 0) _ rfl rfl (setRow_heap _ _ _ _ _ _ R9.out) Tryz.underlying61 rfl HIC.out) rfl ?_
     refine ⟨cs,rfl,⟨HCZ2.out,HCO.out,fun h=>absurd HFE.out h,fun _=>⟨i,f,p1,p2,HI.out.symm,HLI.out,HCS.out,?_,?_⟩⟩,M9.out.setRow (.inr HXR.out.2.2) _⟩
     ·exact owns_setRowX OWN1b.out R cs R9.out (by decide)
     ·exact owns_setRowX OWN2.out R cs R9.out (by decide)
 ·have g0:(E != 0)=true:=by simpa using h0
  have hfe:findE k L p q=180:=by unfold findE;rw [←HE.out,if_pos h0]
  have HFE:=zh hfe
  rw [hfe]
  clear hfe h0
  go_enter Tryz.func21,Tryz.ntmps21
  go_upto_region 1 with fail
  rw [←hR]
  generalize hW:w.alloc _=W2
  have h1:W2.heap[R]?=some (.cells z75 61 (0,0)):=by rw [←hW,hR];exact heap_alloc_new _ _
  have hm:Mv (fun _=>False) w W2:=by rw [←hW];exact (Mv.refl _ _).alloc _
  have H1:=zh h1
  have HM:=zh hm
  clear hW h1 hm hR
  go_wp2_with (first
   | (go_at_call 19;refine (HC.out _ HM.out).mono ?_;rintro e w2 ⟨rfl,hm2⟩;have HM2:=zh (HM.out.trans hm2);have H2:=zbl hm2 H1;clear hm2)
   | (refine wpList_store_row rfl 61 (.tmp 8) _ rfl R z75 rfl rfl 61 z75 H2.out z75_info rfl z75_one ?_))
  refine bodyPost_ret (results_ct (fn:=Tryz.f21) rfl _ _ R 61 z75 (.int .i64 180) _ rfl rfl (setRow_heap _ _ _ _ _ _ H2.out) Tryz.underlying61 rfl z75_info) rfl ?_
  exact ⟨z75,rfl,⟨z75_size,z75_one,fun _=>rfl,fun h=>by rw [HFE.out] at h;cases h⟩,HM2.out.setRow (.inr (by have:=HRR.out;omega)) _⟩
def SlArg (w:World) (v:Value) (l:Bs):Prop :=
 (v=.slice none 0 0∧l=[])∨∃ (a:Addr) (c:Nat),v=.slice (some a) l.length c∧l.length≤c∧∀ (j:Nat) u,(l.map byteV)[j]?=some u→w.cell? (a.add j)=some u
theorem SlArg.mv {F:Nat→Prop} {w w':World} {v:Value} {l:Bs} (h:SlArg w v l) (hm:Mv F w w') (hF:∀ k,k<w.heap.size→¬ F k):SlArg w' v l:=by
 rcases h with h|⟨a,c,h1,h2,h3⟩
 ·exact .inl h
 ·refine .inr ⟨a,c,h1,h2,fun j u hu=>?_⟩
  have hc:=h3 j u hu
  have hb:=World.block_lt_of_cell? _ _ hc
  exact (hm.cell hb (hF _ hb)).trans hc
theorem SlArg.shape {w:World} {v:Value} {l:Bs} (h:SlArg w v l):∃ a c,v=.slice a l.length c:=by
 rcases h with ⟨rfl,rfl⟩|⟨a,c,rfl,_⟩
 ·exact ⟨_,_,rfl⟩
 ·exact ⟨_,_,rfl⟩
def HsArg (w:World) (v:Value) (p:List Bs):Prop :=
 (v=.slice none 0 0∧p=[])∨∃ (a:Addr) (c:Nat),v=.slice (some a) p.length c∧p.length≤c∧(p≠[]→∃ g off,a=⟨g,off,none⟩∧HsAt w g off p∧g<w.heap.size)
theorem HsArg.mv {M:Nat→Prop} {w w':World} {v:Value} {p:List Bs} (h:HsArg w v p) (hm:Mv M w w') (hM:∀ g,g<w.heap.size→¬ M g):HsArg w' v p:=by
 rcases h with h|⟨a,c,h1,h2,h3⟩
 ·exact .inl h
 ·refine .inr ⟨a,c,h1,h2,fun hp=>?_⟩
  obtain ⟨g,off,ha,h4,h5⟩:=h3 hp
  exact ⟨g,off,ha,fun j h hj=>⟨(h4 j h hj).1,fun t u hu=>(hm.cell (p:=⟨g,off+j * 32+t,none⟩) h5 (hM g h5)).trans ((h4 j h hj).2 t u hu)⟩,Nat.lt_of_lt_of_le h5 hm.size⟩
theorem HsArg.shape {w:World} {v:Value} {p:List Bs} (h:HsArg w v p):∃ a c,v=.slice a p.length c:=by
 rcases h with ⟨rfl,rfl⟩|⟨a,c,rfl,_⟩
 ·exact ⟨_,_,rfl⟩
 ·exact ⟨_,_,rfl⟩
theorem HsArg.at {w:World} {a:Option Addr} {c:Nat} {p:List Bs} (h:HsArg w (.slice a p.length c) p) (j:Nat) (hj:j<p.length) :
  ∃ g off,a=some ⟨g,off,none⟩∧p.length≤c∧(p.getD j []).length=32∧∀ (t:Nat) u,((p.getD j []).map byteV)[t]?=some u→w.cell? ⟨g,off+j * 32+t,none⟩=some u:=by
 rcases h with ⟨_,rfl⟩|⟨a',c',h1,h2,h3⟩
 ·simp at hj
 ·obtain ⟨g,off,ha,h4,h5⟩:=h3 (fun e=>by rw [e] at hj;simp at hj)
  exact HsIn.at (.inr ⟨g,off,c',by rw [h1,ha],h2,h4,fun _=>h5⟩) j hj
set_option maxRecDepth 100000 in
theorem bytes_any (v:Value) (l:Bs) (w:World) (hv:SlArg w v l) (hl:l.length≤1099511627776) :
  Calls Tryz.prog 44 #[v] w fun e w'=>∃ v',e=.returned v'∧w'.ownsRow w.heap.size 5 1 v' l.length (l.map byteV)∧Mv (fun _=>False) w w':=by
 obtain ⟨i0,hi0,hz0,hz1,hz2⟩:=info_parts Tryz.info5f
 have HOWN0:=zh (World.ownsRow_nil w w.heap.size 5 1)
 rcases hv with ⟨rfl,rfl⟩|⟨ad,c,rfl,hpc,hnews⟩
 ·go_enter Tryz.func44,Tryz.ntmps44
  go_wp2_with (at_builtin;refine wpList_append_own_none rfl _ _ 26 rfl w.heap.size 5 i0 1 Tryz.underlying26 hi0 (.slice none 0 0) 0 [] rfl HOWN0.out rfl ?_)
  go_ret
  exact ⟨_,rfl,World.ownsRow_nil _ _ _ _,Mv.refl _ _⟩
 ·have HNEWS:=zh hnews
  obtain ⟨n,hn⟩:=zg (l.length)
  rw [←hn] at hl ⊢
  have HN:=zh hn
  clear hnews hpc hn
  go_enter Tryz.func44,Tryz.ntmps44
  go_wp2_with (at_builtin;refine wpList_append_own _ rfl _ _ 26 rfl w.heap.size 5 i0 (.int .u8 0) 1 1 Tryz.underlying26 hi0 hz0 hz1 hz2 rfl (by decide) _ _ _ rfl HOWN0.out ad n c (l.map byteV) rfl (by rw [HN.out];simp) HNEWS.out (byteV_one l) (by unfold maxLen;omega) (by omega) (Nat.le_refl _) ?_;intro v6 w6 hown6 hgrow6 hnil6;have HM6:Hid (Mv (fun _=>False) w w6):=zh ((Mv.refl _ _).grown hgrow6 (fun k hk=>by cases hk));have HOWN6:=zh hown6;clear hown6 hgrow6 hnil6)
  go_ret
  refine ⟨_,rfl,?_,HM6.out⟩
  have:=HOWN6.out
  rw [Nat.zero_add,List.nil_append] at this
  exact this
theorem info29:(Tryz.prog.info? 29).map (·.size)=some 34:=by kernel_rfl
set_option maxRecDepth 100000 in
set_option maxHeartbeats 800000 in
theorem head45_any (h:HeadP) (w:World) (hh:h.root.length=32) :
  Calls Tryz.prog 45 #[.agg h.V.toArray] w fun e w'=>e=.returned (.agg h.V.toArray)∧Mv (fun _=>False) w w':=by
 obtain ⟨hv,hhv⟩:=zg (h.V.toArray)
 rw [←hhv]
 obtain ⟨hr,hhr⟩:=zg (h.root.map byteV)
 have hrl:hr.length=32:=by rw [hhr,List.length_map];exact hh
 obtain ⟨ra,hra⟩:=zg (hr.toArray)
 have hrz:ra.size=32:=by rw [hra,List.size_toArray,hrl]
 have hbj:=build_joined (.string h.o) (.int .i64 h.n) ra hrz
 have hhv2:#[.string h.o,.int .i64 h.n]++ra=hv:=by rw [hhv,hra,hhr];simp [HeadP.V,headV]
 have HRA:=zh hra.symm
 rw [hhv2] at hbj
 have HHV:=zh hhv
 have HHR:=zh hhr
 have HIR:Hid ((Tryz.prog.info? 27).map (·.size)=some hr.length):=zh (info27 hr hrl)
 have HIV:Hid ((Tryz.prog.info? 36).map (·.size)=some hv.size):=zh (by rw [hhv,List.size_toArray,HeadP.V_len _ hh];exact info36)
 have HVZ:Hid (z36.size=hv.size):=zh (z36_size.trans (by rw [hhv,List.size_toArray,HeadP.V_len _ hh]))
 have HVO:Hid (hv.all (·.oneCell')=true):=zh (by rw [hhv];exact head_one _)
 obtain ⟨A,hA⟩:=zg (w.heap.size)
 have HAA:=zh hA
 clear hhv hhr hhv2 hh hra hrl
 go_enter Tryz.func45,Tryz.ntmps45
 go_upto_region 1 with fail
 generalize hW1:World.alloc _ _=W1
 have h1:W1.heap[A]?=some (.cells hv 29 (0,0)):=by rw [←hW1,hA];exact (Below.heap_alloc _ _ _ (by simp)).trans (heap_alloc_new _ _)
 have h2:W1.heap[A+1]?=some (.cells z36 36 (0,0)):=by
  rw [←hW1,hA,show w.heap.size+1=(w.alloc (.cells hv 29)).heap.size by simp];exact heap_alloc_new _ _
 have hm:Mv (fun _=>False) w W1:=by rw [←hW1];exact ((Mv.refl _ _).alloc _).alloc _
 rw [←hA]
 obtain ⟨c0,c1,c2⟩:=head_cells (show W1.heap[A]?=some (.cells h.V.toArray 29 (0,0)) by rw [←HHV.out];exact h1)
 rw [←HHR.out] at c2
 have HC2:=zh c2
 have H2:=zh h2
 have HM:=zh hm
 obtain ⟨ho,hho⟩:=zg (h.o)
 obtain ⟨hn,hhn⟩:=zg (h.n)
 rw [←hho] at c0 hbj
 rw [←hhn] at c1 hbj
 clear hW1 h1 h2 hm c2 hA hho hhn
 go_wp2_with (first
  | (refine wpList_load_cellsAt rfl 27 (.tmp 7) rfl A 2 rfl hr _ HC2.out Tryz.underlying27 rfl HIR.out ?_;rw [HRA.out])
  | (refine wpList_store_row rfl 36 (.tmp 2) _ rfl (A+1) hv rfl rfl 36 z36 H2.out HIV.out HVZ.out HVO.out ?_))
 refine bodyPost_ret (results_cell_row (fn:=Tryz.f45) rfl _ _ (A+1) 36 hv (0,0) _ rfl (setRow_heap _ _ _ _ _ _ H2.out) Tryz.underlying36 rfl HIV.out) rfl ?_
 exact ⟨rfl,HM.out.setRow (.inr (by have:=HAA.out;omega)) _⟩
set_option maxRecDepth 100000 in
set_option maxHeartbeats 800000 in
theorem hashes_any (v:Value) (p:List Bs) (w:World) (hv:HsArg w v p) (hl:p.length≤1048576) :
  Calls Tryz.prog 27 #[v] w fun e w'=>∃ v',e=.returned v'∧w'.ownsRow w.heap.size 34 32 v' p.length (hsV p)∧Mv (fun _=>False) w w':=by
 obtain ⟨i0,hi0,hz0,hz1,hz2⟩:=info_parts Tryz.info34f
 obtain ⟨a,c,hs⟩:=hv.shape
 subst hs
 obtain ⟨n,hn⟩:=zg (p.length)
 have HN:=zh hn
 have HV:=zh hv
 rw [←hn] at hl ⊢
 clear hn hv
 go_enter Tryz.func27,Tryz.ntmps27
 go_wp2_with fail
 go_loopw [3,4] (fun s3 i wr=>∃ (j:Nat),j≤n∧i=.int .i64 j∧wr.ownsRow w.heap.size 34 32 s3 j (hsV (p.take j))∧Mv (fun _=>False) w wr) (fun _ i _=>n - (intOf i).toNat)
 case atStart=>exact ⟨0,by omega,rfl,World.ownsRow_nil _ _ _ _,Mv.refl _ _⟩
 case round =>
  obtain ⟨j,hj,rfl,hown,hmv⟩:=hrel
  obtain ⟨sa,sc,hsh⟩:=owns_shape hown
  subst hsh
  have HOWN:=zh hown
  have HMV:=zh hmv
  have hws:=hmv.size
  clear hown hmv
  by_cases hjn:j<n
  ·obtain ⟨g,off,hg,hpc,hh32,hcells⟩:=HsArg.at (HV.out.mv HMV.out (fun _ _ h=>h)) j (by rw [←HN.out];exact hjn)
   subst hg
   obtain ⟨h0,hh0⟩:=zg (p.getD j [])
   rw [←hh0] at hh32 hcells
   obtain ⟨hc,hhc⟩:=zg (h0.map byteV)
   rw [←hhc] at hcells
   have hhl:hc.length=32:=by rw [hhc,List.length_map];exact hh32
   have HPC:=zh hcells
   have HIL:Hid ((Tryz.prog.info? 27).map (·.size)=some hc.length):=zh (info27 hc hhl)
   have hjc:(j:Int)<n:=by omega
   have hnc:n≤c:=by rw [HN.out];exact hpc
   have HTK:Hid (hsV (p.take j)++hc=hsV (p.take (j+1))):=zh (by
    have hjp:j<p.length:=by rw [←HN.out];exact hjn
    rw [List.take_succ_eq_append_getElem hjp,hhc,hh0]
    unfold hsV
    rw [List.map_append,List.flatten_append]
    simp [hjp])
   have HONE:Hid (∀ u∈hc,u.oneCell'=true):=zh (by rw [hhc];exact byteV_one h0)
   have HHL:=zh hhl
   have HBS:Hid (hc.toArray.size=32):=zh (by rw [List.size_toArray,hhl])
   have hbg:=build_givenL hc hhl
   have HNW:Hid (∀ (E:TypeId) (t:Nat) u,hc[t]?=some u→(wr.alloc (.cells hc.toArray E)).cell? ((⟨wr.heap.size,0,none⟩:Addr).add t)=some u):=zh fun E t u hu=>by
    have hj:(wr.alloc (.cells hc.toArray E)).cell? ⟨wr.heap.size,0+t,none⟩=some u:=by
     rw [cell_of_row _ _ _ _ _ _ (heap_alloc_new wr (.cells hc.toArray E)),Nat.zero_add];simpa using hu
    unfold Addr.add
    split
    ·rename_i h0;subst h0;exact hj
    ·exact hj
   clear hh0 hh32 hcells hhc hpc
   go_wp2_with (first
    | (refine wpList_load_cellsAt rfl 27 (.tmp 14) rfl g (off+j * 32) rfl hc _ HPC.out Tryz.underlying27 rfl HIL.out ?_)
    | (at_builtin;go_loud (refine wpList_append_own _ rfl _ _ 37 rfl w.heap.size 34 i0 (.agg z32B) 32 32 Tryz.underlying37 hi0 hz0 hz1 hz2 rfl (by decide) _ _ _ rfl (HOWN.out.alloc _) ⟨wr.heap.size,0,none⟩ 1 1 hc rfl HHL.out (HNW.out _) HONE.out (by unfold maxLen;omega) (by omega) (by simp;omega) ?_);intro v6 w6 hown6 hgrow6 hnil6;have HM6:Hid (Mv (fun b=>w.heap.size≤b) wr w6):=zh (((Mv.refl _ _).alloc _).grown hgrow6 (fun k hk=>.inl (HOWN.out.lt k hk).1));have HOWN6:=zh hown6;clear hown6 hgrow6 hnil6))
   go_roundw
   case rel=>exact ⟨j+1,by omega,by go_num,by rw [←HTK.out];exact HOWN6.out,HMV.out.trans' HM6.out (fun i hi h=>by omega)⟩
   case measure=>simp [intOf];omega
  ·have hjn2:j=n:=by omega
   subst hjn2
   go_wp2_with fail
   go_ret
   refine ⟨_,rfl,?_,HMV.out⟩
   have:=HOWN.out
   rw [List.take_of_length_le (by rw [HN.out];exact Nat.le_refl _)] at this
   exact this
theorem fill_block (place:Nat→Option (Nat × Nat)) (i:Nat) (v:Value) (A Z:List Value) (rest:List (Nat × Value)) (hp:place i=some (A.length,v.cells.size)) (hz:v.cells.size≤Z.length) :
  Instr.fill place (A++Z).toArray ((i,v) :: rest)=Instr.fill place ((A++v.cells.toList)++Z.drop v.cells.size).toArray rest:=by
 conv=>lhs;unfold Instr.fill
 rw [hp]
 simp only
 rw [if_neg (by simp;omega)]
 congr 1
 obtain ⟨cs,hcs⟩:=zg (v.cells)
 rw [←hcs] at hz ⊢
 obtain ⟨l⟩:=cs
 have e:((⟨l⟩:Array Value).zipIdx 0).toList=l.zipIdx 0:=by simp
 rw [←Array.foldl_toList,e]
 obtain ⟨h1,h2⟩:=fold_set A.length l 0 (A++Z).toArray
 apply Array.ext_getElem?
 intro q
 rw [h2]
 simp only [Nat.add_zero,List.size_toArray,List.length_append,List.getElem?_toArray]
 have hzl:l.length≤Z.length:=by simpa using hz
 by_cases hq:A.length≤q∧q<A.length+l.length∧q<A.length+Z.length
 ·rw [if_pos hq,List.getElem?_append_left (by simp;omega),List.getElem?_append_right hq.1]
 ·rw [if_neg hq]
  by_cases hl:q<A.length
  ·rw [List.getElem?_append_left hl,List.getElem?_append_left (by simp;omega),List.getElem?_append_left hl]
  ·rw [List.getElem?_append_right (by omega),List.getElem?_append_right (by simp;omega),List.getElem?_drop]
   congr 1
   simp
   omega
theorem places61:(match Tryz.prog.underlying 61 with|some (.struct fs)=>fs.toList.mapM (fun f=>(Tryz.prog.info? f.type).map fun i=>(f.offset,i.size))|_=>none)=some [(0,1),(1,1),(2,1),(3,1),(4,1),(5,34),(39,34),(73,1),(74,1)]:=by kernel_rfl
theorem zero61:∃ it,Tryz.prog.info? 61=some it∧it.zero=some (.agg z75):=by
 have h:(Tryz.prog.info? 61).map (·.zero)=some (some (.agg z75)):=by kernel_rfl
 cases hi:Tryz.prog.info? 61 with
 | none=>rw [hi] at h;cases h
 | some it=>rw [hi] at h;exact ⟨it,rfl,by simpa using h⟩
theorem built_any (parts:List (Nat × Value)):Tryz.prog.built 61 parts=Instr.fill (([(0,1),(1,1),(2,1),(3,1),(4,1),(5,34),(39,34),(73,1),(74,1)]:List (Nat × Nat)).toArray[·]?) z75 parts:=by
 obtain ⟨it,h1,h2⟩:=zero61
 have hp:=places61
 unfold Program.built
 rw [h1]
 cases hu:Tryz.prog.underlying 61 with
 | none=>rw [hu] at hp;cases hp
 | some d =>
  rw [hu] at hp
  cases d <;> try (cases hp;done)
  rename_i fs
  simp only at hp
  simp only [h2,hp]
  rfl
theorem built_fact (f:FactP) (a a':Option Addr) (n n' c c':Nat) (hf:f.Ok) :
  Tryz.prog.built 61 [(0,.int .i64 f.kind),(1,.string f.path),(2,.string f.ver),(3,.int .i64 f.id),(4,.string f.rcd),(5,.agg f.old.V.toArray),(6,.agg f.head.V.toArray),(7,.slice a n c),(8,.slice a' n' c')]=some (f.cells (.slice a n c) (.slice a' n' c')).toArray:=by
 rw [built_any]
 have z:z75=([]++z75.toList).toArray:=by simp
 have l1:=HeadP.V_len _ hf.o
 have l2:=HeadP.V_len _ hf.h
 rw [z]
 have zl:z75.toList.length=75:=by simp [z75_size]
 obtain ⟨Z,hZ⟩:=zg (z75.toList)
 rw [←hZ] at zl ⊢
 rw [fill_block _ 0 _ [] Z _ rfl (by simp [Value.cells];omega)]
 rw [fill_block _ 1 _ _ _ _ (by simp [Value.cells]) (by simp [Value.cells];omega)]
 rw [fill_block _ 2 _ _ _ _ (by simp [Value.cells]) (by simp [Value.cells];omega)]
 rw [fill_block _ 3 _ _ _ _ (by simp [Value.cells]) (by simp [Value.cells];omega)]
 rw [fill_block _ 4 _ _ _ _ (by simp [Value.cells]) (by simp [Value.cells];omega)]
 rw [fill_block _ 5 _ _ _ _ (by simp [Value.cells,l1]) (by simp [Value.cells,l1];omega)]
 rw [fill_block _ 6 _ _ _ _ (by simp [Value.cells,l1,l2]) (by simp [Value.cells,l1,l2];omega)]
 rw [fill_block _ 7 _ _ _ _ (by simp [Value.cells,l1,l2]) (by simp [Value.cells,l1,l2];omega)]
 rw [fill_block _ 8 _ _ _ _ (by simp [Value.cells,l1,l2]) (by simp [Value.cells,l1,l2];omega)]
 unfold Instr.fill
 simp [Value.cells,l1,l2,FactP.cells]
 omega
theorem yields_build {P:Program} {S:World→Prop} {ops:Array Oper} {o:Oper} {a:Act} (hw:Region.wanted o (yielded ops a.tmps)=true) (t:TypeId) (parts:Array (Nat × Operand)) (ho:o.op=.build t parts) (cells:Array Value)
  (hb:P.built t (parts.map fun (i,x)=>(i,a.eval x)).toList=some cells):YieldsIf P ops S o (.agg cells) a :=
 .inl ⟨hw,fun w _=>by
  unfold execOp
  simp only [ho,Sem.run_bind,run_build w t _ cells hb,Result.andThen_ok]
  rfl⟩
def FactArg (w:World) (g o:Nat) (f:FactP):Prop:=f.Ok∧f.Small∧∃ pv nv,FactAt w g o f pv nv∧HsArg w pv f.proof∧SlArg w nv f.note
theorem FactArg.mv {w w':World} {g o:Nat} {f:FactP} (h:FactArg w g o f) (hm:Mv (fun _=>False) w w'):FactArg w' g o f:=by
 obtain ⟨h1,h2,pv,nv,h3,h4,h5⟩:=h
 exact ⟨h1,h2,pv,nv,h3.mv hm id,h4.mv hm (fun _ _ h=>h),h5.mv hm (fun _ _ h=>h)⟩
def FactsArg (w:World) (v:Value) (L:List FactP):Prop :=
 ∃ a c,v=.slice a L.length c∧L.length≤c∧∀ (j:Nat) f,L[j]?=some f→∃ g off,a=some ⟨g,off,none⟩∧FactArg w g (off+j * 75) f
theorem FactsArg.mv {w w':World} {v:Value} {L:List FactP} (h:FactsArg w v L) (hm:Mv (fun _=>False) w w'):FactsArg w' v L:=by
 obtain ⟨a,c,h1,h2,h3⟩:=h
 exact ⟨a,c,h1,h2,fun j f hj=>by
  obtain ⟨g,off,e,hf⟩:=h3 j f hj
  exact ⟨g,off,e,hf.mv hm⟩⟩
def factsL (L:List FactP) (ps:List (Value × Value)):List (List Value):=(L.zip ps).map fun x=>x.1.cells x.2.1 x.2.2
def FactsOwn (w:World) (B:Nat) (v:Value) (L:List FactP) (ps:List (Value × Value)):Prop :=
 ps.length=L.length∧w.ownsRow B 61 75 v L.length (factsL L ps).flatten∧∀ (j:Nat) f x,L[j]?=some f→ps[j]?=some x→w.ownsRow B 34 32 x.1 f.proof.length (hsV f.proof)∧w.ownsRow B 5 1 x.2 f.note.length (f.note.map byteV)
theorem owns_mvT {F:Nat→Prop} {w w':World} {base:Nat} {e E:TypeId} {sz:Nat} {v:Value} {n:Nat} {xs:List Value} (h:w.ownsRow base e sz v n xs) (hm:Mv F w w') (hF:∀ b,F b→b<w.heap.size→∃ C,w.heap[b]?=some (.cells C E (0,0))) (hE:e≠E):w'.ownsRow base e sz v n xs:=by
 refine ⟨h.1,?_⟩
 rcases h.2 with ⟨rfl,h0⟩|⟨g,c,cur,rfl,hb,hg,hr⟩
 ·exact .inl ⟨rfl,h0⟩
 ·refine .inr ⟨g,c,cur,rfl,hb,(hm.block g (lt_of_heap hg) (fun hf=>?_)).trans hg,hr⟩
  obtain ⟨C,hC⟩:=hF g hf (lt_of_heap hg)
  rw [hC] at hg
  simp at hg
  exact hE hg.2.symm
theorem FactsOwn.mv {w w':World} {B:Nat} {v:Value} {L:List FactP} {ps:List (Value × Value)} (h:FactsOwn w B v L ps) (hm:Mv (fun _=>False) w w'):FactsOwn w' B v L ps :=
 ⟨h.1,owns_mv h.2.1 hm (fun _ _ _ h=>h),fun j f x hf hx=>⟨owns_mv (h.2.2 j f x hf hx).1 hm (fun _ _ _ h=>h),owns_mv (h.2.2 j f x hf hx).2 hm (fun _ _ _ h=>h)⟩⟩
theorem factsL_len {L:List FactP} {ps:List (Value × Value)} (h:ps.length=L.length):(factsL L ps).length=L.length:=by simp [factsL,h]
theorem factsL_at {L:List FactP} {ps:List (Value × Value)} {j:Nat} {f:FactP} {x:Value × Value} (hf:L[j]?=some f) (hx:ps[j]?=some x):(factsL L ps)[j]?=some (f.cells x.1 x.2):=by
 unfold factsL
 rw [List.getElem?_map,(List.getElem?_zip_eq_some (z:=(f,x))).2 ⟨hf,hx⟩]
 rfl
theorem factsL_lens {L:List FactP} {ps:List (Value × Value)} (h:∀ f∈L,f.Ok):∀ y∈factsL L ps,y.length=75:=fun y hy=>by
 obtain ⟨x,hx,rfl⟩:=List.mem_map.1 hy
 exact FactP.cells_len _ _ _ (h _ (List.of_mem_zip hx).1)
theorem FactsOwn.in {w:World} {B:Nat} {v:Value} {L:List FactP} {ps:List (Value × Value)} (h:FactsOwn w B v L ps) (hok:∀ f∈L,f.Ok∧f.Small∧∀ x∈f.proof,x.length=32):FactsIn w v L:=by
 obtain ⟨h1,h2,h3⟩:=h
 obtain ⟨a,c,rfl⟩:=owns_shape h2
 have hc:L.length≤c:=by
  rcases h2.2 with ⟨he,h0⟩|⟨g,cap,cur,he,_,_,hc,_⟩
  ·rw [h0];exact Nat.zero_le _
  ·simp only [Value.slice.injEq] at he;rw [he.2.2];exact hc
 refine ⟨a,c,rfl,hc,fun j f hf=>?_⟩
 have hjl:=(List.getElem?_eq_some_iff.1 hf).1
 obtain ⟨x,hx⟩:∃ x,ps[j]?=some x:=⟨ps[j]'(by omega),List.getElem?_eq_getElem _⟩
 have hne:factsL L ps≠[]:=by intro e;have:=factsL_len h1;rw [e] at this;simp at this;omega
 have hl:=factsL_lens (ps:=ps) (fun f hf=>(hok f hf).1)
 obtain ⟨g,cap,hv,hb,_,hrow⟩:=owns_rowG (factsL L ps) hl (by rw [factsL_len h1];exact h2) hne
 simp only [Value.slice.injEq] at hv
 have hr:=hrow.range j (by rw [factsL_len h1];exact hjl)
 have hgd:(factsL L ps).getD j []=f.cells x.1 x.2:=by rw [List.getD_eq_getElem?_getD,factsL_at hf hx];rfl
 rw [hgd] at hr
 obtain ⟨o1,o2⟩:=h3 j f x hf hx
 obtain ⟨k1,k2,k3⟩:=hok f (List.mem_of_getElem? hf)
 exact ⟨g,0,hv.1,k1,k2,x.1,x.2,fun t u hu=>by rw [Nat.zero_add];exact hr t u hu,HsIn.of_owns k3 o1,SlIn.of_owns o2⟩
theorem run_slice54 (cs:Array Value) (w:World) (h:cs.size=75):(Instr.buildSlice 54 1 #[(0,.agg cs)]).run Tryz.prog w=.ok (.slice (some ⟨w.heap.size,0,none⟩) 1 1) (w.alloc (.cells cs 61)):=by
 have hb:=fun Z hz=>build_all Z cs hz
 simp only [h] at hb
 go_simp
theorem wp_slice54 {o:Oper} {a:Act} {w:World} {K:Act→World→Prop} {Q:Exit→Act→World→Prop} (x:Operand) (ho:o.op=.buildSlice 54 1 #[(0,x)]) (cs:Array Value) (hx:a.eval x=.agg cs) (hz:cs.size=75)
  (h:K (a.put o.dst (.slice (some ⟨w.heap.size,0,none⟩) 1 1)) (w.alloc (.cells cs 61))):o.wp Tryz.prog a w K Q:=by
 unfold Oper.wp execOp
 simp only [ho,List.map_toArray,List.map_cons,List.map_nil,hx,Sem.run_bind,run_slice54 cs w hz,Result.andThen_ok]
 exact h
theorem Tryz.info61f:(Tryz.prog.info? 61).map (fun i=>(i.zero,i.size,i.bytes))=some (some (.agg z75),75,224):=by kernel_rfl
theorem info110:(Tryz.prog.info? 110).map (·.size)=some 75:=by kernel_rfl
set_option maxRecDepth 100000 in
set_option maxHeartbeats 3200000 in
theorem facts_any (v:Value) (L:List FactP) (w:World) (hL:FactsArg w v L) (hb:L.length≤1048576) (hn:∀ f∈L,f.note.length≤1048576) :
  Calls Tryz.prog 18 #[v] w fun e w'=>∃ v' ps,e=.returned v'∧FactsOwn w' w.heap.size v' L ps∧Mv (fun _=>False) w w':=by
 obtain ⟨i0,hi0,hz0,hz1,hz2⟩:=info_parts Tryz.info61f
 obtain ⟨a,c,hv,hLc,hLj⟩:=hL
 subst hv
 obtain ⟨n,hnn⟩:=zg (L.length)
 rw [←hnn] at hLc hb ⊢
 have HN:=zh hnn
 have HLJ:=zh hLj
 have HNOTE:=zh hn
 clear hnn hLj hn
 go_enter Tryz.func18,Tryz.ntmps18
 go_wp2_with fail
 go_loopw [3,4] (fun s3 i wr=>∃ (j:Nat) (ps:List (Value × Value)),j≤n∧i=.int .i64 j∧FactsOwn wr w.heap.size s3 (L.take j) ps∧Mv (fun _=>False) w wr) (fun _ i _=>n - (intOf i).toNat)
 case atStart=>exact ⟨0,[],by omega,rfl,⟨by simp,World.ownsRow_nil _ _ _ _,fun j f x hf=>by simp at hf⟩,Mv.refl _ _⟩
 case round =>
  obtain ⟨j,ps,hj,rfl,hown,hmv⟩:=hrel
  have hpl:=hown.1
  rw [List.length_take] at hpl
  have hoj:=hown.2.1
  have hlt:(L.take j).length=j:=by rw [List.length_take,←HN.out];omega
  rw [hlt] at hoj
  obtain ⟨sa,sc,hsh⟩:=owns_shape hoj
  subst hsh
  have HOJ:=zh hoj
  have HOWN:=zh hown
  have HMV:=zh hmv
  have HPL:Hid (ps.length=j):=zh (by rw [hpl,←HN.out];omega)
  have hws:=hmv.size
  clear hown hmv hoj hpl hlt
  by_cases hjn:j<n
  ·obtain ⟨f,hf⟩:∃ f,L[j]?=some f:=⟨L[j]'(by rw [←HN.out];exact hjn),List.getElem?_eq_getElem _⟩
   obtain ⟨g,off,ha,hfin⟩:=HLJ.out j f hf
   obtain ⟨hok,hsm,pv,nv,hat,hps,hns⟩:=hfin.mv HMV.out
   obtain ⟨pa,pc,hpv⟩:=hps.shape
   obtain ⟨na,nc,hnv⟩:=hns.shape
   subst ha
   obtain ⟨fl,hfl⟩:=zg (f.cells pv nv)
   obtain ⟨fc,hfc⟩:=zg ((f.cells pv nv).toArray)
   have hflc:fl.toArray=fc:=by rw [hfl,hfc]
   have hfz:fc.size=75:=by rw [hfc,List.size_toArray,FactP.cells_len _ _ _ hok]
   have HC:Hid (∀ (t:Nat) u,fl[t]?=some u→wr.cell? ⟨g,off+j * 75+t,none⟩=some u):=zh fun t u hu=>hat t u (by rw [←hfl];exact hu)
   have HCX:Hid (∀ (o:Obj) (t:Nat) u,fl[t]?=some u→(wr.alloc o).cell? ⟨g,off+j * 75+t,none⟩=some u):=zh fun o t u hu=>(World.cell?_of_block (Below.heap_alloc _ _ _ (World.block_lt_of_cell? _ _ (HC.out t u hu)))).trans (HC.out t u hu)
   have HI75L:Hid ((Tryz.prog.info? 110).map (·.size)=some fl.length):=zh (by rw [hfl,FactP.cells_len _ _ _ hok];exact info110)
   have HI75:Hid ((Tryz.prog.info? 110).map (·.size)=some fc.size):=zh (by rw [hfz];exact info110)
   have HZ75:Hid (75=fc.size):=zh hfz.symm
   have HONE:Hid (fc.all (·.oneCell')=true):=zh (by rw [hfc,hpv,hnv];exact fact_one f _ _ _ _ _ _)
   have HFLC:=zh hflc
   have HFC:=zh hfc
   have HPS:=zh hps
   have HNS:=zh hns
   have HOK:=zh hok
   have HSM:=zh hsm
   have HF:=zh hf
   have HNL:Hid (f.note.length≤1048576):=zh (HNOTE.out f (List.mem_of_getElem? hf))
   have hjc:(j:Int)<n:=by omega
   clear hf hfin hok hsm hat hps hns hpv hnv hfl hfc hflc hfz
   go_upto_region 6 with (first
    | (refine wpList_load_cellsAt rfl 110 (.tmp 14) rfl g (off+j * 75) rfl fl _ (HCX.out _) Tryz.underlying110 rfl HI75L.out ?_;rw [HFLC.out])
    | (refine wpList_load_cellsAt rfl 110 (.tmp 14) rfl g (off+j * 75) rfl fl _ HC.out Tryz.underlying110 rfl HI75L.out ?_;rw [HFLC.out])
    | (refine wpList_store_row rfl 110 (.tmp 5) (.tmp 15) rfl wr.heap.size fc rfl rfl 110 _ (heap_alloc_new _ _) HI75.out HZ75.out HONE.out ?_))
   obtain ⟨X,hX⟩:=zg (wr.heap.size)
   have HW:Hid (∀ Z:Array Value,((wr.alloc (.cells Z 110)).setRow wr.heap.size fc).heap[X]?=some (.cells fc 110 (0,0))∧Mv (fun _=>False) wr ((wr.alloc (.cells Z 110)).setRow wr.heap.size fc)):=zh fun Z =>
    ⟨by rw [hX];exact setRow_heap _ _ _ _ _ _ (heap_alloc_new _ _),((Mv.refl _ _).alloc _).setRow (.inr (Nat.le_refl _)) _⟩
   rw [←hX]
   generalize hW:World.setRow _ _ _=w5
   obtain ⟨x5,m5⟩:=HW.out _
   rw [←hX,hW] at x5 m5
   have X5:=zh x5
   have M5:=zh m5
   have HXX:Hid (X=wr.heap.size):=zh hX
   have hrd:∀ W:World,W.heap[X]?=some (.cells fc 110 (0,0))→FactAt W X 0 f pv nv:=fun W hW=>FactAt.of_block (by rw [←HFC.out];exact hW)
   have HRD:=zh hrd
   obtain ⟨fh,hfh⟩:=zg (f.head.V)
   obtain ⟨fo,hfo⟩:=zg (f.old.V)
   have HFH:=zh hfh
   have HFO:=zh hfo
   have HIH:Hid ((Tryz.prog.info? 29).map (·.size)=some fh.length):=zh (by rw [hfh,HeadP.V_len _ HOK.out.h];exact info29)
   have HIO:Hid ((Tryz.prog.info? 29).map (·.size)=some fo.length):=zh (by rw [hfo,HeadP.V_len _ HOK.out.o];exact info29)
   have HRC:Hid (∀ W:World,W.heap[X]?=some (.cells fc 110 (0,0))→W.cell? ⟨X,0,none⟩=some (.int .i64 f.kind)∧W.cell? ⟨X,1,none⟩=some (.string f.path)∧W.cell? ⟨X,2,none⟩=some (.string f.ver)∧W.cell? ⟨X,3,none⟩=some (.int .i64 f.id)∧W.cell? ⟨X,4,none⟩=some (.string f.rcd)∧W.cell? ⟨X,73,none⟩=some pv∧W.cell? ⟨X,74,none⟩=some nv):=zh fun W hW=>by
    have h:=HRD.out W hW
    have e:∀ (j:Nat) v,(f.cells pv nv)[j]?=some v→W.cell? ⟨X,j,none⟩=some v:=fun j v hj=>by have:=h j v hj;rw [Nat.zero_add] at this;exact this
    exact ⟨e 0 _ (f.c0 pv nv),e 1 _ (f.c1 pv nv),e 2 _ (f.c2 pv nv),e 3 _ (f.c3 pv nv),e 4 _ (f.c4 pv nv),e 73 _ (f.c73 pv nv HOK.out),e 74 _ (f.c74 pv nv HOK.out)⟩
   clear hW hX x5 m5 HW hrd hfh hfo
   refine wp_region_noPanic ?_
   refine wp_region_held_drew (S:=(fun w'=>w'.heap[X]?=some (.cells fc 110 (0,0)))) (by kernel_rfl) (X5.out) (fun hHeld=>?_)
   refine zt 0 (.slice sa j sc) rfl (fun _ hS=>by go_simp) hHeld ?_
   try walk_nrm
   refine zt 1 (.pointer (some ⟨X,0,none⟩)) rfl (fun _ hS=>by go_simp) hHeld ?_
   try walk_nrm
   refine zt 2 (.int .i64 f.kind) rfl (fun _ hS=>by obtain ⟨q0,q1,q2,q3,q4,q5,q6⟩:=HRC.out _ hS;go_simp) hHeld ?_
   try walk_nrm
   refine zt 3 (.pointer (some ⟨X,1,none⟩)) rfl (fun _ hS=>by go_simp) hHeld ?_
   try walk_nrm
   refine zt 4 (.string f.path) rfl (fun _ hS=>by obtain ⟨q0,q1,q2,q3,q4,q5,q6⟩:=HRC.out _ hS;go_simp) hHeld ?_
   try walk_nrm
   refine zt 5 (.pointer (some ⟨X,2,none⟩)) rfl (fun _ hS=>by go_simp) hHeld ?_
   try walk_nrm
   refine zt 6 (.string f.ver) rfl (fun _ hS=>by obtain ⟨q0,q1,q2,q3,q4,q5,q6⟩:=HRC.out _ hS;go_simp) hHeld ?_
   try walk_nrm
   refine zt 7 (.pointer (some ⟨X,3,none⟩)) rfl (fun _ hS=>by go_simp) hHeld ?_
   try walk_nrm
   refine zt 8 (.int .i64 f.id) rfl (fun _ hS=>by obtain ⟨q0,q1,q2,q3,q4,q5,q6⟩:=HRC.out _ hS;go_simp) hHeld ?_
   try walk_nrm
   refine zt 9 (.pointer (some ⟨X,4,none⟩)) rfl (fun _ hS=>by go_simp) hHeld ?_
   try walk_nrm
   refine zt 10 (.string f.rcd) rfl (fun _ hS=>by obtain ⟨q0,q1,q2,q3,q4,q5,q6⟩:=HRC.out _ hS;go_simp) hHeld ?_
   try walk_nrm
   refine zt 11 (.pointer (some ⟨X,5,none⟩)) rfl (fun _ hS=>by go_simp) hHeld ?_
   try walk_nrm
   refine zj 12 (.agg fo.toArray) rfl (yieldsIf_load_mid (by rfl) 29 _ rfl X 5 rfl fo _ (fun _ h=>fun j v hj=>((HRD.out _ h).reads HOK.out).2.2.2.2.2.2.2 j v (by rw [←HFO.out];exact hj)) Tryz.underlying29 rfl HIO.out) hHeld ?_
   try walk_nrm
   refine zt 14 (.pointer (some ⟨X,39,none⟩)) rfl (fun _ hS=>by go_simp) hHeld ?_
   try walk_nrm
   refine zj 15 (.agg fh.toArray) rfl (yieldsIf_load_mid (by rfl) 29 _ rfl X 39 rfl fh _ (fun _ h=>fun j v hj=>((HRD.out _ h).reads HOK.out).2.2.2.2.2.2.1 j v (by rw [←HFH.out];exact hj)) Tryz.underlying29 rfl HIH.out) hHeld ?_
   try walk_nrm
   refine zt 17 (.pointer (some ⟨X,73,none⟩)) rfl (fun _ hS=>by go_simp) hHeld ?_
   try walk_nrm
   refine zt 18 pv rfl (fun _ hS=>by obtain ⟨q0,q1,q2,q3,q4,q5,q6⟩:=HRC.out _ hS;go_simp) hHeld ?_
   try walk_nrm
   refine zt 20 (.pointer (some ⟨X,74,none⟩)) rfl (fun _ hS=>by go_simp) hHeld ?_
   try walk_nrm
   refine zt 21 nv rfl (fun _ hS=>by obtain ⟨q0,q1,q2,q3,q4,q5,q6⟩:=HRC.out _ hS;go_simp) hHeld ?_
   try walk_nrm
   refine zo 13 rfl fun K' hK=>?_
   unfold Oper.wp execOp
   go_simp
   have hh:=head45_any f.old w5.drew HOK.out.o
   rw [←HFO.out] at hh
   refine hh.mono ?_
   rintro e w6 ⟨rfl,hmM6⟩
   clear hh
   have M6:=zh (M5.out.drew.trans hmM6)
   have hsM6:=(hmM6.block X (lt_of_heap hHeld) id).trans hHeld
   clear hmM6
   refine hK.out _ _ hsM6 (fun hHeld=>?_)
   clear hK K'
   try walk_nrm
   clear hsM6
   refine zo 16 rfl fun K' hK=>?_
   unfold Oper.wp execOp
   go_simp
   have hh:=head45_any f.head w6 HOK.out.h
   rw [←HFH.out] at hh
   refine hh.mono ?_
   rintro e w7 ⟨rfl,hmM7⟩
   clear hh
   have M7:=zh (M6.out.trans hmM7)
   have hsM7:=(hmM7.block X (lt_of_heap hHeld) id).trans hHeld
   clear hmM7
   refine hK.out _ _ hsM7 (fun hHeld=>?_)
   clear hK K'
   try walk_nrm
   clear hsM7
   refine zo 19 rfl fun K' hK=>?_
   unfold Oper.wp execOp
   go_simp
   refine (hashes_any pv f.proof w7 (HPS.out.mv M7.out (fun _ _ h=>h)) HSM.out.p).mono ?_
   rintro e w8 ⟨pv2,rfl,hop,hmM8⟩
   obtain ⟨a8,c8,hsh8⟩:=owns_shape hop
   subst hsh8
   have OP:=zh hop
   clear hop
   have M8:=zh (M7.out.trans hmM8)
   have hsM8:=(hmM8.block X (lt_of_heap hHeld) id).trans hHeld
   clear hmM8
   refine hK.out _ _ hsM8 (fun hHeld=>?_)
   clear hK K'
   try walk_nrm
   clear hsM8
   refine zo 22 rfl fun K' hK=>?_
   unfold Oper.wp execOp
   go_simp
   refine (bytes_any nv f.note w8 (HNS.out.mv M8.out (fun _ _ h=>h)) (Nat.le_trans HNL.out (by decide))).mono ?_
   rintro e w9 ⟨nv2,rfl,hob,hmM9⟩
   obtain ⟨a9,c9,hsh9⟩:=owns_shape hob
   subst hsh9
   have OB:=zh hob
   have OP9:=zh (owns_mv OP.out hmM9 (fun _ _ _ h=>h))
   clear hob
   have M9:=zh (M8.out.trans hmM9)
   have hsM9:=(hmM9.block X (lt_of_heap hHeld) id).trans hHeld
   clear hmM9
   refine hK.out _ _ hsM9 (fun hHeld=>?_)
   clear hK K'
   try walk_nrm
   clear hsM9
   obtain ⟨ca,hca⟩:=zg ((f.cells (.slice a8 f.proof.length c8) (.slice a9 f.note.length c9)).toArray)
   have hcaz:ca.size=75:=by rw [hca,List.size_toArray,FactP.cells_len _ _ _ HOK.out]
   have hblt:=built_fact f a8 a9 f.proof.length f.note.length c8 c9 HOK.out
   rw [←hca,←HFO.out,←HFH.out] at hblt
   have HBLT:=zh hblt
   have HCA:=zh hca
   have HCAZ:=zh hcaz
   clear hblt hca hcaz
   refine zj 23 (.agg ca) rfl (yields_build (by rfl) 61 _ rfl ca (by simp only [List.map_toArray,List.map_cons,List.map_nil];exact HBLT.out)) hHeld ?_
   try walk_nrm
   refine zo 24 rfl fun K' hK=>?_
   refine wp_slice54 (.tmp 39) rfl ca rfl HCAZ.out ?_
   have hm10:Mv (fun _=>False) w9 (w9.alloc (.cells ca 61)):=(Mv.refl _ _).alloc _
   have hs10:=(hm10.block X (lt_of_heap hHeld) id).trans hHeld
   have HNW:Hid (∀ (t:Nat) u,ca.toList[t]?=some u→(w9.alloc (.cells ca 61)).cell? ((⟨w9.heap.size,0,none⟩:Addr).add t)=some u):=zh fun t u hu=>by
    have hj:(w9.alloc (.cells ca 61)).cell? ⟨w9.heap.size,0+t,none⟩=some u:=by
     rw [cell_of_row _ _ _ _ _ _ (heap_alloc_new w9 (.cells ca 61)),Nat.zero_add];simpa using hu
    unfold Addr.add
    split
    ·rename_i h0;subst h0;exact hj
    ·exact hj
   have M10:=zh (M9.out.trans hm10)
   have OB10:=zh (owns_mv OB.out hm10 (fun _ _ _ h=>h))
   have OP10:=zh (owns_mv OP9.out hm10 (fun _ _ _ h=>h))
   obtain ⟨B9,hB9⟩:=zg (w9.heap.size)
   rw [←hB9] at HNW ⊢
   generalize w9.alloc (.cells ca 61)=w10 at hs10 HNW M10 OB10 OP10 ⊢
   clear hm10 hB9
   refine hK.out _ _ hs10 (fun hHeld=>?_)
   clear hK K'
   try walk_nrm
   clear hs10
   refine zo 25 rfl fun K' hK=>?_
   have OJ10:=zh (owns_mv HOJ.out M10.out (fun _ _ _ h=>h))
   refine wp_append_own _ _ _ 54 rfl w.heap.size 61 i0 (.agg z75) 75 224 Tryz.underlying54 hi0 hz0 hz1 hz2 rfl (by decide) _ _ _ rfl OJ10.out ⟨B9,0,none⟩ 1 1 ca.toList rfl (by simp [HCAZ.out]) HNW.out (by rw [HCA.out];intro u hu;exact List.all_eq_true.1 (by have:=fact_one f a8 a9 f.proof.length f.note.length c8 c9;rw [List.all_toArray] at this;exact this) u (by simpa using hu)) (by unfold maxLen;omega) (by omega) (by have:=M10.out.size;omega) ?_
   intro v11 w11 hown11 hgrow11 hnil11
   have hm11:Mv (fun b=>(Value.slice sa j sc).ownBlock=some b) w10 w11:=(Mv.refl _ _).grown hgrow11 (fun k hk=>.inl hk)
   have hblk:∀ b,(Value.slice sa j sc).ownBlock=some b→b<w10.heap.size→∃ C,w10.heap[b]?=some (.cells C 61 (0,0)):=fun b hb _=>by
    rcases OJ10.out.2 with ⟨he,_⟩|⟨g3,cap3,cur3,he,_,hg3,_⟩
    ·rw [he] at hb;cases hb
    ·rw [he] at hb;cases hb;exact ⟨cur3,hg3⟩
   have OB11:=zh (owns_mvT OB10.out hm11 hblk (by decide))
   have OP11:=zh (owns_mvT OP10.out hm11 hblk (by decide))
   have M11:Hid (Mv (fun b=>w.heap.size≤b) wr w11):=zh ((M10.out.mono (fun _ _ h=>h.elim)).trans' hm11 (fun i hi hb=>(OJ10.out.lt i hb).1))
   have HOLD:Hid (∀ (q:Nat) g x,(L.take j)[q]?=some g→ps[q]?=some x→w11.ownsRow w.heap.size 34 32 x.1 g.proof.length (hsV g.proof)∧w11.ownsRow w.heap.size 5 1 x.2 g.note.length (g.note.map byteV)):=zh fun q g x hg hx =>
    ⟨owns_mvT (owns_mv (HOWN.out.2.2 q g x hg hx).1 M10.out (fun _ _ _ h=>h)) hm11 hblk (by decide),owns_mvT (owns_mv (HOWN.out.2.2 q g x hg hx).2 M10.out (fun _ _ _ h=>h)) hm11 hblk (by decide)⟩
   have O11:=zh hown11
   have hs11:w11.heap[X]?=some (.cells fc 110 (0,0)):=(hm11.block X (lt_of_heap hHeld) (fun hb=>by obtain ⟨C,hC⟩:=hblk X hb (lt_of_heap hHeld);rw [hHeld] at hC;simp at hC)).trans hHeld
   clear hown11 hgrow11 hnil11 hm11 hblk
   refine hK.out _ _ hs11 (fun hHeld=>?_)
   clear hK K'
   try walk_nrm
   clear hs11
   refine zo 26 rfl fun K' hK=>?_
   unfold Oper.wp execOp
   go_simp
   refine hK.out _ _ hHeld (fun hHeld=>?_)
   clear hK K'
   try walk_nrm
   clear hHeld
   refine zd ?_
   go_wp2_with fail
   go_roundw
   case rel =>
    have hwr:=HMV.out.size
    have htk:L.take (j+1)=L.take j++[f]:=by
     obtain ⟨h1,h2⟩:=List.getElem?_eq_some_iff.1 HF.out
     rw [List.take_succ_eq_append_getElem h1,h2]
    have hjl:(L.take j).length=j:=by rw [List.length_take,←HN.out];omega
    refine ⟨j+1,ps++[(.slice a8 f.proof.length c8,.slice a9 f.note.length c9)],by omega,by go_num,⟨?_,?_,?_⟩,HMV.out.trans' M11.out (fun i hi h=>by omega)⟩
    ·rw [htk];simp [hjl,HPL.out]
    ·have hfl:factsL (L.take j++[f]) (ps++[(.slice a8 f.proof.length c8,.slice a9 f.note.length c9)])=factsL (L.take j) ps++[f.cells (.slice a8 f.proof.length c8) (.slice a9 f.note.length c9)]:=by
      unfold factsL
      rw [List.zip_append (by rw [hjl,HPL.out])]
      simp
     rw [htk,hfl,List.flatten_append]
     have:=O11.out
     rw [HCA.out] at this
     simpa [hjl] using this
    ·intro q g2 x hg hx
     rw [htk] at hg
     by_cases hq:q<j
     ·exact HOLD.out q g2 x (by rw [List.getElem?_append_left (by omega)] at hg;exact hg) (by rw [List.getElem?_append_left (by rw [HPL.out];exact hq)] at hx;exact hx)
     ·rw [List.getElem?_append_right (by omega),hjl] at hg
      rw [List.getElem?_append_right (by rw [HPL.out];omega),HPL.out] at hx
      have hq0:q - j=0:=by
       apply Classical.byContradiction
       intro hc
       rw [List.getElem?_eq_none (by simp;omega)] at hg;cases hg
      rw [hq0] at hg hx
      cases hg
      cases hx
      exact ⟨owns_mono OP11.out (by have:=M7.out.size;omega),owns_mono OB11.out (by have:=M8.out.size;omega)⟩
   case measure=>simp [intOf];omega
  ·have hjn2:j=n:=by omega
   subst hjn2
   go_wp2_with fail
   go_ret
   refine ⟨_,ps,rfl,?_,HMV.out⟩
   have:=HOWN.out
   rw [List.take_of_length_le (by rw [HN.out];exact Nat.le_refl _)] at this
   exact this
end Go.Proofs.YtdfdikpklddnhaaGreatDoor
