/- Of the proof of EvidenceJudges, second form: for values of bulk at most 1048576. (Ej03) -/
import Derived.Test.YtdfdikpklddnhaaGreatDoorEj01
import Derived.Test.YtdfdikpklddnhaaGreatDoorEj02
import Derived.Laws.ShiftsVar
import Derived.RegionTactic
import Derived.Deep.Light
import Derived.BigRegion
import Derived.StillTailTactics
namespace Go.Proofs.YtdfdikpklddnhaaGreatDoor
open Go.RowKit
def zero8:Array Value:=#[.int .u32 0,.int .u32 0,.int .u32 0,.int .u32 0,.int .u32 0,.int .u32 0,.int .u32 0,.int .u32 0]
theorem info286:(Tryz.prog.info? 286).map (·.size)=some zero8.size:=by kernel_rfl
theorem st8_one (s:St8):s.cells.toArray.all (·.oneCell')=true:=by simp [St8.cells,u32V,Value.oneCell']
theorem Mv.setRow {F:Nat→Prop} {a w:World} (h:Mv F a w) {g:Nat} (hp:F g∨a.heap.size≤g) (cs:Array Value):Mv F a (w.setRow g cs) :=
 ⟨h.os,h.tape,h.output,by simpa [World.setRow] using h.size,fun k hk hf =>
  (setRow_other w g k cs (fun e=>by subst e;rcases hp with hp|hp;exact hf hp;omega)).trans (h.block k hk hf)⟩
def digC (cnt:Int) (s:St8) (re:Value):Array Value:=#[.int .i64 256,.int .i64 cnt,u32V s.a,u32V s.b,u32V s.c,u32V s.d,u32V s.e,u32V s.f,u32V s.g,u32V s.h,.int .u64 0,.int .u64 0,.int .u64 0,.int .u64 0,.int .u64 0,.int .u64 0,.int .u64 0,.int .u64 0,re]
theorem st8_cells_at (w:World) (D:Nat) (s:St8) (cnt:Int) (re:Value) (hD:w.heap[D]?=some (.cells (digC cnt s re) 292 (0,0))) :
  ∀ (j:Nat) v,s.cells[j]?=some v→w.cell? ⟨D,2+j,none⟩=some v:=fun j v hv=>by
 have hj:j<8:=by have:=(List.getElem?_eq_some_iff.1 hv).1;simpa [St8.cells] using this
 rcases (by omega:j=0∨j=1∨j=2∨j=3∨j=4∨j=5∨j=6∨j=7) with rfl|rfl|rfl|rfl|rfl|rfl|rfl|rfl
 all_goals (rw [←hv];exact cell_of_heap hD _ rfl)
theorem agg8_0 (a b c d e f g h:Int) (w:World):(Instr.index 286 (.agg #[.int .u32 a,.int .u32 b,.int .u32 c,.int .u32 d,.int .u32 e,.int .u32 f,.int .u32 g,.int .u32 h]) (.int .i64 0)).run Tryz.prog w=.ok (.int .u32 a) w:=by kernel_rfl
theorem agg8_1 (a b c d e f g h:Int) (w:World):(Instr.index 286 (.agg #[.int .u32 a,.int .u32 b,.int .u32 c,.int .u32 d,.int .u32 e,.int .u32 f,.int .u32 g,.int .u32 h]) (.int .i64 1)).run Tryz.prog w=.ok (.int .u32 b) w:=by kernel_rfl
theorem agg8_2 (a b c d e f g h:Int) (w:World):(Instr.index 286 (.agg #[.int .u32 a,.int .u32 b,.int .u32 c,.int .u32 d,.int .u32 e,.int .u32 f,.int .u32 g,.int .u32 h]) (.int .i64 2)).run Tryz.prog w=.ok (.int .u32 c) w:=by kernel_rfl
theorem agg8_3 (a b c d e f g h:Int) (w:World):(Instr.index 286 (.agg #[.int .u32 a,.int .u32 b,.int .u32 c,.int .u32 d,.int .u32 e,.int .u32 f,.int .u32 g,.int .u32 h]) (.int .i64 3)).run Tryz.prog w=.ok (.int .u32 d) w:=by kernel_rfl
theorem agg8_4 (a b c d e f g h:Int) (w:World):(Instr.index 286 (.agg #[.int .u32 a,.int .u32 b,.int .u32 c,.int .u32 d,.int .u32 e,.int .u32 f,.int .u32 g,.int .u32 h]) (.int .i64 4)).run Tryz.prog w=.ok (.int .u32 e) w:=by kernel_rfl
theorem agg8_5 (a b c d e f g h:Int) (w:World):(Instr.index 286 (.agg #[.int .u32 a,.int .u32 b,.int .u32 c,.int .u32 d,.int .u32 e,.int .u32 f,.int .u32 g,.int .u32 h]) (.int .i64 5)).run Tryz.prog w=.ok (.int .u32 f) w:=by kernel_rfl
theorem agg8_6 (a b c d e f g h:Int) (w:World):(Instr.index 286 (.agg #[.int .u32 a,.int .u32 b,.int .u32 c,.int .u32 d,.int .u32 e,.int .u32 f,.int .u32 g,.int .u32 h]) (.int .i64 6)).run Tryz.prog w=.ok (.int .u32 g) w:=by kernel_rfl
theorem agg8_7 (a b c d e f g h:Int) (w:World):(Instr.index 286 (.agg #[.int .u32 a,.int .u32 b,.int .u32 c,.int .u32 d,.int .u32 e,.int .u32 f,.int .u32 g,.int .u32 h]) (.int .i64 7)).run Tryz.prog w=.ok (.int .u32 h) w:=by kernel_rfl
def addI (s t:St8) (i:Nat):St8:=⟨if 0<i then s.a+t.a else s.a,if 1<i then s.b+t.b else s.b,if 2<i then s.c+t.c else s.c,if 3<i then s.d+t.d else s.d,if 4<i then s.e+t.e else s.e,if 5<i then s.f+t.f else s.f,if 6<i then s.g+t.g else s.g,if 7<i then s.h+t.h else s.h⟩
def turnsV:Array Value:=#[.int .i64 2,.int .i64 13,.int .i64 22,.int .i64 6,.int .i64 11,.int .i64 25,.int .i64 7,.int .i64 18,.int .i64 3,.int .i64 17,.int .i64 19,.int .i64 10]
set_option maxRecDepth 100000 in
set_option maxHeartbeats 1600000 in
theorem compress_any (D wb rb:Nat) (ro:Nat) (s:St8) (m:Nat→UInt32) (cnt:Int) (re:Value) (C:Array Value) (TW:TypeId) (w:World)
  (hD:w.heap[D]?=some (.cells (digC cnt s re) 292 (0,0)))
  (hW:w.heap[wb]?=some (.cells C TW (0,0))) (hC:C.size=64) (hm:∀ j,j<16→C[j]?=some (u32V (m j)))
  (hR:∀ j,j<64→w.cell? ⟨rb,ro+j,none⟩=some (u32V (kc j))) (hDW:D≠wb) (hRW:rb≠wb) :
  Calls Tryz.prog 240 #[.pointer (some ⟨D,2,none⟩),.slice (some ⟨wb,0,none⟩) 64 64,.slice (some ⟨rb,ro,none⟩) 64 64,.agg turnsV,.int .i64 32] w fun e w' =>
   e=.returned (.tuple #[])∧w'.heap[D]?=some (.cells (digC cnt (addSt s (rounds kc m s 64)) re) 292 (0,0))∧Mv (fun b=>b=D∨b=wb) w w':=by
 have HD:=zh hD
 have HW:=zh hW
 have HC:=zh hC
 have HM:=zh hm
 have HR:=zh hR
 clear hD hW hC hm hR
 unfold turnsV
 go_enter Tryz.func240,Tryz.ntmps240
 go_wp2_with fail
 obtain ⟨TB,hTB⟩:=zg (w.heap.size)
 have HT:Hid (∀ wr,Mv (fun b=>b=wb) (w.alloc (.cells turnsV 340)) wr→wr.heap[TB]?=some (.cells turnsV 340 (0,0))):=zh fun wr h=>by
  have hl:=lt_of_heap HW.out
  rw [hTB,h.block w.heap.size (by simp) (by omega)];exact heap_alloc_new _ _
 rw [←hTB]
 unfold turnsV at HT
 generalize hW1:w.alloc _=W1
 rw [hW1] at HT
 have HW1:=zh hW1
 have HTB:=zh hTB
 clear hW1 hTB
 go_loopw [10] (fun i wr=>∃ n:Nat,∃ C:Array Value,16≤n∧n≤64∧i=.int .i64 n∧wr.heap[wb]?=some (.cells C TW (0,0))∧C.size=64∧(∀ j,j<n→C[j]?=some (u32V (schW m j)))∧Mv (fun b=>b=wb) W1 wr) (fun i _=>64 - (intOf i).toNat)
 case atStart=>exact ⟨16,C,by omega,by omega,rfl,by rw [←HW1.out];exact (Below.heap_alloc _ _ _ (lt_of_heap HW.out)).trans HW.out,HC.out,fun j hj=>by rw [schW_lo m j hj];exact HM.out j hj,Mv.refl _ _⟩
 case round =>
  obtain ⟨n,C1,hn0,hn1,rfl,h1,h2,h3,h4⟩:=hrel
  have H1:=zh h1
  have H2:=zh h2
  have H3:=zh h3
  have H4:=zh h4
  by_cases hlt:n<64
  ·have ca:wr.cell? ⟨wb,n - 15,none⟩=some (u32V (schW m (n - 15))):=cell_of_heap h1 _ (h3 _ (by omega))
   have cb:wr.cell? ⟨wb,n - 2,none⟩=some (u32V (schW m (n - 2))):=cell_of_heap h1 _ (h3 _ (by omega))
   have cc:wr.cell? ⟨wb,n - 16,none⟩=some (u32V (schW m (n - 16))):=cell_of_heap h1 _ (h3 _ (by omega))
   have cd:wr.cell? ⟨wb,n - 7,none⟩=some (u32V (schW m (n - 7))):=cell_of_heap h1 _ (h3 _ (by omega))
   have hT:=HT.out wr h4
   have t6:=cell_of_heap hT 6 rfl
   have t7:=cell_of_heap hT 7 rfl
   have t8:=cell_of_heap hT 8 rfl
   have t9:=cell_of_heap hT 9 rfl
   have t10:=cell_of_heap hT 10 rfl
   have t11:=cell_of_heap hT 11 rfl
   unfold u32V at ca cb cc cd
   clear h1 h2 h3 h4 hT
   obtain ⟨xa,hxa⟩:=zg (schW m (n - 15))
   obtain ⟨xb,hxb⟩:=zg (schW m (n - 2))
   obtain ⟨xc,hxc⟩:=zg (schW m (n - 16))
   obtain ⟨xd,hxd⟩:=zg (schW m (n - 7))
   rw [←hxa] at ca
   rw [←hxb] at cb
   rw [←hxc] at cc
   rw [←hxd] at cd
   have HXA:=zh hxa
   have HXB:=zh hxb
   have HXC:=zh hxc
   have HXD:=zh hxd
   clear hxa hxb hxc hxd
   have la:=xa.toNat_lt
   have lb:=xb.toNat_lt
   have fa:=sml0_int xa
   have fb:=sml1_int xb
   go_wp2_with fail
   go_quiet (fail)
   go_wp2_with fail
   go_quiet (first|(go_at_call 282;exact quiet_more (turn_k _ _ (by decide))))
   go_wp2_with fail
   go_quiet (first|(go_at_call 282;exact quiet_more (turn_k _ _ (by decide))))
   go_wp2_with fail
   clear fa fb ca cb
   generalize hw2:((wr.drewN _).drewN _).drewN _=W2
   have hh:W2.heap=wr.heap:=by rw [←hw2];rfl
   have cc2:W2.cell? ⟨wb,n - 16,none⟩=some (.int .u32 xc.toNat):=by rw [←hw2];exact cc
   have cd2:W2.cell? ⟨wb,n - 7,none⟩=some (.int .u32 xd.toNat):=by rw [←hw2];exact cd
   have hmv:Mv (fun b=>b=wb) W1 W2:=by rw [←hw2];exact ⟨H4.out.os,H4.out.tape,H4.out.output,H4.out.size,H4.out.block⟩
   have hz:W2.heap[wb]?=some (.cells C1 TW (0,0)):=by rw [hh];exact H1.out
   have HMV:=zh hmv
   have HZ:=zh hz
   have cw:W2.cell? ⟨wb,n,none⟩=some (C1.getD n undef):=cell_of_heap hz _ (by rw [Array.getD_eq_getD_getElem?];simp [H2.out,hlt])
   have cf:W2.frozen? ⟨wb,n,none⟩=false:=free_of_heap hz n
   clear hh hmv hz hw2 cc cd t6 t7 t8 t9 t10 t11
   go_region
   go_wp2_with fail
   go_roundw
   case rel =>
    rw [u32_add4]
    have hv:xc+sml0 xa+xd+sml1 xb=schW m n:=by rw [schW_hi m n hn0,←HXA.out,←HXB.out,←HXC.out,←HXD.out]
    rw [hv]
    refine ⟨n+1,C1.setIfInBounds n (u32V (schW m n)),by omega,by omega,by go_num,heap_setCell_same HZ.out _,by simp [H2.out],fun j hj=>?_,(HMV.out.setCell (.inl rfl) _).drew⟩
    rw [Array.getElem?_setIfInBounds]
    by_cases hjn:n=j
    ·subst hjn;simp [H2.out,hlt]
    ·rw [if_neg hjn];exact H3.out j (by omega)
   case measure=>simp [intOf];omega
  ·have h64:n=64:=by omega
   subst h64
   have hdr:wr.heap[D]?=some (.cells (digC cnt s re) 292 (0,0)):=by
    have:=lt_of_heap HD.out
    rw [h4.block D (by rw [←HW1.out];simp;omega) hDW,←HW1.out,Below.heap_alloc _ _ _ this];exact HD.out
   have hcd:=st8_cells_at wr D s _ _ hdr
   have HCD:=zh hcd
   have HDR:=zh hdr
   have HT1:=zh (HT.out wr h4)
   clear h1 h2 h3 h4 hdr hcd
   go_wp2_with (first
    | (refine wpList_load_cellsAt rfl 286 _ rfl D 2 rfl s.cells _ HCD.out Tryz.underlying286 rfl (by kernel_rfl) ?_)
    | (refine wpList_store_row rfl 286 _ _ rfl wr.heap.size s.cells.toArray rfl rfl 286 zero8 (heap_alloc_new _ _) info286 rfl (st8_one s) ?_))
   obtain ⟨V,hV⟩:=zg (wr.heap.size)
   rw [←hV]
   have hv0:(W1.heap.size≤V):=by rw [hV];exact H4.out.size
   generalize hW3:(wr.alloc _).setRow V _=W3
   have h3v:W3.heap[V]?=some (.cells s.cells.toArray 286 (0,0)):=by rw [←hW3,hV];exact setRow_heap _ _ _ _ _ _ (heap_alloc_new _ _)
   have hmv:Mv (fun b=>b=wb) W1 W3:=by rw [←hW3];exact (H4.out.alloc _).setRow (.inr hv0) _
   have hwb:W3.heap[wb]?=some (.cells C1 TW (0,0)):=by
    have:=lt_of_heap H1.out
    rw [←hW3,setRow_other _ _ _ _ (by omega),Below.heap_alloc _ _ _ this];exact H1.out
   have H3V:=zh h3v
   have HMV:=zh hmv
   have HWB:=zh hwb
   have HT3:=zh (HT.out W3 hmv)
   have HV:=zh hV
   have v0:W3.cell? ⟨V,0,none⟩=some (.int .u32 s.a.toNat):=cell_of_heap h3v 0 rfl
   have v1:W3.cell? ⟨V,1,none⟩=some (.int .u32 s.b.toNat):=cell_of_heap h3v 1 rfl
   have v2:W3.cell? ⟨V,2,none⟩=some (.int .u32 s.c.toNat):=cell_of_heap h3v 2 rfl
   have v3:W3.cell? ⟨V,3,none⟩=some (.int .u32 s.d.toNat):=cell_of_heap h3v 3 rfl
   have v4:W3.cell? ⟨V,4,none⟩=some (.int .u32 s.e.toNat):=cell_of_heap h3v 4 rfl
   have v5:W3.cell? ⟨V,5,none⟩=some (.int .u32 s.f.toNat):=cell_of_heap h3v 5 rfl
   have v6:W3.cell? ⟨V,6,none⟩=some (.int .u32 s.g.toNat):=cell_of_heap h3v 6 rfl
   have v7:W3.cell? ⟨V,7,none⟩=some (.int .u32 s.h.toNat):=cell_of_heap h3v 7 rfl
   clear h3v hmv hwb hW3 hV
   go_quiet (fail)
   clear v0 v1 v2 v3 v4 v5 v6 v7
   go_wp2_with fail
   go_loopw [123,16,17,18,19,20,21,22,23] (fun i a b c d e f g z wr=>∃ j:Nat,∃ st:St8,∃ q:Nat,j≤64∧i=.int .i64 j∧st=rounds kc m s j∧a=u32V st.a∧b=u32V st.b∧c=u32V st.c∧d=u32V st.d∧e=u32V st.e∧f=u32V st.f∧g=u32V st.g∧z=u32V st.h∧wr=W3.drewN q) (fun i _ _ _ _ _ _ _ _ _=>64 - (intOf i).toNat)
   case atStart=>exact ⟨0,s,_,by omega,rfl,rfl,rfl,rfl,rfl,rfl,rfl,rfl,rfl,rfl,rfl⟩
   case round =>
    obtain ⟨j,st,q,hj,rfl,hst,rfl,rfl,rfl,rfl,rfl,rfl,rfl,rfl,hwr⟩:=hrel
    have HST:=zh hst
    subst hwr
    clear hst
    by_cases hj64:j<64
    ·have ck:W3.cell? ⟨rb,ro+j,none⟩=some (.int .u32 (kc j).toNat):=by
      have hc:=HR.out j hj64
      have hlt:=World.block_lt_of_cell? _ _ hc
      have hlt:rb<w.heap.size:=hlt
      have h1:=Mv.cell (p:=⟨rb,ro+j,none⟩) HMV.out (by rw [←HW1.out];simp;omega) hRW
      rw [h1,←HW1.out]
      exact (World.cell?_of_block (Below.heap_alloc _ _ _ hlt)).trans hc
     have cw:W3.cell? ⟨wb,j,none⟩=some (.int .u32 (schW m j).toNat):=cell_of_heap HWB.out j (H3.out j hj64)
     have q0:=cell_of_heap HT3.out 0 rfl
     have q1:=cell_of_heap HT3.out 1 rfl
     have q2:=cell_of_heap HT3.out 2 rfl
     have q3:=cell_of_heap HT3.out 3 rfl
     have q4:=cell_of_heap HT3.out 4 rfl
     have q5:=cell_of_heap HT3.out 5 rfl
     obtain ⟨T1,hT1⟩:=zg (t1 st (kc j) (schW m j))
     obtain ⟨T2,hT2⟩:=zg (t2 st)
     have HT1:=zh hT1
     have HT2:=zh hT2
     have f1:=t1_int st (kc j) (schW m j)
     have f2:=t2_int st
     rw [←hT1] at f1
     rw [←hT2] at f2
     clear hT1 hT2
     unfold u32V
     go_wp2_with fail
     go_quiet (first|(go_at_call 282;exact quiet_more (turn_k _ _ (by decide))))
     go_wp2_with fail
     go_quiet (first|(go_at_call 282;exact quiet_more (turn_k _ _ (by decide))))
     go_wp2_with fail
     go_roundw
     case rel =>
      refine ⟨j+1,rnd st (kc j) (schW m j),_,by omega,by go_num,by rw [HST.out];rfl,?_,rfl,rfl,rfl,?_,rfl,rfl,rfl,rfl⟩
      ·rw [u32_add2,HT1.out,HT2.out];rfl
      ·rw [u32_add2,HT1.out];rfl
     case measure=>simp [intOf];omega
    ·have h64:j=64:=by omega
     subst h64
     have hdr3:W3.heap[D]?=some (.cells (digC cnt s re) 292 (0,0)):=by
      have:=lt_of_heap HD.out
      rw [HMV.out.block D (by rw [←HW1.out];simp;omega) hDW,←HW1.out,Below.heap_alloc _ _ _ this];exact HD.out
     have HDR3:=zh hdr3
     have hDV:D≠V:=by
      have:=lt_of_heap HDR.out
      have:=HV.out
      omega
     clear hdr3
     unfold u32V
     have ea:=agg8_0 st.a.toNat st.b.toNat st.c.toNat st.d.toNat st.e.toNat st.f.toNat st.g.toNat st.h.toNat
     have eb:=agg8_1 st.a.toNat st.b.toNat st.c.toNat st.d.toNat st.e.toNat st.f.toNat st.g.toNat st.h.toNat
     have ec:=agg8_2 st.a.toNat st.b.toNat st.c.toNat st.d.toNat st.e.toNat st.f.toNat st.g.toNat st.h.toNat
     have ed:=agg8_3 st.a.toNat st.b.toNat st.c.toNat st.d.toNat st.e.toNat st.f.toNat st.g.toNat st.h.toNat
     have ee:=agg8_4 st.a.toNat st.b.toNat st.c.toNat st.d.toNat st.e.toNat st.f.toNat st.g.toNat st.h.toNat
     have ef:=agg8_5 st.a.toNat st.b.toNat st.c.toNat st.d.toNat st.e.toNat st.f.toNat st.g.toNat st.h.toNat
     have eg:=agg8_6 st.a.toNat st.b.toNat st.c.toNat st.d.toNat st.e.toNat st.f.toNat st.g.toNat st.h.toNat
     have eh:=agg8_7 st.a.toNat st.b.toNat st.c.toNat st.d.toNat st.e.toNat st.f.toNat st.g.toNat st.h.toNat
     go_wp2_with fail
     go_loopw [220] (fun i wr=>∃ n:Nat,n≤8∧i=.int .i64 n∧wr.heap[D]?=some (.cells (digC cnt (addI s st n) re) 292 (0,0))∧Mv (fun b=>b=D) W3 wr) (fun i _=>8 - (intOf i).toNat)
     case atStart=>exact ⟨0,by omega,rfl,HDR3.out,⟨rfl,rfl,rfl,Nat.le_refl _,fun _ _ _=>rfl⟩⟩
     case round =>
      obtain ⟨n,hn8,rfl,hd,hm⟩:=hrel
      have HDD:=zh hd
      have HMM:=zh hm
      have hv4:wr.heap[V]?=some (.cells s.cells.toArray 286 (0,0)):=(hm.block V (lt_of_heap H3V.out) (fun e=>hDV e.symm)).trans H3V.out
      have HV4:=zh hv4
      clear hd hm hv4
      by_cases hn:n<8
      ·rcases (by omega:n=0∨n=1∨n=2∨n=3∨n=4∨n=5∨n=6∨n=7) with rfl|rfl|rfl|rfl|rfl|rfl|rfl|rfl
       ·have c1:wr.cell? ⟨V,0,none⟩=some (.int .u32 s.a.toNat):=cell_of_heap HV4.out 0 rfl
        have c2:wr.cell? ⟨D,2,none⟩=some (.int .u32 s.a.toNat):=cell_of_heap HDD.out 2 rfl
        have c3:wr.frozen? ⟨D,2,none⟩=false:=free_of_heap HDD.out 2
        go_wp2_with fail
        go_region
        go_wp2_with fail
        go_roundw
        case rel=>exact ⟨1,by omega,rfl,(heap_setCell_same HDD.out _).trans (by rw [u32_add2];rfl),(HMM.out.setCell (.inl rfl) _).drew⟩
        case measure=>simp [intOf]
       ·have c1:wr.cell? ⟨V,1,none⟩=some (.int .u32 s.b.toNat):=cell_of_heap HV4.out 1 rfl
        have c2:wr.cell? ⟨D,3,none⟩=some (.int .u32 s.b.toNat):=cell_of_heap HDD.out 3 rfl
        have c3:wr.frozen? ⟨D,3,none⟩=false:=free_of_heap HDD.out 3
        go_wp2_with fail
        go_region
        go_wp2_with fail
        go_roundw
        case rel=>exact ⟨2,by omega,rfl,(heap_setCell_same HDD.out _).trans (by rw [u32_add2];rfl),(HMM.out.setCell (.inl rfl) _).drew⟩
        case measure=>simp [intOf]
       ·have c1:wr.cell? ⟨V,2,none⟩=some (.int .u32 s.c.toNat):=cell_of_heap HV4.out 2 rfl
        have c2:wr.cell? ⟨D,4,none⟩=some (.int .u32 s.c.toNat):=cell_of_heap HDD.out 4 rfl
        have c3:wr.frozen? ⟨D,4,none⟩=false:=free_of_heap HDD.out 4
        go_wp2_with fail
        go_region
        go_wp2_with fail
        go_roundw
        case rel=>exact ⟨3,by omega,rfl,(heap_setCell_same HDD.out _).trans (by rw [u32_add2];rfl),(HMM.out.setCell (.inl rfl) _).drew⟩
        case measure=>simp [intOf]
       ·have c1:wr.cell? ⟨V,3,none⟩=some (.int .u32 s.d.toNat):=cell_of_heap HV4.out 3 rfl
        have c2:wr.cell? ⟨D,5,none⟩=some (.int .u32 s.d.toNat):=cell_of_heap HDD.out 5 rfl
        have c3:wr.frozen? ⟨D,5,none⟩=false:=free_of_heap HDD.out 5
        go_wp2_with fail
        go_region
        go_wp2_with fail
        go_roundw
        case rel=>exact ⟨4,by omega,rfl,(heap_setCell_same HDD.out _).trans (by rw [u32_add2];rfl),(HMM.out.setCell (.inl rfl) _).drew⟩
        case measure=>simp [intOf]
       ·have c1:wr.cell? ⟨V,4,none⟩=some (.int .u32 s.e.toNat):=cell_of_heap HV4.out 4 rfl
        have c2:wr.cell? ⟨D,6,none⟩=some (.int .u32 s.e.toNat):=cell_of_heap HDD.out 6 rfl
        have c3:wr.frozen? ⟨D,6,none⟩=false:=free_of_heap HDD.out 6
        go_wp2_with fail
        go_region
        go_wp2_with fail
        go_roundw
        case rel=>exact ⟨5,by omega,rfl,(heap_setCell_same HDD.out _).trans (by rw [u32_add2];rfl),(HMM.out.setCell (.inl rfl) _).drew⟩
        case measure=>simp [intOf]
       ·have c1:wr.cell? ⟨V,5,none⟩=some (.int .u32 s.f.toNat):=cell_of_heap HV4.out 5 rfl
        have c2:wr.cell? ⟨D,7,none⟩=some (.int .u32 s.f.toNat):=cell_of_heap HDD.out 7 rfl
        have c3:wr.frozen? ⟨D,7,none⟩=false:=free_of_heap HDD.out 7
        go_wp2_with fail
        go_region
        go_wp2_with fail
        go_roundw
        case rel=>exact ⟨6,by omega,rfl,(heap_setCell_same HDD.out _).trans (by rw [u32_add2];rfl),(HMM.out.setCell (.inl rfl) _).drew⟩
        case measure=>simp [intOf]
       ·have c1:wr.cell? ⟨V,6,none⟩=some (.int .u32 s.g.toNat):=cell_of_heap HV4.out 6 rfl
        have c2:wr.cell? ⟨D,8,none⟩=some (.int .u32 s.g.toNat):=cell_of_heap HDD.out 8 rfl
        have c3:wr.frozen? ⟨D,8,none⟩=false:=free_of_heap HDD.out 8
        go_wp2_with fail
        go_region
        go_wp2_with fail
        go_roundw
        case rel=>exact ⟨7,by omega,rfl,(heap_setCell_same HDD.out _).trans (by rw [u32_add2];rfl),(HMM.out.setCell (.inl rfl) _).drew⟩
        case measure=>simp [intOf]
       ·have c1:wr.cell? ⟨V,7,none⟩=some (.int .u32 s.h.toNat):=cell_of_heap HV4.out 7 rfl
        have c2:wr.cell? ⟨D,9,none⟩=some (.int .u32 s.h.toNat):=cell_of_heap HDD.out 9 rfl
        have c3:wr.frozen? ⟨D,9,none⟩=false:=free_of_heap HDD.out 9
        go_wp2_with fail
        go_region
        go_wp2_with fail
        go_roundw
        case rel=>exact ⟨8,by omega,rfl,(heap_setCell_same HDD.out _).trans (by rw [u32_add2];rfl),(HMM.out.setCell (.inl rfl) _).drew⟩
        case measure=>simp [intOf]
      ·have h8:n=8:=by omega
       subst h8
       clear ea eb ec ed ee ef eg eh
       go_wp2_with fail
       go_end0
       refine ⟨rfl,HDD.out.trans (by rw [HST.out];rfl),?_⟩
       have hsz:=HMV.out.size
       have k1:Mv (fun b=>b=D∨b=wb) w W1:=by rw [←HW1.out];exact (Mv.refl _ _).alloc _
       exact k1.trans ((HMV.out.mono fun _ _ h=>.inr h).trans (HMM.out.mono fun _ _ h=>.inl h))
end Go.Proofs.YtdfdikpklddnhaaGreatDoor
