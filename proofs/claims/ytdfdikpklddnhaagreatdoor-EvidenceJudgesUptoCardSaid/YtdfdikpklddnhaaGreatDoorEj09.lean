/- Of the proof of EvidenceJudges, second form: for values of bulk at most 1048576. (Ej09) -/
import Derived.Test.YtdfdikpklddnhaaGreatDoorEj01
import Derived.Test.YtdfdikpklddnhaaGreatDoorEj08
import Derived.Lib.SliceRun
import Derived.Laws.IdiomCopy
namespace Go.Proofs.YtdfdikpklddnhaaGreatDoor
open Go.RowKit
def weakL (m:Nat) (h:Bs):Bs:=h.take m++List.replicate (32 - m) 0
def effK (k:Int):Nat:=if 1≤k∧k≤31 then k.toNat else 32
theorem effK_range (k:Int):1≤effK k∧effK k≤32:=by unfold effK;split <;> omega
theorem weakL_length (m:Nat) (h:Bs) (hm:m≤32) (hh:h.length=32):(weakL m h).length=32:=by
 unfold weakL;rw [List.length_append,List.length_take,List.length_replicate];omega
theorem results_hash3 (fn:Func) (hr:fn.results=#[.cell 3 34]) (tmps:Array Value) (w:World) (b:Nat) (cs:Array Value) (hp:tmps.getD 3 undef=.pointer (some ⟨b,0,none⟩)) (hc:w.heap[b]?=some (.cells cs 34 (0,0))) (hs:cs.size=32) :
  (results fn tmps).run Tryz.prog w=.ok (.agg cs) w :=
 results_cell_row (fn:=fn) hr tmps w b 34 cs (0,0) _ hp hc Tryz.underlying34 rfl (by rw [hs];exact info34)
theorem zero5 (w:World):(zeroValue 5).run Tryz.prog w=.ok (.int .u8 0) w:=by kernel_rfl
theorem Mv.setCells {F:Nat→Prop} {a w:World} (h:Mv F a w) {g:Nat} (hp:F g∨a.heap.size≤g) (cs:List Value):∀ o,Mv F a (w.setCells g o cs):=by
 induction cs generalizing w with
 | nil=>exact fun _=>h
 | cons v cs ih=>exact fun o=>ih (h.setCell hp v) (o+1)
theorem clear_cells (w:World) (H:Nat) (l:Bs) (m:Nat) (hl:l.length=32) (hm:m≤32) (hH:w.heap[H]?=some (.cells (l.map byteV).toArray 34 (0,0))) (j:Nat) (u:Value) (hu:((weakL m l).map byteV)[j]?=some u) :
  (w.setCells H m (List.replicate (32 - m) (.int .u8 0))).cell? ⟨H,0+j,none⟩=some u:=by
 have hj:j<32:=by
  have:=(List.getElem?_eq_some_iff.1 hu).1
  rw [List.length_map,weakL_length m l hm hl] at this;exact this
 have hcell:∀ i,i<32→w.cell? ⟨H,i,none⟩=(l.map byteV)[i]?:=fun i hi=>by rw [cell_of_row _ _ _ _ _ _ hH];simp
 rw [Nat.zero_add]
 unfold weakL at hu
 rw [List.map_append,List.map_take] at hu
 by_cases hjm:j<m
 ·rw [World.cell?_setCells_out H _ _ _ _ (fun _ _=>.inl hjm),hcell j hj]
  rw [List.getElem?_append_left (by simp [hl];omega),List.getElem?_take,if_pos hjm] at hu
  exact hu
 ·have hin:=World.cell?_setCells_in H (List.replicate (32 - m) (.int .u8 0)) m w (fun i hi=>by
   rw [hcell _ (by simp at hi;omega)];simp [hl];simp at hi;omega) (j - m) (by simp;omega)
  rw [show m+(j - m)=j by omega] at hin
  rw [hin]
  rw [List.getElem?_append_right (by simp [hl];omega)] at hu
  simp only [List.length_take,List.length_map,hl,List.map_replicate,List.getElem?_replicate,Nat.min_eq_left hm] at hu
  rw [if_pos (by omega)] at hu
  rw [←hu]
  simp [byteV]
theorem slice34 (H m:Nat) (hm:m<32) (W:World):(Instr.sliceAt 34 (.pointer (some ⟨H,0,none⟩)) (some (.int .i64 (m:Int))) none none).run Tryz.prog W=.ok (.slice (some ⟨H,m,none⟩) (32 - m) (32 - m)) W:=by
 have hal:Tryz.prog.arrayLen 34=32:=by kernel_rfl
 have hsz:∀ W,(sizeOf (Tryz.prog.elem 34)).run Tryz.prog W=.ok 1 W:=fun _=>by kernel_rfl
 have hu:Tryz.prog.underlying 34=some (.array (Tryz.prog.arrayLen 34) (Tryz.prog.elem 34)):=by kernel_rfl
 rw [run_sliceAt_array_l W 34 ⟨H,0,none⟩ hu .i64 m (by omega) (by rw [hal];omega),hsz,hal]
 have e:¬ (32=m):=by omega
 simp [slicedAt,Result.andThen,e,addr_add]
set_option maxRecDepth 100000 in
set_option maxHeartbeats 1600000 in
theorem of_any (v:Value) (l:Bs) (K m:Nat) (w:World) (hv:SlIn w v l) (hl:l.length≤1099511627776) (he:EnvH w) (hK:w.cell? ⟨K,0,none⟩=some (.int .i64 m)) (hm:1≤m∧m≤32) :
  Calls Tryz.prog 86 #[v,.pointer (some ⟨K,0,none⟩)] w fun e w'=>e=.returned (hashV (weakL m (sha l)))∧Mv (fun _=>False) w w':=by
 have HV:=zh hv
 have HE:=zh he
 have HL:=zh hl
 have HK:=zh hK
 obtain ⟨hm1,hm2⟩:=hm
 clear hv he hl hK
 go_enter Tryz.func86,Tryz.ntmps86
 go_wp2_with fail
 generalize hZ:(#[_,_,_,_,_,_,_,_,_,_,_,_,_,_,_,_,_,_,_,_,_,_,_,_,_,_,_,_,_,_,_,_]:Array Value)=Z
 have hZs:Z.size=32:=by rw [←hZ];rfl
 obtain ⟨R,hR⟩:=zg (w.heap.size)
 rw [←hR]
 generalize hW1:w.alloc _=W1
 have h1:W1.heap[R]?=some (.cells Z 34 (0,0)):=by rw [←hW1,hR];exact heap_alloc_new _ _
 have hma:Mv (fun _=>False) w W1:=by rw [←hW1];exact (Mv.refl _ _).alloc _
 have H1:=zh h1
 have HM1:=zh hma
 have HR:=zh hR
 have HZS:=zh hZs
 have HV1:=zh (HV.out.mv hma (fun _ _ h=>h))
 have HE1:=zh (HE.out.mv hma (fun _ h=>h.elim))
 clear hZ hZs hW1 h1 hma hR
 refine (sum256_any v l W1 HV1.out HL.out HE1.out).mono ?_
 rintro e w2 ⟨rfl,hm2'⟩
 have HM2:=zh hm2'
 obtain ⟨s,hs⟩:=zg (sha l)
 have HSH:=zh hs
 have hsl:s.length=32:=by rw [hs];rfl
 rw [←hs]
 unfold hashV
 have HSL:=zh hsl
 obtain ⟨cs,hcs⟩:=zg ((s.map byteV).toArray)
 rw [←hcs]
 have hcsz:cs.size=32:=by rw [hcs];simp [hsl]
 have HCS:=zh hcs
 have HCSZ:=zh hcsz
 have HONE:Hid (cs.all (·.oneCell')=true):=zh (by rw [hcs];exact hash_one s)
 have HI34:Hid ((Tryz.prog.info? 34).map (·.size)=some cs.size):=zh (by rw [hcsz];exact info34)
 have kc:Hid (w2.cell? ⟨K,0,none⟩=some (.int .i64 m)):=zh (by
  have h0:=World.block_lt_of_cell? _ _ HK.out
  have h1:=HM1.out.cell (p:=⟨K,0,none⟩) h0 id
  rw [hm2'.cell (p:=⟨K,0,none⟩) (Nat.lt_of_lt_of_le h0 HM1.out.size) id,h1];exact HK.out)
 have h32:Hid (R<w2.heap.size∧w2.heap[R]?=some (.cells Z 34 (0,0))):=zh ⟨Nat.lt_of_lt_of_le (lt_of_heap H1.out) hm2'.size,(hm2'.block R (lt_of_heap H1.out) id).trans H1.out⟩
 clear hm2' hs hsl hcs hcsz
 obtain ⟨H,hH⟩:=zg (w2.heap.size)
 have HH:=zh hH
 have HF3:Hid (∀ W3,∀ {o},(w2.alloc (.cells o 34)).setRow H cs=W3→W3.heap[H]?=some (.cells cs 34 (0,0))∧W3.cell? ⟨K,0,none⟩=some (.int .i64 m)∧W3.heap[R]?=some (.cells Z 34 (0,0))∧Mv (fun _=>False) w W3):=zh (by
  rintro W3 o rfl
  have hk:=World.block_lt_of_cell? _ _ kc.out
  have hk:K<w2.heap.size:=hk
  obtain ⟨r1,r2⟩:=h32.out
  have m3:Mv (fun _=>False) w w2:=HM1.out.trans HM2.out
  rw [hH]
  refine ⟨setRow_heap _ _ _ _ _ _ (heap_alloc_new _ _),?_,?_,?_⟩
  ·exact (World.cell?_of_block (w:=w2) ((setRow_other _ _ _ _ (by omega)).trans (Below.heap_alloc _ _ _ hk))).trans kc.out
  ·exact ((setRow_other _ _ _ _ (by omega)).trans (Below.heap_alloc _ _ _ r1)).trans r2
  ·exact (m3.alloc _).setRow (.inr m3.size) _)
 have hRH:R≠H:=by have:=h32.out.1;omega
 clear hH
 by_cases h32m:m=32
 ·subst h32m
  have hcl:∀ ty a c W,(Builtin.clear_ #[26] ty #[.slice a 0 c]).run Tryz.prog W=.ok (.tuple #[]) W:=fun ty a c W=>by
   cases a <;> simp [Builtin.clear_,run_underlying Tryz.underlying26]
  have HZC:Hid (Z.size=cs.size):=zh (by rw [HZS.out,HCSZ.out])
  go_wp2_with (first
   | (refine wpList_store_row rfl 34 _ _ rfl w2.heap.size cs rfl rfl 34 _ (heap_alloc_new _ _) HI34.out (by rw [HCSZ.out];rfl) HONE.out ?_;rw [←HH.out];generalize hW3:World.setRow _ H cs=W3;have F3:=zh (HF3.out W3 hW3);clear hW3;have kc3:=F3.out.2.1)
   | (refine wpList_load_row rfl 34 _ rfl H rfl 34 cs (0,0) _ F3.out.1 Tryz.underlying34 rfl HI34.out ?_)
   | (refine wpList_store_row rfl 34 _ _ rfl R cs rfl rfl 34 Z F3.out.2.2.1 HI34.out HZC.out HONE.out ?_))
  refine bodyPost_ret (results_hash3 Tryz.f86 rfl _ _ R cs rfl (setRow_heap _ _ _ _ _ _ F3.out.2.2.1) HCSZ.out) rfl ?_
  have e:weakL 32 s=s:=by unfold weakL;rw [List.take_of_length_le (by rw [HSL.out];exact Nat.le_refl _)];simp
  exact ⟨by rw [←HSH.out,e,HCS.out];rfl,F3.out.2.2.2.setRow (.inr (by have:=HR.out;omega)) _⟩
 ·have hm32:m<32:=by omega
  have HZC:Hid (Z.size=((weakL m s).map byteV).toArray.size):=zh (by rw [HZS.out];simp [weakL_length m s hm2 HSL.out])
  obtain ⟨c2,hc2⟩:=zg ((weakL m s).map byteV)
  have HC2:=zh hc2
  have hc2l:c2.length=32:=by rw [hc2,List.length_map,weakL_length m s hm2 HSL.out]
  have HC2L:=zh hc2l
  have HONE2:Hid (c2.toArray.all (·.oneCell')=true):=zh (by rw [hc2];exact hash_one _)
  have HI2:Hid ((Tryz.prog.info? 34).map (·.size)=some c2.toArray.size):=zh (by rw [List.size_toArray,hc2l];exact info34)
  have HI2L:Hid ((Tryz.prog.info? 34).map (·.size)=some c2.length):=zh (by rw [hc2l];exact info34)
  rw [←hc2] at HZC
  have HCL:Hid (∀ W3:World,W3.heap[H]?=some (.cells cs 34 (0,0))→∀ ty,(Builtin.clear_ #[26] ty #[.slice (some ⟨H,m,none⟩) (32 - m) (32 - m)]).run Tryz.prog W3=.ok (.tuple #[]) (W3.setCells H m (List.replicate (32 - m) (.int .u8 0)))):=zh fun W3 h ty =>
   Lib.run_clear_slice W3 26 5 ty (.int .u8 0) Tryz.underlying26 zero5 rfl rfl H m (32 - m) (32 - m) (by omega)
    (fun j hj=>by rw [cell_of_row _ _ _ _ _ _ h,Array.getElem?_eq_getElem (by rw [HCSZ.out];omega)];rfl) (fun j _=>free_of_heap h _)
  have HLD:Hid (∀ W3:World,W3.heap[H]?=some (.cells cs 34 (0,0))→∀ (j:Nat) u,c2[j]?=some u→(W3.setCells H m (List.replicate (32 - m) (.int .u8 0))).cell? ⟨H,0+j,none⟩=some u):=zh fun W3 h j u hu =>
   clear_cells W3 H s m HSL.out hm2 (by rw [←HCS.out];exact h) j u (by rw [←HC2.out];exact hu)
  have HRW:Hid (∀ W3:World,W3.heap[R]?=some (.cells Z 34 (0,0))→(W3.setCells H m (List.replicate (32 - m) (.int .u8 0))).heap[R]?=some (.cells Z 34 (0,0))):=zh fun W3 h =>
   ((Mv.setCells (F:=fun b=>b=H) (Mv.refl _ W3) (.inl rfl) _ _).block R (lt_of_heap h) hRH).trans h
  clear hc2 hc2l
  have hsl1:∀ W,(Instr.sliceAt 34 (.pointer (some ⟨H,0,none⟩)) (some (.int .i64 (m:Int))) none none).run Tryz.prog W=.ok (.slice (some ⟨H,m,none⟩) (32 - m) (32 - m)) W:=fun W=>slice34 H m hm32 W
  go_wp2_with (first
   | (refine wpList_store_row rfl 34 _ _ rfl w2.heap.size cs rfl rfl 34 _ (heap_alloc_new _ _) HI34.out (by rw [HCSZ.out];rfl) HONE.out ?_;rw [←HH.out];generalize hW3:World.setRow _ H cs=W3;have F3:=zh (HF3.out W3 hW3);clear hW3;have kc3:=F3.out.2.1;have hcl:=HCL.out W3 F3.out.1)
   | (refine wpList_load_cellsAt rfl 34 _ rfl H 0 rfl c2 _ (HLD.out _ F3.out.1) Tryz.underlying34 rfl HI2L.out ?_)
   | (refine wpList_store_row rfl 34 _ _ rfl R c2.toArray rfl rfl 34 Z (HRW.out _ F3.out.2.2.1) HI2.out HZC.out HONE2.out ?_))
  refine bodyPost_ret (results_hash3 Tryz.f86 rfl _ _ R c2.toArray rfl (setRow_heap _ _ _ _ _ _ (HRW.out _ F3.out.2.2.1)) (by simp [HC2L.out])) rfl ?_
  have hRR:=HR.out
  have hHH:=HH.out
  have hw2:=Nat.le_trans HM1.out.size HM2.out.size
  exact ⟨by rw [←HSH.out,HC2.out];rfl,(F3.out.2.2.2.setCells (.inr (by omega)) _ _).setRow (.inr (by omega)) _⟩
end Go.Proofs.YtdfdikpklddnhaaGreatDoor
