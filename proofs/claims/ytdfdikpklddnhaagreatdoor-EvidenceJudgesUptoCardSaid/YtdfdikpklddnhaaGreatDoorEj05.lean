/- Of the proof of EvidenceJudges, second form: for values of bulk at most 1048576. (Ej05) -/
import Derived.Test.YtdfdikpklddnhaaGreatDoorEj01
import Derived.Test.YtdfdikpklddnhaaGreatDoorEj04
import Derived.Test.YtdfdikpklddnhaaGreatDoorEj02
import Derived.Test.YtdfdikpklddnhaaGreatDoorProg
import Derived.LoopN
namespace Go.Proofs.YtdfdikpklddnhaaGreatDoor
open Go.RowKit
def startsV:Array Value:=#[.int .u64 0x6a09e667f3bcc908,.int .u64 0xbb67ae8584caa73b,.int .u64 0x3c6ef372fe94f82b,.int .u64 0xa54ff53a5f1d36f1,.int .u64 0x510e527fade682d1,.int .u64 0x9b05688c2b3e6c1f,.int .u64 0x1f83d9abfb41bd6b,.int .u64 0x5be0cd19137e2179]
def EnvT (w:World):Prop:=∀ (j:Nat) v,startsV[j]?=some v→w.cell? ⟨2,j,none⟩=some v
def chainC (s:St8):Array Value:=#[u32V s.a,u32V s.b,u32V s.c,u32V s.d,u32V s.e,u32V s.f,u32V s.g,u32V s.h,.int .u64 0,.int .u64 0,.int .u64 0,.int .u64 0,.int .u64 0,.int .u64 0,.int .u64 0,.int .u64 0]
theorem chain_h0:chainC h0=#[.int .u32 1779033703,.int .u32 3144134277,.int .u32 1013904242,.int .u32 2773480762,.int .u32 1359893119,.int .u32 2600822924,.int .u32 528734635,.int .u32 1541459225,.int .u64 0,.int .u64 0,.int .u64 0,.int .u64 0,.int .u64 0,.int .u64 0,.int .u64 0,.int .u64 0]:=by kernel_rfl
theorem EnvT.mv {F:Nat→Prop} {w w':World} (h:EnvT w) (hm:Mv F w w') (h2:¬ F 2):EnvT w':=fun j v hv =>
 (Mv.cell (p:=⟨2,j,none⟩) hm (World.block_lt_of_cell? _ _ (h j v hv)) h2).trans (h j v hv)
theorem block_256 (D:Nat) (s:St8) (cnt:Int) (re:Value) (w:World) (hD:w.heap[D]?=some (.cells (digC cnt s re) 292 (0,0))) :
  Calls Tryz.prog 177 #[.pointer (some ⟨D,0,none⟩)] w fun e w'=>e=.returned (.int .i64 64)∧w=w':=by
 have c0:w.cell? ⟨D,0,none⟩=some (.int .i64 256):=cell_of_heap hD 0 rfl
 clear hD
 go_enter Tryz.func177,Tryz.ntmps177
 go_wp2
 go_ret
 exact ⟨rfl,rfl⟩
set_option maxRecDepth 100000 in
set_option maxHeartbeats 1600000 in
theorem start_any (w:World) (he:EnvT w):Calls Tryz.prog 176 #[.int .i64 256] w fun e w'=>e=.returned (.agg (chainC h0))∧Mv (fun _=>False) w w':=by
 obtain ⟨X0,hX0⟩:=zg ((0x6a09e667f3bcc908:Int))
 obtain ⟨X1,hX1⟩:=zg ((0xbb67ae8584caa73b:Int))
 obtain ⟨X2,hX2⟩:=zg ((0x3c6ef372fe94f82b:Int))
 obtain ⟨X3,hX3⟩:=zg ((0xa54ff53a5f1d36f1:Int))
 obtain ⟨X4,hX4⟩:=zg ((0x510e527fade682d1:Int))
 obtain ⟨X5,hX5⟩:=zg ((0x9b05688c2b3e6c1f:Int))
 obtain ⟨X6,hX6⟩:=zg ((0x1f83d9abfb41bd6b:Int))
 obtain ⟨X7,hX7⟩:=zg ((0x5be0cd19137e2179:Int))
 have k0:w.cell? ⟨2,0,none⟩=some (.int .u64 X0):=by rw [hX0];exact he 0 _ rfl
 have k1:w.cell? ⟨2,1,none⟩=some (.int .u64 X1):=by rw [hX1];exact he 1 _ rfl
 have k2:w.cell? ⟨2,2,none⟩=some (.int .u64 X2):=by rw [hX2];exact he 2 _ rfl
 have k3:w.cell? ⟨2,3,none⟩=some (.int .u64 X3):=by rw [hX3];exact he 3 _ rfl
 have k4:w.cell? ⟨2,4,none⟩=some (.int .u64 X4):=by rw [hX4];exact he 4 _ rfl
 have k5:w.cell? ⟨2,5,none⟩=some (.int .u64 X5):=by rw [hX5];exact he 5 _ rfl
 have k6:w.cell? ⟨2,6,none⟩=some (.int .u64 X6):=by rw [hX6];exact he 6 _ rfl
 have k7:w.cell? ⟨2,7,none⟩=some (.int .u64 X7):=by rw [hX7];exact he 7 _ rfl
 have p0:0≤X0:=by omega
 have p1:0≤X1:=by omega
 have p2:0≤X2:=by omega
 have p3:0≤X3:=by omega
 have p4:0≤X4:=by omega
 have p5:0≤X5:=by omega
 have p6:0≤X6:=by omega
 have p7:0≤X7:=by omega
 have d0:X0 / 4294967296=0x6a09e667:=by omega
 have d1:X1 / 4294967296=0xbb67ae85:=by omega
 have d2:X2 / 4294967296=0x3c6ef372:=by omega
 have d3:X3 / 4294967296=0xa54ff53a:=by omega
 have d4:X4 / 4294967296=0x510e527f:=by omega
 have d5:X5 / 4294967296=0x9b05688c:=by omega
 have d6:X6 / 4294967296=0x1f83d9ab:=by omega
 have d7:X7 / 4294967296=0x5be0cd19:=by omega
 have hlt:=World.block_lt_of_cell? _ _ k0
 clear hX0 hX1 hX2 hX3 hX4 hX5 hX6 hX7
 have g0:∀ w,(Instr.index 287 (.agg #[.int .u64 X0,.int .u64 X1,.int .u64 X2,.int .u64 X3,.int .u64 X4,.int .u64 X5,.int .u64 X6,.int .u64 X7]) (.int .i64 0)).run Tryz.prog w=.ok (.int .u64 X0) w:=fun _=>by kernel_rfl
 have g1:∀ w,(Instr.index 287 (.agg #[.int .u64 X0,.int .u64 X1,.int .u64 X2,.int .u64 X3,.int .u64 X4,.int .u64 X5,.int .u64 X6,.int .u64 X7]) (.int .i64 1)).run Tryz.prog w=.ok (.int .u64 X1) w:=fun _=>by kernel_rfl
 have g2:∀ w,(Instr.index 287 (.agg #[.int .u64 X0,.int .u64 X1,.int .u64 X2,.int .u64 X3,.int .u64 X4,.int .u64 X5,.int .u64 X6,.int .u64 X7]) (.int .i64 2)).run Tryz.prog w=.ok (.int .u64 X2) w:=fun _=>by kernel_rfl
 have g3:∀ w,(Instr.index 287 (.agg #[.int .u64 X0,.int .u64 X1,.int .u64 X2,.int .u64 X3,.int .u64 X4,.int .u64 X5,.int .u64 X6,.int .u64 X7]) (.int .i64 3)).run Tryz.prog w=.ok (.int .u64 X3) w:=fun _=>by kernel_rfl
 have g4:∀ w,(Instr.index 287 (.agg #[.int .u64 X0,.int .u64 X1,.int .u64 X2,.int .u64 X3,.int .u64 X4,.int .u64 X5,.int .u64 X6,.int .u64 X7]) (.int .i64 4)).run Tryz.prog w=.ok (.int .u64 X4) w:=fun _=>by kernel_rfl
 have g5:∀ w,(Instr.index 287 (.agg #[.int .u64 X0,.int .u64 X1,.int .u64 X2,.int .u64 X3,.int .u64 X4,.int .u64 X5,.int .u64 X6,.int .u64 X7]) (.int .i64 5)).run Tryz.prog w=.ok (.int .u64 X5) w:=fun _=>by kernel_rfl
 have g6:∀ w,(Instr.index 287 (.agg #[.int .u64 X0,.int .u64 X1,.int .u64 X2,.int .u64 X3,.int .u64 X4,.int .u64 X5,.int .u64 X6,.int .u64 X7]) (.int .i64 6)).run Tryz.prog w=.ok (.int .u64 X6) w:=fun _=>by kernel_rfl
 have g7:∀ w,(Instr.index 287 (.agg #[.int .u64 X0,.int .u64 X1,.int .u64 X2,.int .u64 X3,.int .u64 X4,.int .u64 X5,.int .u64 X6,.int .u64 X7]) (.int .i64 7)).run Tryz.prog w=.ok (.int .u64 X7) w:=fun _=>by kernel_rfl
 go_enter Tryz.func176,Tryz.ntmps176
 go_wp2_with fail
 refine wp_loop_rounds 9 ?_
 iterate 8 (rw [rounds_succ];go_wp2_with fail)
 clear g0 g1 g2 g3 g4 g5 g6 g7 k0 k1 k2 k3 k4 k5 k6 k7
 rw [rounds_succ]
 go_wp2_with fail
 refine bodyPost_ret (v:=.agg (chainC h0)) ?_ rfl ⟨rfl,((Mv.refl _ _).alloc _).alloc _⟩
 rw [chain_h0]
 exact results_cell_row (fn:=Tryz.f176) rfl _ _ w.heap.size 289 _ (0,0) _ rfl ((Below.heap_alloc _ _ _ (by simp)).trans (heap_alloc_new _ _)) Tryz.underlying289 rfl (by kernel_rfl)
set_option maxRecDepth 100000 in
set_option maxHeartbeats 1600000 in
theorem new_256 (w:World) (he:EnvT w):Calls Tryz.prog 124 #[.int .i64 256] w fun e w'=>∃ D,e=.returned (.tuple #[.pointer (some ⟨D,0,none⟩),.int .i64 0])∧w.heap.size≤D ∧
  w'.heap[D]?=some (.cells (digC 0 h0 (.slice none 0 0)) 292 (0,0))∧Mv (fun _=>False) w w':=by
 have HE:=zh he
 clear he
 go_enter Tryz.func124,Tryz.ntmps124
 go_wp2_with (first|(go_at_call 176;refine (start_any _ HE.out).mono ?_;rintro e w1 ⟨rfl,hm⟩;have HM:=zh hm;clear hm;unfold chainC u32V))
 go_ret2
 exact ⟨w1.heap.size,rfl,HM.out.size,heap_alloc_new _ _,HM.out.alloc _⟩
def byteV (b:UInt8):Value:=.int .u8 b.toNat
theorem Tryz.info5:(Tryz.prog.info? 5).map (fun i=>(i.zero,i.size,i.bytes))=some (some (.int .u8 0),1,1):=by kernel_rfl
end Go.Proofs.YtdfdikpklddnhaaGreatDoor
