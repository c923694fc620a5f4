/- Of the proof of EvidenceJudges, second form: for values of bulk at most 1048576. (Ej02) -/
import Derived.Test.YtdfdikpklddnhaaGreatDoorEj01
import Derived.Test.YtdfdikpklddnhaaGreatDoorProg
import Derived.WalkKit
import Derived.WalkLawsBesides
import Derived.WalkSpells
import Derived.Lib.Hide
import Derived.Deep.QuietTactic
import Derived.BigQuiet
import Derived.Laws.CopyOwn
import Derived.Laws.Tables
import Derived.Laws.Rows
namespace Go.Proofs.YtdfdikpklddnhaaGreatDoor
open Go.RowKit
structure Mv (F:Nat→Prop) (w w':World):Prop where
 os:w'.os=w.os
 tape:w'.tape=w.tape
 output:w'.output=w.output
 size:w.heap.size≤w'.heap.size
 block:∀ k,k<w.heap.size→¬ F k→w'.heap[k]?=w.heap[k]?
theorem Mv.refl (F:Nat→Prop) (w:World):Mv F w w:=⟨rfl,rfl,rfl,Nat.le_refl _,fun _ _ _=>rfl⟩
theorem Mv.trans {F:Nat→Prop} {a b c:World} (h:Mv F a b) (k:Mv F b c):Mv F a c :=
 ⟨k.os.trans h.os,k.tape.trans h.tape,k.output.trans h.output,Nat.le_trans h.size k.size,
  fun i hi hf=>(k.block i (Nat.lt_of_lt_of_le hi h.size) hf).trans (h.block i hi hf)⟩
theorem Mv.trans' {F G:Nat→Prop} {a b c:World} (h:Mv F a b) (k:Mv G b c) (hG:∀ i,i<a.heap.size→G i→F i):Mv F a c :=
 ⟨k.os.trans h.os,k.tape.trans h.tape,k.output.trans h.output,Nat.le_trans h.size k.size,
  fun i hi hf=>(k.block i (Nat.lt_of_lt_of_le hi h.size) (fun g=>hf (hG i hi g))).trans (h.block i hi hf)⟩
theorem Mv.mono {F G:Nat→Prop} {a b:World} (h:Mv F a b) (hG:∀ i,i<a.heap.size→F i→G i):Mv G a b :=
 ⟨h.os,h.tape,h.output,h.size,fun i hi hg=>h.block i hi (fun f=>hg (hG i hi f))⟩
theorem Mv.drew {F:Nat→Prop} {a w:World} (h:Mv F a w):Mv F a w.drew:=⟨h.os,h.tape,h.output,h.size,h.block⟩
theorem Mv.alloc {F:Nat→Prop} {a w:World} (h:Mv F a w) (o:Obj):Mv F a (w.alloc o) :=
 ⟨h.os,h.tape,h.output,Nat.le_trans h.size (by simp),fun k hk hf=>(Below.heap_alloc w o k (Nat.lt_of_lt_of_le hk h.size)).trans (h.block k hk hf)⟩
theorem Mv.setCell {F:Nat→Prop} {a w:World} (h:Mv F a w) {p:Addr} (hp:F p.block∨a.heap.size≤p.block) (u:Value):Mv F a (w.setCell p u) :=
 ⟨h.os,h.tape,h.output,by simpa [World.setCell] using h.size,fun k hk hf =>
  (Below.heap_setCell w p u k (fun e=>by subst e;rcases hp with hp|hp;exact hf hp;omega)).trans (h.block k hk hf)⟩
theorem Mv.of_below {w w':World} (h:Below w.heap.size w w'):Mv (fun _=>False) w w':=⟨h.os,h.tape,h.output,h.size,fun k hk _=>h.block k hk⟩
theorem Mv.below {w w':World} (h:Mv (fun _=>False) w w'):Below w.heap.size w w':=⟨h.os,h.tape,h.output,h.size,fun k hk=>h.block k hk id⟩
theorem Mv.grown {F:Nat→Prop} {a w w':World} {row:Option Nat} (h:Mv F a w) (hg:w.grownBy w' row) (hr:∀ k,row=some k→F k∨a.heap.size≤k):Mv F a w' :=
 ⟨hg.os.trans h.os,hg.tape.trans h.tape,hg.output.trans h.output,Nat.le_trans h.size hg.size,fun k hk hf =>
  (hg.block k (Nat.lt_of_lt_of_le hk h.size) (fun e=>by rcases hr k e.symm with hp|hp;exact hf hp;omega)).trans (h.block k hk hf)⟩
theorem Mv.cell {F:Nat→Prop} {w w':World} (h:Mv F w w') {p:Addr} (hp:p.block<w.heap.size) (hf:¬ F p.block):w'.cell? p=w.cell? p :=
 World.cell?_of_block (w:=w) (h.block p.block hp hf)
theorem lt_of_heap {w:World} {b:Nat} {o:Obj} (h:w.heap[b]?=some o):b<w.heap.size:=(Array.getElem?_eq_some_iff.1 h).1
theorem cell_of_heap {w:World} {b:Nat} {C:Array Value} {E:TypeId} (h:w.heap[b]?=some (.cells C E (0,0))) (j:Nat) {v:Value} (hv:C[j]?=some v):w.cell? ⟨b,j,none⟩=some v:=by
 rw [cell_of_row w b j C E (0,0) h];exact hv
theorem free_of_heap {w:World} {b:Nat} {C:Array Value} {E:TypeId} (h:w.heap[b]?=some (.cells C E (0,0))) (j:Nat):w.frozen? ⟨b,j,none⟩=false:=by
 simp [World.frozen?,h]
theorem heap_setCell_same {w:World} {b j:Nat} {C:Array Value} {E:TypeId} (h:w.heap[b]?=some (.cells C E (0,0))) (v:Value):(w.setCell ⟨b,j,none⟩ v).heap[b]?=some (.cells (C.setIfInBounds j v) E (0,0)):=by
 simp [World.setCell,Array.getElem?_modify,h]
theorem heap_setCell_other {w:World} {b j k:Nat} (h:k≠b) (v:Value):(w.setCell ⟨b,j,none⟩ v).heap[k]?=w.heap[k]?:=Below.heap_setCell w ⟨b,j,none⟩ v k h
theorem zbl {w w':World} {b:Nat} {o:Obj} (hm:Mv (fun _=>False) w w') (h:Hid (w.heap[b]?=some o)):Hid (w'.heap[b]?=some o):=zh ((hm.block _ (lt_of_heap h.out) id).trans h.out)
theorem rot_int (x:UInt32) (n a b:Nat) (h0:0<n) (h1:n<32) (ha:a=2 ^ n) (hb:b=2 ^ (32 - n)) :
  Go.bits .or .u32 ((x.toNat:Int) / (a:Int)) ((x.toNat:Int) * (b:Int) % 4294967296)=((rotr x n).toNat:Int):=by
 have hx:=x.toNat_lt
 have e1:((x.toNat:Int) / (a:Int))=((x.toNat / a:Nat):Int):=by rw [Int.natCast_ediv]
 have e2:((x.toNat:Int) * (b:Int) % 4294967296)=((x.toNat * b % 4294967296:Nat):Int):=by rw [Int.natCast_emod,Int.natCast_mul];rfl
 rw [e1,e2,u32_or_nat _ _ (Nat.lt_of_le_of_lt (Nat.div_le_self _ _) hx) (Nat.mod_lt _ (by decide))]
 congr 1
 have e3:(UInt32.ofNat n).toNat=n:=by rw [UInt32.toNat_ofNat'];exact Nat.mod_eq_of_lt (by omega)
 have e4:(UInt32.ofNat (32 - n)).toNat=32 - n:=by rw [UInt32.toNat_ofNat'];exact Nat.mod_eq_of_lt (by omega)
 unfold rotr
 rw [UInt32.toNat_or,UInt32.toNat_shiftRight,UInt32.toNat_shiftLeft,e3,e4,Nat.mod_eq_of_lt h1,Nat.mod_eq_of_lt (by omega:32 - n<32),Nat.shiftRight_eq_div_pow,Nat.shiftLeft_eq,ha,hb]
set_option maxRecDepth 100000 in
set_option maxHeartbeats 1600000 in
theorem turn_any (x:UInt32) (n:Nat) (hn:n=2∨n=13∨n=22∨n=6∨n=11∨n=25∨n=7∨n=18∨n=17∨n=19) (w:World) :
  Calls Tryz.prog 282 #[.int .u32 x.toNat,.int .i64 n,.int .i64 32] w fun e w'=>e=.returned (.int .u32 (rotr x n).toNat)∧∃ m,w'=w.drewN m:=by
 have hx:=x.toNat_lt
 rcases hn with rfl|rfl|rfl|rfl|rfl|rfl|rfl|rfl|rfl|rfl
 all_goals go_enter Tryz.func282,Tryz.ntmps282
 all_goals go_wp2_with fail
 all_goals go_quiet (fail)
 all_goals go_wp2
 all_goals go_ret
 ·exact ⟨by rw [←rot_int x 2 4 1073741824 (by decide) (by decide) (by decide) (by decide)];rfl,_,rfl⟩
 ·exact ⟨by rw [←rot_int x 13 8192 524288 (by decide) (by decide) (by decide) (by decide)];rfl,_,rfl⟩
 ·exact ⟨by rw [←rot_int x 22 4194304 1024 (by decide) (by decide) (by decide) (by decide)];rfl,_,rfl⟩
 ·exact ⟨by rw [←rot_int x 6 64 67108864 (by decide) (by decide) (by decide) (by decide)];rfl,_,rfl⟩
 ·exact ⟨by rw [←rot_int x 11 2048 2097152 (by decide) (by decide) (by decide) (by decide)];rfl,_,rfl⟩
 ·exact ⟨by rw [←rot_int x 25 33554432 128 (by decide) (by decide) (by decide) (by decide)];rfl,_,rfl⟩
 ·exact ⟨by rw [←rot_int x 7 128 33554432 (by decide) (by decide) (by decide) (by decide)];rfl,_,rfl⟩
 ·exact ⟨by rw [←rot_int x 18 262144 16384 (by decide) (by decide) (by decide) (by decide)];rfl,_,rfl⟩
 ·exact ⟨by rw [←rot_int x 17 131072 32768 (by decide) (by decide) (by decide) (by decide)];rfl,_,rfl⟩
 ·exact ⟨by rw [←rot_int x 19 524288 8192 (by decide) (by decide) (by decide) (by decide)];rfl,_,rfl⟩
theorem quiet_more {P:Program} {f:FuncId} {args:Array Value} {w:World} {a n:Nat} {v:Value}
  (h:∀ W,Calls P f args W fun e w'=>e=.returned v∧∃ m,w'=W.drewN m):Calls P f args (w.drewN (a+n)) fun e w''=>e=.returned v∧∃ m,w''=w.drewN (a+m):=by
 refine (h _).mono ?_
 rintro e w' ⟨he,m,rfl⟩
 exact ⟨he,n+m,by rw [World.drewN_drewN,Nat.add_assoc]⟩
theorem turn_k (x:UInt32) (k:Int) (hk:k=2∨k=13∨k=22∨k=6∨k=11∨k=25∨k=7∨k=18∨k=17∨k=19) (w:World) :
  Calls Tryz.prog 282 #[.int .u32 x.toNat,.int .i64 k,.int .i64 32] w fun e w'=>e=.returned (.int .u32 (rotr x k.toNat).toNat)∧∃ m,w'=w.drewN m:=by
 have h:=turn_any x k.toNat (by omega) w
 rw [show ((k.toNat:Nat):Int)=k by omega] at h
 exact h
theorem run_loadVar_cellsAt {P:Program} (w:World) (g o0:Nat) (ty:TypeId) (cs:List Value) (d:TypeDesc) (hc:∀ (j:Nat) v,cs[j]?=some v→w.cell? ⟨g,o0+j,none⟩=some v)
  (hu:P.underlying ty=some d) (hd:(match d with|.struct _|.array _ _=>true|_=>false)=true) (hi:(P.info? ty).map (·.size)=some cs.length) :
  (loadVar ty ⟨g,o0,none⟩).run P w=.ok (.agg cs.toArray) w:=by
 have hl:(loadCells ⟨g,o0,none⟩ cs.length).run P w=.ok cs.toArray w :=
  run_loadCells_list (P:=P) w ⟨g,o0,none⟩ cs (fun j v hv=>by
   have hadd:(⟨g,o0,none⟩:Addr).add j=⟨g,o0+j,none⟩:=by unfold Addr.add;split <;> simp_all
   rw [hadd]
   exact hc j v hv)
 cases hq:P.info? ty with
 | none=>simp [hq] at hi
 | some i =>
  have hs:i.size=cs.length:=by simpa [hq] using hi
  have hagg:(isAgg ty).run P w=.ok true w:=by
   unfold isAgg
   rw [Sem.run_bind,run_underlying hu w]
   cases d <;> simp_all
  simp [loadVar,Sem.run_bind,hagg,sizeOf,typeInfo,hq,hs,hl]
theorem wpList_load_cellsAt {P:Program} {ops:Array Oper} {rest:List Oper} {o:Oper} {a:Act} {w:World} {Q:Exit→Act→World→Prop} (hgd:o.guard=none) (ty:TypeId) (x:Operand) (ho:o.op=.load ty x)
  (g o0:Nat) (hx:a.eval x=.pointer (some ⟨g,o0,none⟩)) (cs:List Value) (d:TypeDesc) (hc:∀ (j:Nat) v,cs[j]?=some v→w.cell? ⟨g,o0+j,none⟩=some v)
  (hu:P.underlying ty=some d) (hd:(match d with|.struct _|.array _ _=>true|_=>false)=true) (hi:(P.info? ty).map (·.size)=some cs.length)
  (h:wpList P ops Q rest (a.put o.dst (.agg cs.toArray)) w):wpList P ops Q (o :: rest) a w :=
 wpList_plain hgd fun _ hK=>by
  unfold Oper.wp execOp
  simp only [ho,hx,Instr.loadAt,Instr.sureAddr,Sem.run_bind,Sem.run_pure,Result.andThen_ok,run_loadVar_cellsAt w g o0 ty cs d hc hu hd hi]
  exact hK _ _ h
end Go.Proofs.YtdfdikpklddnhaaGreatDoor
