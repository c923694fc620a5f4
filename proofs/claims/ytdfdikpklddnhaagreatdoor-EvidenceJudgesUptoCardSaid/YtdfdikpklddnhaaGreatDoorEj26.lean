/- Of the proof of EvidenceJudges, second form: for values of bulk at most 1048576. (Ej26) -/
import Derived.Test.YtdfdikpklddnhaaGreatDoorEj01
import Derived.Test.YtdfdikpklddnhaaGreatDoorEj15
import Derived.Test.YtdfdikpklddnhaaGreatDoorEj25
namespace Go.Proofs.YtdfdikpklddnhaaGreatDoor
open Go.RowKit
set_option linter.unusedSimpArgs false
structure HeadP where
 o:ByteArray
 n:Int
 root:Bs
def HeadP.V (h:HeadP):List Value:=headV h.o h.n h.root
structure FactP where
 kind:Int
 path:ByteArray
 ver:ByteArray
 id:Int
 rcd:ByteArray
 old:HeadP
 head:HeadP
 proof:List Bs
 note:Bs
def FactP.cells (f:FactP) (pv nv:Value):List Value:=[.int .i64 f.kind,.string f.path,.string f.ver,.int .i64 f.id,.string f.rcd]++f.old.V++f.head.V++[pv,nv]
structure FactP.Ok (f:FactP):Prop where
 o:f.old.root.length=32
 h:f.head.root.length=32
theorem HeadP.V_len (h:HeadP) (hr:h.root.length=32):h.V.length=34:=by simp [HeadP.V,headV,hr]
theorem FactP.cells_len (f:FactP) (pv nv:Value) (h:f.Ok):(f.cells pv nv).length=75:=by simp [FactP.cells,HeadP.V_len _ h.o,HeadP.V_len _ h.h]
theorem FactP.c0 (f:FactP) (pv nv:Value):(f.cells pv nv)[0]?=some (.int .i64 f.kind):=rfl
theorem FactP.c1 (f:FactP) (pv nv:Value):(f.cells pv nv)[1]?=some (.string f.path):=rfl
theorem FactP.c2 (f:FactP) (pv nv:Value):(f.cells pv nv)[2]?=some (.string f.ver):=rfl
theorem FactP.c3 (f:FactP) (pv nv:Value):(f.cells pv nv)[3]?=some (.int .i64 f.id):=rfl
theorem FactP.c4 (f:FactP) (pv nv:Value):(f.cells pv nv)[4]?=some (.string f.rcd):=rfl
theorem FactP.cold (f:FactP) (pv nv:Value) (j:Nat) (v:Value) (h:f.old.V[j]?=some v):(f.cells pv nv)[5+j]?=some v:=by
 unfold FactP.cells
 have hj:j<f.old.V.length:=(List.getElem?_eq_some_iff.1 h).1
 rw [List.append_assoc,List.append_assoc,List.getElem?_append_right (by simp),List.getElem?_append_left (by simp;omega)]
 simpa using h
theorem FactP.chead (f:FactP) (pv nv:Value) (hk:f.Ok) (j:Nat) (v:Value) (h:f.head.V[j]?=some v):(f.cells pv nv)[39+j]?=some v:=by
 unfold FactP.cells
 have hj:j<f.head.V.length:=(List.getElem?_eq_some_iff.1 h).1
 have hl:=HeadP.V_len _ hk.o
 rw [List.append_assoc,List.append_assoc,List.getElem?_append_right (by simp;omega),List.getElem?_append_right (by simp [hl];omega),List.getElem?_append_left (by simp [hl];omega)]
 simp only [hl,List.length_cons,List.length_nil]
 rw [show 39+j - (0+1+1+1+1+1) - 34=j by omega];exact h
theorem FactP.c73 (f:FactP) (pv nv:Value) (hk:f.Ok):(f.cells pv nv)[73]?=some pv:=by
 unfold FactP.cells
 have hl:=HeadP.V_len _ hk.o
 have hl2:=HeadP.V_len _ hk.h
 rw [List.getElem?_append_right (by simp [hl,hl2])]
 simp [hl,hl2]
theorem FactP.c74 (f:FactP) (pv nv:Value) (hk:f.Ok):(f.cells pv nv)[74]?=some nv:=by
 unfold FactP.cells
 have hl:=HeadP.V_len _ hk.o
 have hl2:=HeadP.V_len _ hk.h
 rw [List.getElem?_append_right (by simp [hl,hl2])]
 simp [hl,hl2]
def HeadP.eq (a b:HeadP):Bool:=a.o.toList == b.o.toList && a.n == b.n && a.root == b.root
theorem HeadP.eq_iff (a b:HeadP):a.eq b=true↔a=b:=by
 obtain ⟨o,n,r⟩:=a
 obtain ⟨o',n',r'⟩:=b
 simp only [HeadP.eq,Bool.and_eq_true,beq_iff_eq,HeadP.mk.injEq]
 constructor
 ·rintro ⟨⟨h1,h2⟩,h3⟩
  refine ⟨?_,h2,h3⟩
  rw [ByteArray.toList_eq,ByteArray.toList_eq] at h1
  obtain ⟨⟨x⟩⟩:=o
  obtain ⟨⟨y⟩⟩:=o'
  simp at h1
  rw [h1]
 ·rintro ⟨rfl,rfl,rfl⟩
  exact ⟨⟨rfl,rfl⟩,rfl⟩
theorem part_hash (a:HeadP) (ha:a.root.length=32) (w:World):(part 34 a.V.toArray 2).run Tryz.prog w=.ok (hashV a.root) w:=by
 have hs:(sizeOf 34).run Tryz.prog w=.ok 32 w:=by kernel_rfl
 unfold part isAgg
 simp only [Sem.run_bind,run_underlying Tryz.underlying34,Result.andThen_ok,Sem.run_pure,if_true,hs]
 have e:a.V.toArray.extract 2 (2+32)=(a.root.map byteV).toArray:=by
  unfold HeadP.V headV
  simp
  exact List.take_of_length_le (by simp [ha])
 rw [e];rfl
theorem part_str (a:HeadP) (w:World):(part 9 a.V.toArray 0).run Tryz.prog w=.ok (.string a.o) w:=by
 unfold part isAgg
 simp [Sem.run_bind,run_underlying Tryz.underlying9,HeadP.V,headV]
theorem part_int (a:HeadP) (w:World):(part 2 a.V.toArray 1).run Tryz.prog w=.ok (.int .i64 a.n) w:=by
 unfold part isAgg
 simp [Sem.run_bind,run_underlying Tryz.underlying2,HeadP.V,headV]
theorem head_eqIn (a b:HeadP) (ha:a.root.length=32) (hb:b.root.length=32) (w:World):(Op.equalIn 10000 36 (.agg a.V.toArray) (.agg b.V.toArray)).run Tryz.prog w=.ok (a.eq b) w:=by
 rw [run_equalIn_struct w 9999 36 _ _ (by kernel_rfl) (by kernel_rfl)]
 have h:=run_equalIn_bytes (P:=Tryz.prog) w 9997 34 5 32 Tryz.underlying34 Tryz.underlying5 (fun _=>by kernel_rfl) a.root b.root ha hb
 have h':(Op.equalIn 9999 34 (hashV a.root) (hashV b.root)).run Tryz.prog w=.ok (a.root == b.root) w:=h
 have h1:=run_equalIn_string (P:=Tryz.prog) w 9998 9 a.o b.o Tryz.underlying9
 have h2:=run_equalIn_int (P:=Tryz.prog) w 9998 2 .i64 .i64 a.n b.n Tryz.underlying2
 unfold HeadP.eq
 simp only [Program.fieldsOf,Tryz.underlying36,Op.eqFields,Sem.run_bind,Sem.run_ite,part_hash a ha,part_hash b hb,part_str,part_int,Result.andThen_ok]
 cases e1:(a.o.toList == b.o.toList) <;> cases e2:(a.n == b.n) <;> cases e3:(a.root == b.root) <;> simp [h1,h2,h',e1,e2,e3]
theorem head_neq (a b:HeadP) (ha:a.root.length=32) (hb:b.root.length=32) (w:World):(binOp .neq 36 (.agg a.V.toArray) (.agg b.V.toArray)).run Tryz.prog w=.ok (.bool (!(a.eq b))) w:=by
 rw [run_neq_struct,head_eqIn a b ha hb];rfl
theorem head_eql (a b:HeadP) (ha:a.root.length=32) (hb:b.root.length=32) (w:World):(binOp .eql 36 (.agg a.V.toArray) (.agg b.V.toArray)).run Tryz.prog w=.ok (.bool (a.eq b)) w:=by
 rw [run_eql_struct,head_eqIn a b ha hb];rfl
theorem info36:(Tryz.prog.info? 36).map (·.size)=some 34:=by kernel_rfl
theorem info61:(Tryz.prog.info? 61).map (·.size)=some 75:=by kernel_rfl
theorem wpList_load_cellsAtG {P:Program} {ops:Array Oper} {rest:List Oper} {o:Oper} {a:Act} {w:World} {Q:Exit→Act→World→Prop} (ty:TypeId) (x:Operand) (ho:o.op=.load ty x)
  (g o0:Nat) (hx:a.eval x=.pointer (some ⟨g,o0,none⟩)) (cs:List Value) (d:TypeDesc) (hc:∀ (j:Nat) v,cs[j]?=some v→w.cell? ⟨g,o0+j,none⟩=some v)
  (hu:P.underlying ty=some d) (hd:(match d with|.struct _|.array _ _=>true|_=>false)=true) (hi:(P.info? ty).map (·.size)=some cs.length)
  (hwd:Region.wanted o (yielded ops a.tmps)=true)
  (h:wpList P ops Q rest (a.put o.dst (.agg cs.toArray)) w):wpList P ops Q (o :: rest) a w :=
 wpList_step fun K hK=>by
  rw [if_pos hwd]
  unfold Oper.wp execOp
  simp only [ho,hx,Instr.loadAt,Instr.sureAddr,Sem.run_bind,Sem.run_pure,Result.andThen_ok,run_loadVar_cellsAt w g o0 ty cs d hc hu hd hi]
  exact hK _ _ h
def FactAt (w:World) (g o:Nat) (f:FactP) (pv nv:Value):Prop:=∀ (j:Nat) v,(f.cells pv nv)[j]?=some v→w.cell? ⟨g,o+j,none⟩=some v
theorem FactAt.mv {F:Nat→Prop} {w w':World} {g o:Nat} {f:FactP} {pv nv:Value} (h:FactAt w g o f pv nv) (hm:Mv F w w') (hF:¬ F g):FactAt w' g o f pv nv:=fun j v hj =>
 (hm.cell (p:=⟨g,o+j,none⟩) (World.block_lt_of_cell? _ _ (h j v hj)) hF).trans (h j v hj)
theorem FactAt.of_block {w:World} {g:Nat} {f:FactP} {pv nv:Value} {t:TypeId} (h:w.heap[g]?=some (.cells (f.cells pv nv).toArray t (0,0))):FactAt w g 0 f pv nv:=fun j v hj=>by
 rw [cell_of_row _ _ _ _ _ _ h,Nat.zero_add];simpa using hj
def bareP (f:FactP):Bool:=f.path.toList == [] && f.ver.toList == [] && f.rcd.toList == [] && f.id == 0
def goesP (k:Int) (p:List Bs) (h o:HeadP):Bool:=treeAns k h.n o.n h.root o.root p == 0
def movedP (k:Int) (f:FactP) (h:HeadP) (none:Bool):Bool :=
 let h':=if none=true then ⟨f.head.o,0,emptyP k⟩ else h
 bareP f && f.old.eq h' && f.head.o.toList == h'.o.toList && decide (h'.n<f.head.n) && decide (f.head.n≤281474976710656) && (if h'.n=0 then f.proof.length == 0 else goesP k f.proof f.head h')
def agreedP (k:Int) (f:FactP) (h:HeadP) (none:Bool):Bool :=
 !none && bareP f && f.head.eq h && f.old.o.toList == h.o.toList && decide (1≤f.old.n) && decide (f.old.n<h.n) && goesP k f.proof f.head f.old
def head0:HeadP:=⟨ByteArray.empty,0,zero32⟩
def acceptedP (k:Int) (f:FactP) (h:HeadP) (none:Bool):Bool :=
 !none && f.head.eq h && f.old.eq head0 && f.note.length == 0 && isOfP f.rcd.data.toList f.path.data.toList f.ver.data.toList && (checkAns k h.n f.id h.root (leafP k f.rcd.data.toList) f.proof == 0)
def rightP (k:Int) (f:FactP) (h:HeadP) (none:Bool):Bool:=if f.kind=1 then acceptedP k f h none else if f.kind=2 then movedP k f h none else if f.kind=3 then agreedP k f h none else false
theorem head0_lit:head0.V.toArray=#[.string ⟨#[]⟩,.int .i64 0,.int .u8 0,.int .u8 0,.int .u8 0,.int .u8 0,.int .u8 0,.int .u8 0,.int .u8 0,.int .u8 0,.int .u8 0,.int .u8 0,.int .u8 0,.int .u8 0,.int .u8 0,.int .u8 0,.int .u8 0,.int .u8 0,.int .u8 0,.int .u8 0,.int .u8 0,.int .u8 0,.int .u8 0,.int .u8 0,.int .u8 0,.int .u8 0,.int .u8 0,.int .u8 0,.int .u8 0,.int .u8 0,.int .u8 0,.int .u8 0,.int .u8 0,.int .u8 0]:=by kernel_rfl
theorem eqg36 (op:BinOp) (x y:Operand) (xs ys:Array Value) (W:World):(eqGuard op 36 x y (.agg xs) (.agg ys)).run Tryz.prog W=.ok () W:=run_eqGuard_agg W op 36 x y xs ys (by kernel_rfl)
theorem head_cells {w:World} {g:Nat} {h:HeadP} {t:TypeId} (hh:w.heap[g]?=some (.cells h.V.toArray t (0,0))) :
  w.cell? ⟨g,0,none⟩=some (.string h.o)∧w.cell? ⟨g,1,none⟩=some (.int .i64 h.n)∧∀ (j:Nat) u,(h.root.map byteV)[j]?=some u→w.cell? ⟨g,2+j,none⟩=some u:=by
 refine ⟨by rw [cell_of_row _ _ _ _ _ _ hh];rfl,by rw [cell_of_row _ _ _ _ _ _ hh];rfl,fun j u hu=>?_⟩
 rw [cell_of_row _ _ _ _ _ _ hh,List.getElem?_toArray,show 2+j=j+1+1 by omega]
 exact hu
set_option maxRecDepth 100000 in
set_option maxHeartbeats 1600000 in
theorem goesOn_any (k:Int) (pv:Value) (p:List Bs) (h o:HeadP) (w:World) (hp:HsIn w pv p) (hh:h.root.length=32) (ho:o.root.length=32) (he:EnvH w) :
  Calls Tryz.prog 99 #[.int .i64 k,pv,.agg h.V.toArray,.agg o.V.toArray] w fun e w'=>e=.returned (.bool (goesP k p h o))∧Mv (fun _=>False) w w':=by
 have HP:=zh hp
 have HE:=zh he
 obtain ⟨hv,hhv⟩:=zg (h.V.toArray)
 obtain ⟨ov,hov⟩:=zg (o.V.toArray)
 rw [←hhv,←hov]
 obtain ⟨A,hA⟩:=zg (w.heap.size)
 have h1:((w.alloc (.cells hv 36)).alloc (.cells ov 36)).heap[w.heap.size]?=some (.cells hv 36 (0,0)):=(Below.heap_alloc _ _ _ (by simp)).trans (heap_alloc_new _ _)
 have h2:((w.alloc (.cells hv 36)).alloc (.cells ov 36)).heap[w.heap.size+1]?=some (.cells ov 36 (0,0)):=by
  rw [show w.heap.size+1=(w.alloc (.cells hv 36)).heap.size by simp];exact heap_alloc_new _ _
 have hm:Mv (fun _=>False) w ((w.alloc (.cells hv 36)).alloc (.cells ov 36)):=((Mv.refl _ _).alloc _).alloc _
 have HHV:=zh hhv
 have HOV:=zh hov
 have HH:=zh hh
 have HO:=zh ho
 clear hp he hhv hov hh ho
 go_enter Tryz.func99,Tryz.ntmps99
 go_upto_region 1 with fail
 generalize hW1:(w.alloc (.cells hv 36)).alloc (.cells ov 36)=W1
 rw [hW1] at h1 h2 hm
 rw [←hA] at h1 h2 ⊢
 rw [HHV.out] at h1
 rw [HOV.out] at h2
 obtain ⟨a0,a1,a2⟩:=head_cells h1
 obtain ⟨b0,b1,b2⟩:=head_cells h2
 obtain ⟨hr,hhr⟩:=zg (h.root.map byteV)
 obtain ⟨orr,hor⟩:=zg (o.root.map byteV)
 rw [←hhr] at a2
 rw [←hor] at b2
 have HA2:=zh a2
 have HB2:=zh b2
 have HHR:=zh hhr
 have HOR:=zh hor
 have HIH:Hid ((Tryz.prog.info? 34).map (·.size)=some hr.length):=zh (by rw [hhr,List.length_map,HH.out];exact info34)
 have HIO:Hid ((Tryz.prog.info? 34).map (·.size)=some orr.length):=zh (by rw [hor,List.length_map,HO.out];exact info34)
 have HM:=zh hm
 obtain ⟨hn,hhn⟩:=zg (h.n)
 obtain ⟨on,hon⟩:=zg (o.n)
 rw [←hhn] at a1
 rw [←hon] at b1
 have HHN:=zh hhn
 have HON:=zh hon
 clear hW1 h1 h2 hm hA a2 b2 hhr hor hhn hon
 go_wp2_with (first
  | (refine wpList_load_cellsAt rfl 34 _ rfl A 2 rfl hr _ HA2.out Tryz.underlying34 rfl HIH.out ?_)
  | (refine wpList_load_cellsAt rfl 34 _ rfl (A+1) 2 rfl orr _ HB2.out Tryz.underlying34 rfl HIO.out ?_))
 have hck:=checkTree_any k h.n o.n pv p h.root o.root W1 (HP.out.mv HM.out (fun _ _ h=>h)) HH.out HO.out (HE.out.mv HM.out (fun _ h=>h.elim))
 rw [show hashV h.root=.agg hr.toArray by rw [HHR.out];rfl,show hashV o.root=.agg orr.toArray by rw [HOR.out];rfl,←HHN.out,←HON.out] at hck
 refine hck.mono ?_
 rintro e w2 ⟨rfl,hm2⟩
 have HM2:=zh (HM.out.trans hm2)
 obtain ⟨c,hc⟩:=zg (treeAns k hn on h.root o.root p)
 rw [←hc]
 have HC:=zh hc
 clear hck hm2 hc
 go_wp2_with fail
 go_ret
 refine ⟨?_,HM2.out⟩
 unfold goesP
 rw [←HHN.out,←HON.out,←HC.out];rfl
end Go.Proofs.YtdfdikpklddnhaaGreatDoor
