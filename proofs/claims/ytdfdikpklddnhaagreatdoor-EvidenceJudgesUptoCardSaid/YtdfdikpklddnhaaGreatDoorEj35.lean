/- Of the proof of EvidenceJudges, second form: for values of bulk at most 1048576. (Ej35) -/
import Derived.Test.YtdfdikpklddnhaaGreatDoorEj01
import Derived.Test.YtdfdikpklddnhaaGreatDoorEj34
import Derived.Great.BuildSlice
namespace Go.Proofs.YtdfdikpklddnhaaGreatDoor
open Go.RowKit
set_option linter.unusedSimpArgs false
theorem fill_f (place:Nat→Option (Nat × Nat)) (cs:List Value) (i off:Nat) (v:Value) (rest:List (Nat × Value)) (hp:place i=some (off,v.cells.size)) (hz:off+v.cells.size≤cs.length) :
  Instr.fill place cs.toArray ((i,v) :: rest)=Instr.fill place (cs.take off++v.cells.toList++cs.drop (off+v.cells.size)).toArray rest:=by
 have hl:(cs.take off).length=off:=by rw [List.length_take];omega
 have h:=fill_block place i v (cs.take off) (cs.drop off) rest (by rw [hl];exact hp) (by rw [List.length_drop];omega)
 rw [List.take_append_drop,List.drop_drop] at h
 exact h
theorem z75_list:z75.toList=[.int .i64 0,.string ⟨#[]⟩,.string ⟨#[]⟩,.int .i64 0,.string ⟨#[]⟩]++head0.V++head0.V++[.slice none 0 0,.slice none 0 0]:=by kernel_rfl
theorem head0_len:head0.V.length=34:=by kernel_rfl
theorem z75_arr:z75=([.int .i64 0,.string ⟨#[]⟩,.string ⟨#[]⟩,.int .i64 0,.string ⟨#[]⟩]++head0.V++head0.V++[.slice none 0 0,.slice none 0 0]:List Value).toArray:=by rw [←z75_list]
theorem built_f01 (k:Int):Tryz.prog.built 61 [(0,.int .i64 2),(5,.agg (f01 k).old.V.toArray),(6,.agg (f01 k).head.V.toArray)]=some ((f01 k).cells (.slice none 0 0) (.slice none 0 0)).toArray:=by
 rw [built_any,z75_arr]
 have l0:=head0_len
 have l1:(f01 k).old.V.length=34:=HeadP.V_len _ (emptyP_length k)
 have l2:(f01 k).head.V.length=34:=HeadP.V_len _ (leafP_length k _)
 obtain ⟨O,hO⟩:=zg (head0.V)
 obtain ⟨OV,hOV⟩:=zg ((f01 k).old.V)
 obtain ⟨HV,hHV⟩:=zg ((f01 k).head.V)
 have hc:(f01 k).cells (.slice none 0 0) (.slice none 0 0)=[.int .i64 2,.string ⟨#[]⟩,.string ⟨#[]⟩,.int .i64 0,.string ⟨#[]⟩]++OV++HV++[.slice none 0 0,.slice none 0 0]:=by rw [hOV,hHV];rfl
 rw [hc,←hO,←hOV,←hHV]
 rw [←hO] at l0
 rw [←hOV] at l1
 rw [←hHV] at l2
 rw [fill_f _ _ 0 0 _ _ rfl (by simp [Value.cells]),fill_f _ _ 5 5 _ _ (by simp [Value.cells,l1]) (by simp [Value.cells,l0,l1]),fill_f _ _ 6 39 _ _ (by simp [Value.cells,l2]) (by simp [Value.cells,l0,l1,l2])]
 unfold Instr.fill
 simp [Value.cells,l0,l1,l2,List.take_append,List.drop_append]
theorem built_f02 (k:Int):Tryz.prog.built 61 [(0,.int .i64 1),(1,.string p0),(2,.string v0),(4,.string r0),(6,.agg (f02 k).head.V.toArray)]=some ((f02 k).cells (.slice none 0 0) (.slice none 0 0)).toArray:=by
 rw [built_any,z75_arr]
 have l0:=head0_len
 have l2:(f02 k).head.V.length=34:=HeadP.V_len _ (leafP_length k _)
 have e0:(f02 k).old.V=head0.V:=rfl
 obtain ⟨O,hO⟩:=zg (head0.V)
 rw [←hO] at l0 e0 ⊢
 rw [fill_f _ _ 0 0 _ _ rfl (by simp [Value.cells]),fill_f _ _ 1 1 _ _ rfl (by simp [Value.cells]),fill_f _ _ 2 2 _ _ rfl (by simp [Value.cells]),fill_f _ _ 4 4 _ _ rfl (by simp [Value.cells]),fill_f _ _ 6 39 _ _ (by simp [Value.cells,l2]) (by simp [Value.cells,l0,l2])]
 unfold Instr.fill
 simp [Value.cells,l0,l2,FactP.cells,List.take_append,List.drop_append,e0]
 simp [f02]
theorem fill_two (Z:Array Value) (c1 c2:Array Value) (hZ:Z.size=150) (h1:c1.size=75) (h2:c2.size=75):Instr.fill (fun i=>some (i * 75,75)) Z [(0,.agg c1),(1,.agg c2)]=some (c1++c2):=by
 have z:Z=Z.toList.toArray:=by simp
 rw [z]
 obtain ⟨L,hL⟩:=zg (Z.toList)
 have hl:L.length=150:=by rw [hL];simpa using hZ
 rw [←hL]
 rw [fill_f _ _ 0 0 _ _ (by simp [Value.cells,h1]) (by simp [Value.cells,h1,hl]),fill_f _ _ 1 75 _ _ (by simp [Value.cells,h2]) (by simp [Value.cells,h1,h2,hl])]
 unfold Instr.fill
 simp [Value.cells,h1,h2,hl,List.take_append,List.drop_append]
theorem wp_slice54two {o:Oper} {a:Act} {w:World} {K:Act→World→Prop} {Q:Exit→Act→World→Prop} (x y:Operand) (ho:o.op=.buildSlice 54 2 #[(0,x),(1,y)]) (c1 c2:Array Value) (hx:a.eval x=.agg c1) (hy:a.eval y=.agg c2) (h1:c1.size=75) (h2:c2.size=75)
  (h:K (a.put o.dst (.slice (some ⟨w.heap.size,0,none⟩) 2 2)) (w.alloc (.cells (c1++c2) 61))):o.wp Tryz.prog a w K Q:=by
 obtain ⟨i0,hi0,hz0,hz1,hz2⟩:=info_parts Tryz.info61f
 refine wp_buildSlice 54 61 2 _ ho (c1++c2) i0 (.agg z75) Tryz.underlying54 hi0 hz0 (by rw [hz1];decide) (by rw [hz1];decide) ?_ h
 rw [hz1]
 simp only [List.map_toArray,List.map_cons,List.map_nil,hx,hy]
 exact fill_two _ c1 c2 (by simp) h1 h2
theorem t0_lit:(t0.map byteV).toArray=#[.int .u8 1,.int .u8 0,.int .u8 0,.int .u8 0,.int .u8 0,.int .u8 0,.int .u8 0,.int .u8 0,.int .u8 0,.int .u8 0,.int .u8 0,.int .u8 0,.int .u8 0,.int .u8 0,.int .u8 0,.int .u8 0,.int .u8 0,.int .u8 0,.int .u8 0,.int .u8 0,.int .u8 0,.int .u8 0,.int .u8 0,.int .u8 0,.int .u8 0,.int .u8 0,.int .u8 0,.int .u8 0,.int .u8 0,.int .u8 0,.int .u8 0,.int .u8 0]:=by kernel_rfl
theorem m0_lit:(m0.map byteV).toArray=#[.int .u8 2,.int .u8 0,.int .u8 0,.int .u8 0,.int .u8 0,.int .u8 0,.int .u8 0,.int .u8 0,.int .u8 0,.int .u8 0,.int .u8 0,.int .u8 0,.int .u8 0,.int .u8 0,.int .u8 0,.int .u8 0,.int .u8 0,.int .u8 0,.int .u8 0,.int .u8 0,.int .u8 0,.int .u8 0,.int .u8 0,.int .u8 0,.int .u8 0,.int .u8 0,.int .u8 0,.int .u8 0,.int .u8 0,.int .u8 0,.int .u8 0,.int .u8 0]:=by kernel_rfl
theorem found0 (k:Int) {w':World} {B:Nat} {fcs:Array Value} (h:Found w' B k [f01 k,f02 k] p0 v0 fcs):fcs[4]?=some (.string r0):=by
 obtain ⟨i,f,pv,nv,h1,h2,h3,_⟩:=h.2.2.2 (findE0 k)
 rw [first0] at h1
 have hi1:i=1:=by omega
 subst hi1
 cases h2
 rw [h3]
 rfl
theorem facts0_in (k:Int) (w:World) (B:Nat) (h:w.heap[B]?=some (.cells (((f01 k).cells (.slice none 0 0) (.slice none 0 0)).toArray++((f02 k).cells (.slice none 0 0) (.slice none 0 0)).toArray) 61 (0,0))):FactsIn w (.slice (some ⟨B,0,none⟩) 2 2) [f01 k,f02 k]:=by
 have o1:(f01 k).Ok:=⟨emptyP_length k,leafP_length k _⟩
 have o2:(f02 k).Ok:=⟨rfl,leafP_length k _⟩
 have l1:=FactP.cells_len (f01 k) (.slice none 0 0) (.slice none 0 0) o1
 refine ⟨_,2,rfl,Nat.le_refl _,fun j f hf=>⟨B,0,rfl,?_⟩⟩
 match j,hf with
 | 0,hf =>
  cases hf
  refine ⟨o1,⟨(by decide:(⟨#[]⟩:ByteArray).size≤1048576),Nat.zero_le _⟩,_,_,fun t u hu=>?_,.inl ⟨rfl,rfl⟩,.inl ⟨rfl,rfl⟩⟩
  rw [cell_of_row _ _ _ _ _ _ h,List.append_toArray,List.getElem?_toArray]
  have ht:=(List.getElem?_eq_some_iff.1 hu).1
  rw [show 0+0 * 75+t=t by omega,List.getElem?_append_left ht];exact hu
 | 1,hf =>
  cases hf
  refine ⟨o2,⟨Nat.le_trans r0_size (by decide),Nat.zero_le _⟩,_,_,fun t u hu=>?_,.inl ⟨rfl,rfl⟩,.inl ⟨rfl,rfl⟩⟩
  rw [cell_of_row _ _ _ _ _ _ h,List.append_toArray,List.getElem?_toArray]
  rw [List.getElem?_append_right (by rw [l1];omega),l1,show 0+1 * 75+t - 75=t by omega];exact hu
 | n+2,hf=>simp at hf
set_option maxRecDepth 100000 in
set_option maxHeartbeats 3200000 in
theorem lawStart_any (k:Int) (w:World) (he:EnvH w) (henv:EnvP w) :
  Calls Tryz.prog 17 #[.int .i64 k] w fun e w'=>e=.returned (.bool true)∧Mv (fun _=>False) w w':=by
 have HE:=zh he
 have HENV:=zh henv
 obtain ⟨r,hr⟩:=zg (r0)
 have HR0:=zh hr
 have hrz:r.size≤1024:=by rw [hr];exact r0_size
 obtain ⟨lc,hlc⟩:=zg (((leafP k r.data.toList).map byteV).toArray)
 have hlz:lc.size=32:=by rw [hlc];simp [leafP_length]
 obtain ⟨ec,hec⟩:=zg (((emptyP k).map byteV).toArray)
 have hez:ec.size=32:=by rw [hec];simp [emptyP_length]
 obtain ⟨hv,hhv⟩:=zg ((hd0 k).V.toArray)
 obtain ⟨ov,hov⟩:=zg ((f01 k).old.V.toArray)
 have hbj:=build_joined (.string ⟨#[111]⟩) (.int .i64 1) lc hlz
 have hbo:=build_joined (.string ⟨#[111]⟩) (.int .i64 0) ec hez
 have hh2:#[.string ⟨#[111]⟩,.int .i64 1]++lc=hv:=by rw [hhv,hlc,hr];simp [hd0,HeadP.V,headV]
 have ho2:#[.string ⟨#[111]⟩,.int .i64 0]++ec=ov:=by rw [hov,hec];simp [f01,HeadP.V,headV]
 rw [hh2] at hbj
 rw [ho2] at hbo
 have HBO:=zh hbo
 have HLC:=zh hlc
 have HEC:=zh hec
 have HEZ:=zh hez
 have HHV:=zh hhv
 have HOV:=zh hov
 have hvl:hv.size=34:=by rw [hhv,List.size_toArray];exact HeadP.V_len _ (leafP_length k _)
 have HIV:Hid ((Tryz.prog.info? 36).map (·.size)=some hv.size):=zh (by rw [hvl];exact info36)
 have HVZ:Hid (34=hv.size):=zh hvl.symm
 have HVO:Hid (hv.all (·.oneCell')=true):=zh (by rw [hhv];exact head_one _)
 obtain ⟨c1,hc1⟩:=zg (((f01 k).cells (.slice none 0 0) (.slice none 0 0)).toArray)
 obtain ⟨c2,hc2⟩:=zg (((f02 k).cells (.slice none 0 0) (.slice none 0 0)).toArray)
 have h1z:c1.size=75:=by rw [hc1,List.size_toArray];exact FactP.cells_len _ _ _ ⟨emptyP_length k,leafP_length k _⟩
 have h2z:c2.size=75:=by rw [hc2,List.size_toArray];exact FactP.cells_len _ _ _ ⟨rfl,leafP_length k _⟩
 have hb1:=built_f01 k
 have hb2:=built_f02 k
 rw [←hc1,←hov,show (f01 k).head.V.toArray=hv by rw [hhv];rfl] at hb1
 rw [←hc2,show (f02 k).head.V.toArray=hv by rw [hhv];rfl,←hr] at hb2
 have HB1:=zh hb1
 have HB2:=zh hb2
 have HC1:=zh hc1
 have HC2:=zh hc2
 have H1Z:=zh h1z
 have H2Z:=zh h2z
 have hrt:=recordText_any p0 v0 t0 m0 w (by decide) (by decide) rfl rfl check0 henv
 rw [t0_lit,m0_lit,show recB p0 v0 t0 m0=r by rw [hr];rfl] at hrt
 have HRT:=zh hrt
 have hrr:(r.toList == r.toList)=true:=by simp
 clear hr hlc hec hhv hov hh2 ho2 hbo hvl hc1 hc2 h1z h2z hb1 hb2 hrt he henv hez
 go_enter Tryz.func17,Tryz.ntmps17
 go_upto_region 2 with (first
  | (go_at_call 50;refine HRT.out.mono ?_;rintro e w2 ⟨rfl,hm2⟩;have M2:=zh hm2;clear hm2))
 have hcv:=Go.Lib.run_convert_string_bytes (P:=Tryz.prog) w2 9 26 5 r Tryz.underlying9 Tryz.underlying26 Tryz.underlying5
 have hgc:=grownCap_ge w2 r.size 0 5
 obtain ⟨W3,hW3⟩:=zg (Go.Lib.bytesWorld w2 5 r)
 obtain ⟨cap,hcap⟩:=zg (grownCap w2 r.size 0 5)
 obtain ⟨B,hB⟩:=zg (w2.heap.size)
 rw [←hW3,←hcap,←hB] at hcv
 rw [←hcap] at hgc
 have hl:r.data.toList.length=r.size:=by simp
 have hsl:SlIn W3 (.slice (some ⟨B,0,none⟩) r.size cap) r.data.toList:=.inr ⟨B,0,cap,by rw [hl],by rw [hl];exact hgc,fun j b hj=>by
  have hjl:j<r.size:=by rw [←hl];exact (List.getElem?_eq_some_iff.1 hj).1
  have:=Go.Lib.bytesWorld_cell w2 5 r j hjl
  rw [←hW3,←hB] at this
  rw [Nat.zero_add,this,List.getD_eq_getElem?_getD,hj]
  rfl,by rw [hW3,Go.Lib.bytesWorld_size,hB];omega⟩
 have hm3:Mv (fun _=>False) w2 W3:=⟨by rw [hW3];rfl,by rw [hW3];rfl,by rw [hW3];rfl,by rw [hW3,Go.Lib.bytesWorld_size];omega,fun j hj _=>by rw [hW3];exact Go.Lib.bytesWorld_at_old w2 5 r j hj⟩
 have M3:=zh (M2.out.trans hm3)
 have HSL:=zh hsl
 clear hW3 hcap hB hgc hl hsl hm3
 go_upto_region 3 with (first
  | (go_at_call 51;have hlf:=leafHash_any k _ r.data.toList W3 HSL.out (by simp;omega) (HE.out.mv M3.out (fun _ h=>h.elim));rw [show hashV (leafP k r.data.toList)=.agg lc by rw [HLC.out];rfl] at hlf;refine hlf.mono ?_;rintro e w4 ⟨rfl,hm4⟩;have M4:=zh (M3.out.trans hm4);clear hlf hm4)
  | (refine wpList_store_row rfl 36 (.tmp 5) _ rfl w4.heap.size hv rfl rfl 36 _ (heap_alloc_new _ _) HIV.out HVZ.out HVO.out ?_))
 obtain ⟨H,hH⟩:=zg (w4.heap.size)
 have HW:Hid (∀ Z:Array Value,((w4.alloc (.cells Z 36)).setRow w4.heap.size hv).heap[H]?=some (.cells hv 36 (0,0))∧Mv (fun _=>False) w4 ((w4.alloc (.cells Z 36)).setRow w4.heap.size hv)):=zh fun Z =>
  ⟨by rw [hH];exact setRow_heap _ _ _ _ _ _ (heap_alloc_new _ _),((Mv.refl _ _).alloc _).setRow (.inr (Nat.le_refl _)) _⟩
 rw [←hH]
 generalize hW:World.setRow _ _ _=w5
 obtain ⟨x5,m5⟩:=HW.out _
 rw [←hH,hW] at x5 m5
 have X5:=zh x5
 have M5:=zh (M4.out.trans m5)
 obtain ⟨hl,hhl⟩:=zg ((hd0 k).V)
 have HVA:Hid (hl.toArray=hv):=zh (by rw [hhl,HHV.out])
 have HIL:Hid ((Tryz.prog.info? 36).map (·.size)=some hl.length):=zh (by rw [hhl,HeadP.V_len _ (leafP_length k _)];exact info36)
 have HRG:Hid (∀ W:World,W.heap[H]?=some (.cells hl.toArray 36 (0,0))→W.rangeAt H 0 hl):=zh fun W hW j v hv2=>by
  rw [cell_of_row _ _ _ _ _ _ hW,Nat.zero_add,List.getElem?_toArray];exact hv2
 clear hW hH x5 m5 HW hhl hcv hbj
 refine wp_region_noPanic ?_
 refine wp_region_held_drew (S:=(fun w'=>w'.heap[H]?=some (.cells hv 36 (0,0)))) (by kernel_rfl) (X5.out) (fun hHeld=>?_)
 refine zt 0 (.int .i64 k) rfl (fun _ hS=>by go_simp) hHeld ?_
 try walk_nrm
 refine zj 3 (.agg hv) rfl (by rw [←HVA.out];exact yieldsIf_load_mid (by rfl) 36 _ rfl H 0 rfl hl _ (fun _ h=>HRG.out _ h) Tryz.underlying36 rfl HIL.out) hHeld ?_
 try walk_nrm
 refine zt 5 (.string r) rfl (fun _ hS=>by go_simp) hHeld ?_
 try walk_nrm
 refine zj 6 (.agg hv) rfl (by rw [←HVA.out];exact yieldsIf_load_mid (by rfl) 36 _ rfl H 0 rfl hl _ (fun _ h=>HRG.out _ h) Tryz.underlying36 rfl HIL.out) hHeld ?_
 try walk_nrm
 refine zj 7 (.agg c2) rfl (yields_build (by rfl) 61 _ rfl c2 (by simp only [List.map_toArray,List.map_cons,List.map_nil];exact HB2.out)) hHeld ?_
 try walk_nrm
 refine zo 1 rfl fun K' hK=>?_
 unfold Oper.wp execOp
 go_simp
 have hem:=emptyHash_any k w5.drew (HE.out.mv M5.out.drew (fun _ h=>h.elim))
 rw [show hashV (emptyP k)=.agg ec by rw [HEC.out];rfl] at hem
 refine hem.mono ?_
 rintro e w6 ⟨rfl,hm6⟩
 have M6:=zh (M5.out.drew.trans hm6)
 have hs6:=(hm6.block _ (lt_of_heap hHeld) id).trans hHeld
 clear hem hm6
 refine hK.out _ _ hs6 (fun hHeld=>?_)
 clear hK K'
 try walk_nrm
 clear hs6
 refine zt 2 (.agg ov) rfl (fun _ hS=>by have:=HBO.out;have:=HEZ.out;go_simp) hHeld ?_
 try walk_nrm
 refine zj 4 (.agg c1) rfl (yields_build (by rfl) 61 _ rfl c1 (by simp only [List.map_toArray,List.map_cons,List.map_nil];exact HB1.out)) hHeld ?_
 try walk_nrm
 refine zo 8 rfl fun K' hK=>?_
 refine wp_slice54two (.tmp 26) (.tmp 29) rfl c1 c2 rfl rfl H1Z.out H2Z.out ?_
 have hm7:Mv (fun _=>False) w6 (w6.alloc (.cells (c1++c2) 61)):=(Mv.refl _ _).alloc _
 have hs7:=(hm7.block _ (lt_of_heap hHeld) id).trans hHeld
 have M7:=zh (M6.out.trans hm7)
 have hb7:(w6.alloc (.cells (c1++c2) 61)).heap[w6.heap.size]?=some (.cells (c1++c2) 61 (0,0)):=heap_alloc_new _ _
 obtain ⟨B7,hB7⟩:=zg (w6.heap.size)
 rw [←hB7] at hb7 ⊢
 generalize w6.alloc (.cells (c1++c2) 61)=w7 at hs7 M7 hb7 ⊢
 have FI7:Hid (FactsIn w7 (.slice (some ⟨B7,0,none⟩) 2 2) [f01 k,f02 k]):=zh (facts0_in k w7 B7 (by rw [←HC1.out,←HC2.out];exact hb7))
 have H7:=zh hs7
 clear hm7 hB7 hb7
 refine hK.out _ _ hs7 (fun hHeld=>?_)
 clear hK K'
 try walk_nrm
 clear hs7
 refine zo 9 rfl fun K' hK=>?_
 unfold Oper.wp execOp
 go_simp
 refine hK.out _ _ hHeld (fun hHeld=>?_)
 clear hK K'
 try walk_nrm
 clear hHeld
 refine zd ?_
 go_upto_region 5 with (first
  | (go_at_call 21;have hfi:=find_any k _ [f01 k,f02 k] p0 v0 w7 FI7.out (by simp) (fun f hf=>by simp at hf;rcases hf with rfl|rfl <;> simp [f01,f02]) (HE.out.mv M7.out (fun _ h=>h.elim)) (HENV.out.mv M7.out);rw [findE0] at hfi;refine hfi.mono ?_;rintro e w8 ⟨fcs,rfl,hfound,hm8⟩;have M8:=zh (M7.out.trans hm8);have FI8:=zh (FI7.out.mv hm8);have H8:=zbl hm8 H7;have FZ:Hid ((Tryz.prog.info? 61).map (·.size)=some fcs.size):=zh (by rw [hfound.1];exact info61);have FZ2:Hid (75=fcs.size):=zh hfound.1.symm;have FO:=zh hfound.2.1;have F4:=zh (found0 k hfound);rw [←HR0.out] at F4;clear hfi hfound hm8)
  | (refine wpList_store_row rfl 61 (.tmp 7) _ rfl w8.heap.size fcs rfl rfl 61 _ (heap_alloc_new _ _) FZ.out FZ2.out FO.out ?_))
 obtain ⟨F,hF⟩:=zg (w8.heap.size)
 have HW:Hid (∀ Z:Array Value,((w8.alloc (.cells Z 61)).setRow w8.heap.size fcs).heap[F]?=some (.cells fcs 61 (0,0))∧Mv (fun _=>False) w8 ((w8.alloc (.cells Z 61)).setRow w8.heap.size fcs)):=zh fun Z =>
  ⟨by rw [hF];exact setRow_heap _ _ _ _ _ _ (heap_alloc_new _ _),((Mv.refl _ _).alloc _).setRow (.inr (Nat.le_refl _)) _⟩
 rw [←hF]
 generalize hW:World.setRow _ _ _=w9
 obtain ⟨f9,m9⟩:=HW.out _
 rw [←hF,hW] at f9 m9
 have M9:=zh (M8.out.trans m9)
 have FI9:=zh (FI8.out.mv m9)
 have H9:=zbl m9 H8
 have F9:=zh f9
 clear hW hF f9 m9 HW
 go_upto_region 6 with (first
  | (go_at_call 20;have hfi:=final_any k _ [f01 k,f02 k] w9 FI9.out (HE.out.mv M9.out (fun _ h=>h.elim)) (HENV.out.mv M9.out);rw [finalE0,finalH0,←HHV.out] at hfi;refine hfi.mono ?_;rintro e w10 ⟨rfl,hm10⟩;have M10:=zh (M9.out.trans hm10);have FI10:=zh (FI9.out.mv hm10);have H10:=zbl hm10 H9;have F10:=zbl hm10 F9;clear hfi hm10)
  | (refine wpList_store_row rfl 36 (.tmp 9) _ rfl w10.heap.size hv rfl rfl 36 _ (heap_alloc_new _ _) HIV.out HVZ.out HVO.out ?_))
 obtain ⟨G,hG⟩:=zg (w10.heap.size)
 have HW:Hid (∀ Z:Array Value,((w10.alloc (.cells Z 36)).setRow w10.heap.size hv).heap[G]?=some (.cells hv 36 (0,0))∧Mv (fun _=>False) w10 ((w10.alloc (.cells Z 36)).setRow w10.heap.size hv)):=zh fun Z =>
  ⟨by rw [hG];exact setRow_heap _ _ _ _ _ _ (heap_alloc_new _ _),((Mv.refl _ _).alloc _).setRow (.inr (Nat.le_refl _)) _⟩
 rw [←hG]
 generalize hW:World.setRow _ _ _=w11
 obtain ⟨g11,m11⟩:=HW.out _
 rw [←hG,hW] at g11 m11
 have M11:=zh (M10.out.trans m11)
 have FI11:=zh (FI10.out.mv m11)
 have H11:=zbl m11 H10
 have F11:=zbl m11 F10
 have G11:=zh g11
 clear hW hG g11 m11 HW
 have heg:=eqg36
 have hel:=head_eql (hd0 k) (hd0 k) (leafP_length k _) (leafP_length k _)
 rw [←HHV.out,eq_self] at hel
 go_wp2_with ((go_at_call 19;have hch:=check_any2 k _ [f01 k,f02 k] w11 FI11.out (HE.out.mv M11.out (fun _ h=>h.elim)) (HENV.out.mv M11.out);rw [followE0] at hch;refine hch.mono ?_;rintro e w12 ⟨rfl,hm12⟩;have M12:=zh (M11.out.trans hm12);have H12:=zbl hm12 H11;have G12:=zbl hm12 G11;have cF:w12.cell? ⟨F,4,none⟩=some (.string r):=(by rw [cell_of_row _ _ _ _ _ _ ((hm12.block _ (lt_of_heap F11.out) id).trans F11.out)];exact F4.out);clear hch hm12);go_wp2_with ((refine wpList_load_rowG 36 (.tmp 9) rfl G rfl 36 hv (0,0) _ G12.out Tryz.underlying36 rfl HIV.out rfl ?_);go_wp2_with ((refine wpList_load_rowG 36 (.tmp 5) rfl H rfl 36 hv (0,0) _ H12.out Tryz.underlying36 rfl HIV.out rfl ?_);go_wp2_with fail)))
 go_ret
 exact ⟨rfl,M12.out⟩
abbrev Tri:=FactP × Value × Value
def tcells (t:Tri):List Value:=t.1.cells t.2.1 t.2.2
def flatT (ts:List Tri):List Value:=(ts.map tcells).flatten
def movT (ts:List Tri):List Tri:=ts.filter (fun t=>t.1.kind == 2)
def movesP (L:List FactP):List FactP:=L.filter (fun f=>f.kind == 2)
structure GoodT (w:World) (t:Tri):Prop where
 ok:t.1.Ok
 sm:t.1.Small
 p:HsIn w t.2.1 t.1.proof
 n:SlIn w t.2.2 t.1.note
theorem GoodT.mv {w w':World} {t:Tri} (h:GoodT w t) (hm:Mv (fun _=>False) w w'):GoodT w' t:=⟨h.ok,h.sm,h.p.mv hm (fun _ _ h=>h),h.n.mv hm (fun _ _ h=>h)⟩
theorem tris_to {w:World} {a:Option Addr} {L:List FactP} (h:∀ (j:Nat) f,L[j]?=some f→∃ g off,a=some ⟨g,off,none⟩∧FactIn w g (off+j * 75) f) :
  ∀ m,m≤L.length→∃ ts:List Tri,ts.map (·.1)=L.take m∧∀ (j:Nat) t,ts[j]?=some t→∃ g off,a=some ⟨g,off,none⟩∧FactAt w g (off+j * 75) t.1 t.2.1 t.2.2∧GoodT w t
 | 0,_=>⟨[],by simp,fun j t ht=>by simp at ht⟩
 | m+1,hm=>by
  obtain ⟨ts,h1,h2⟩:=tris_to h m (by omega)
  have hl:ts.length=m:=by have:=congrArg List.length h1;simpa [Nat.min_eq_left (show m≤L.length by omega)] using this
  have hlt:m<L.length:=by omega
  obtain ⟨g,off,e,ok,sm,pv,nv,hat,hp,hn⟩:=h m L[m] (List.getElem?_eq_getElem hlt)
  refine ⟨ts++[(L[m],pv,nv)],by rw [List.map_append,h1,List.take_succ_eq_append_getElem hlt];rfl,fun j t ht=>?_⟩
  by_cases hj:j<m
  ·rw [List.getElem?_append_left (by omega)] at ht;exact h2 j t ht
  ·have hlt2:=(List.getElem?_eq_some_iff.1 ht).1
   simp only [List.length_append,List.length_cons,List.length_nil] at hlt2
   have hjm:j=m:=by omega
   subst hjm
   rw [List.getElem?_append_right (by omega),hl,Nat.sub_self] at ht
   cases ht
   exact ⟨g,off,e,hat,ok,sm,hp,hn⟩
theorem tris {w:World} {a:Option Addr} {L:List FactP} (h:∀ (j:Nat) f,L[j]?=some f→∃ g off,a=some ⟨g,off,none⟩∧FactIn w g (off+j * 75) f) :
  ∃ ts:List Tri,ts.map (·.1)=L∧∀ (j:Nat) t,ts[j]?=some t→∃ g off,a=some ⟨g,off,none⟩∧FactAt w g (off+j * 75) t.1 t.2.1 t.2.2∧GoodT w t:=by
 obtain ⟨ts,h1,h2⟩:=tris_to h L.length (Nat.le_refl _)
 exact ⟨ts,by rw [h1,List.take_length],h2⟩
theorem tcells_len (t:Tri) (h:t.1.Ok):(tcells t).length=75:=FactP.cells_len _ _ _ h
theorem flatT_len:∀ (ts:List Tri),(∀ t∈ts,t.1.Ok)→(flatT ts).length=ts.length * 75
 | [],_=>rfl
 | t :: ts,h=>by
  have ih:=flatT_len ts (fun t ht=>h t (List.mem_cons_of_mem _ ht))
  have h1:=tcells_len t (h t (List.mem_cons_self ..))
  unfold flatT at ih ⊢
  rw [List.map_cons,List.flatten_cons,List.length_append,ih,h1,List.length_cons]
  omega
theorem flatT_at:∀ (ts:List Tri),(∀ t∈ts,t.1.Ok)→∀ (j:Nat) (t:Tri) (i:Nat),ts[j]?=some t→i<75→(flatT ts)[j * 75+i]?=(tcells t)[i]?
 | [],_,j,t,i,ht,_=>by simp at ht
 | s :: ts,h,0,t,i,ht,hi=>by
  cases ht
  have h1:=tcells_len s (h s (List.mem_cons_self ..))
  unfold flatT
  rw [List.map_cons,List.flatten_cons,List.getElem?_append_left (by omega),show 0 * 75+i=i by omega]
 | s :: ts,h,j+1,t,i,ht,hi=>by
  have ih:=flatT_at ts (fun t ht=>h t (List.mem_cons_of_mem _ ht)) j t i (by simpa using ht) hi
  have h1:=tcells_len s (h s (List.mem_cons_self ..))
  unfold flatT at ih ⊢
  rw [List.map_cons,List.flatten_cons,List.getElem?_append_right (by omega),h1,←ih]
  congr 1
  omega
theorem flatT_snoc (ts:List Tri) (t:Tri):flatT (ts++[t])=flatT ts++tcells t:=by
 unfold flatT
 simp
theorem FactsIn.of_owns {wr:World} {B:Nat} {v:Value} {ts:List Tri} (hg:∀ t∈ts,GoodT wr t) (h:wr.ownsRow B 61 75 v ts.length (flatT ts)):FactsIn wr v (ts.map (·.1)):=by
 obtain ⟨_,⟨rfl,h0⟩|⟨g,cap,cur,rfl,_,hgc,hc,_,_,ht⟩⟩:=h
 ·refine ⟨none,0,by rw [List.length_map,h0],by rw [List.length_map,h0];exact Nat.le_refl _,fun j f hf=>?_⟩
  have:=(List.getElem?_eq_some_iff.1 hf).1
  rw [List.length_map] at this
  omega
 ·refine ⟨some ⟨g,0,none⟩,cap,by rw [List.length_map],by rw [List.length_map];exact hc,fun j f hf=>?_⟩
  rw [List.getElem?_map] at hf
  cases htj:ts[j]? with
  | none=>rw [htj] at hf;cases hf
  | some t =>
   rw [htj] at hf
   cases hf
   have gt:=hg t (List.mem_of_getElem? htj)
   refine ⟨g,0,rfl,gt.ok,gt.sm,t.2.1,t.2.2,fun i u hu=>?_,gt.p,gt.n⟩
   have hi:i<75:=by have:=(List.getElem?_eq_some_iff.1 hu).1;rw [FactP.cells_len _ _ _ gt.ok] at this;exact this
   have hjl:j<ts.length:=(List.getElem?_eq_some_iff.1 htj).1
   have hlt:j * 75+i<ts.length * 75:=by omega
   have e:=flatT_at ts (fun t ht=>(hg t ht).ok) j t i htj hi
   rw [show (tcells t)[i]?=some u from hu,←ht,List.getElem?_take_of_lt hlt] at e
   rw [cell_of_row _ _ _ _ _ _ hgc,←Array.getElem?_toList,show 0+j * 75+i=j * 75+i by omega]
   exact e
theorem own_other {w w':World} {base:Nat} {e:TypeId} {sz:Nat} {v:Value} {n:Nat} {xs:List Value} {o:Obj} (h:w.ownsRow base e sz v n xs) (hg:(w.alloc o).grownBy w' v.ownBlock) {b:Nat} {C:Array Value} {E:TypeId} (hb:w.heap[b]?=some (.cells C E (0,0))) (hE:e≠E):w'.heap[b]?=some (.cells C E (0,0)):=by
 have hlt:=lt_of_heap hb
 have ha:(w.alloc o).heap[b]?=some (.cells C E (0,0)):=(Below.heap_alloc _ _ _ hlt).trans hb
 rw [hg.block b (by simp;omega) (fun hk=>?_)]
 ·exact ha
 ·rcases h.2 with ⟨rfl,_⟩|⟨g,c,cur,rfl,_,hgc,_⟩
  ·cases hk
  ·simp only [Value.ownBlock] at hk
   injection hk with hk
   subst hk
   rw [hgc] at hb
   injection hb with hb
   injection hb with _ hb _
   exact hE hb
def sideC (f:FactP) (pv nv mv:Value) (h:HeadP):Array Value:=(f.cells pv nv++[mv]++h.V).toArray
theorem places123:(match Tryz.prog.underlying 123 with|some (.struct fs)=>fs.toList.mapM (fun f=>(Tryz.prog.info? f.type).map fun i=>(f.offset,i.size))|_=>none)=some [(0,75),(75,1),(76,34)]:=by kernel_rfl
theorem zero123:∃ it,Tryz.prog.info? 123=some it∧it.zero=some (.agg Tryz.zeroCells123):=by
 have h:(Tryz.prog.info? 123).map (·.zero)=some (some (.agg Tryz.zeroCells123)):=by kernel_rfl
 cases hi:Tryz.prog.info? 123 with
 | none=>rw [hi] at h;cases h
 | some it=>rw [hi] at h;exact ⟨it,rfl,by simpa using h⟩
theorem z110_list:Tryz.zeroCells123.toList=z75.toList++[Value.slice none 0 0]++head0.V:=by kernel_rfl
theorem info123:(Tryz.prog.info? 123).map (·.size)=some 110:=by kernel_rfl
theorem z110_size:Tryz.zeroCells123.size=110:=by kernel_rfl
theorem built123_any (parts:List (Nat × Value)):Tryz.prog.built 123 parts=Instr.fill (([(0,75),(75,1),(76,34)]:List (Nat × Nat)).toArray[·]?) Tryz.zeroCells123 parts:=by
 obtain ⟨it,h1,h2⟩:=zero123
 have hp:=places123
 unfold Program.built
 rw [h1]
 cases hu:Tryz.prog.underlying 123 with
 | none=>rw [hu] at hp;cases hp
 | some d =>
  rw [hu] at hp
  cases d <;> try (cases hp;done)
  rename_i fs
  simp only at hp
  simp only [h2,hp]
  rfl
theorem yieldsIf_build {P:Program} {ops:Array Oper} {S:World→Prop} {op:Oper} {a:Act} (hw:Region.wanted op (yielded ops a.tmps)=true) (t:TypeId) (parts:Array (Nat × Operand)) (ho:op.op=.build t parts) (cells:Array Value)
  (hf:P.built t (parts.map fun (i,x)=>(i,a.eval x)).toList=some cells):YieldsIf P ops S op (.agg cells) a :=
 .inl ⟨hw,fun w _=>by
  unfold execOp
  simp only [ho,Sem.run_bind,run_build w t _ cells hf,Result.andThen_ok,Sem.run_pure]⟩
theorem fill_one (Z:Array Value) (c1:List Value) (hZ:Z.size=75) (h1:c1.length=75):Instr.fill (fun i=>some (i * 75,75)) Z [(0,.agg c1.toArray)]=some c1.toArray:=by
 have z:Z=Z.toList.toArray:=by simp
 rw [z]
 obtain ⟨L,hL⟩:=zg (Z.toList)
 have hl:L.length=75:=by rw [hL];simpa using hZ
 rw [←hL]
 rw [fill_f _ _ 0 0 _ _ (by simp [Value.cells,h1]) (by simp [Value.cells,h1,hl])]
 unfold Instr.fill
 simp [Value.cells,h1,hl]
theorem wp_slice54one {o:Oper} {a:Act} {w:World} {K:Act→World→Prop} {Q:Exit→Act→World→Prop} (x:Operand) (ho:o.op=.buildSlice 54 1 #[(0,x)]) (c1:List Value) (hx:a.eval x=.agg c1.toArray) (h1:c1.length=75)
  (h:K (a.put o.dst (.slice (some ⟨w.heap.size,0,none⟩) 1 1)) (w.alloc (.cells c1.toArray 61))):o.wp Tryz.prog a w K Q:=by
 obtain ⟨i0,hi0,hz0,hz1,hz2⟩:=info_parts Tryz.info61f
 refine wp_buildSlice 54 61 1 _ ho c1.toArray i0 (.agg z75) Tryz.underlying54 hi0 hz0 (by rw [hz1];decide) (by rw [hz1];decide) ?_ h
 rw [hz1]
 simp only [List.map_toArray,List.map_cons,List.map_nil,hx]
 exact fill_one _ c1 (by simp) h1
theorem wpList_slice54one {ops:Array Oper} {rest:List Oper} {o:Oper} {a:Act} {w:World} {Q:Exit→Act→World→Prop} (hgd:o.guard=none) (x:Operand) (ho:o.op=.buildSlice 54 1 #[(0,x)]) (c1:List Value) (hx:a.eval x=.agg c1.toArray) (h1:c1.length=75)
  (h:wpList Tryz.prog ops Q rest (a.put o.dst (.slice (some ⟨w.heap.size,0,none⟩) 1 1)) (w.alloc (.cells c1.toArray 61))):wpList Tryz.prog ops Q (o :: rest) a w :=
 wpList_plain hgd fun _ hK=>wp_slice54one x ho c1 hx h1 (hK _ _ h)
theorem built_side {fl hl:List Value} (h1:fl.length=75) (h2:hl.length=34):Tryz.prog.built 123 [(0,.agg fl.toArray),(2,.agg hl.toArray)]=some (fl++[Value.slice none 0 0]++hl).toArray:=by
 have z:Tryz.zeroCells123=(z75.toList++[Value.slice none 0 0]++head0.V).toArray:=by rw [←z110_list]
 have l0:=head0_len
 have l3:z75.toList.length=75:=by simp [z75_size]
 rw [built123_any,z]
 obtain ⟨O,hO⟩:=zg (head0.V)
 obtain ⟨O2,hO2⟩:=zg (z75.toList)
 rw [←hO] at l0 ⊢
 rw [←hO2] at l3 ⊢
 rw [fill_f _ _ 0 0 _ _ (by simp [Value.cells,h1]) (by simp [Value.cells,h1,l3]),fill_f _ _ 2 76 _ _ (by simp [Value.cells,h2]) (by simp [Value.cells,h1,h2,l0,l3])]
 unfold Instr.fill
 simp [Value.cells,h1,h2,l0,l3,List.take_append,List.drop_append]
 rw [List.take_of_length_le (by omega),List.drop_eq_nil_of_le (show fl.length≤110 by omega),List.drop_eq_nil_of_le (show O.length≤34 by omega)]
 simp
set_option maxRecDepth 100000 in
set_option maxHeartbeats 3200000 in
theorem sideOf_any (v:Value) (L:List FactP) (i:Nat) (f0:FactP) (hd:HeadP) (w:World) (hL:FactsIn w v L) (hi:L[i]?=some f0) (hb:L.length≤1048576) (hr:hd.root.length=32) :
  Calls Tryz.prog 60 #[v,.int .i64 i,.agg hd.V.toArray] w fun e w'=>∃ pv nv mv,e=.returned (.agg (sideC f0 pv nv mv hd))∧HsIn w pv f0.proof∧SlIn w nv f0.note∧FactsIn w' mv (movesP (L.drop i))∧Mv (fun _=>False) w w':=by
 obtain ⟨a,c,hv,hLc,hLj⟩:=hL
 subst hv
 obtain ⟨ts,hts,htj⟩:=tris hLj
 have hmv:movesP (L.drop i)=(movT (ts.drop i)).map (·.1):=by
  rw [←hts];unfold movesP movT;rw [←List.map_drop,List.filter_map];rfl
 rw [hmv]
 obtain ⟨n,hn⟩:=zg (L.length)
 have hnt:n=ts.length:=by rw [hn,←hts,List.length_map]
 rw [←hn] at hLc hb ⊢
 have hin:i<n:=by rw [hn];exact (List.getElem?_eq_some_iff.1 hi).1
 have HN:=zh hnt
 have HTJ:=zh htj
 obtain ⟨t0,ht0⟩:∃ t,ts[i]?=some t:=⟨ts[i]'(by rw [←hnt];exact hin),List.getElem?_eq_getElem _⟩
 have hf0:t0.1=f0:=by
  have e:L[i]?=some t0.1:=by rw [←hts,List.getElem?_map,ht0];rfl
  rw [e] at hi;cases hi;rfl
 subst hf0
 obtain ⟨g,off,ha,hat,ok,sm,hp,hnn⟩:=htj i t0 ht0
 subst ha
 obtain ⟨f,pv,nv⟩:=t0
 simp only at hat ok sm hp hnn hi
 refine Calls.mono (R:=fun e w'=>∃ mv,e=.returned (.agg (sideC f pv nv mv hd))∧FactsIn w' mv ((movT (ts.drop i)).map (·.1))∧Mv (fun _=>False) w w') ?_ (fun e w' ⟨mv,h1,h2,h3⟩=>⟨pv,nv,mv,h1,hp,hnn,h2,h3⟩)
 have hsl:∀ t,ts[i+t]?=(ts.drop i)[t]?:=fun t=>by rw [List.getElem?_drop]
 obtain ⟨td,htd⟩:=zg (ts.drop i)
 have HTD:Hid (td.length=n - i):=zh (by rw [htd,List.length_drop,HN.out])
 rw [←htd]
 have HTA:Hid (∀ (j:Nat) t,td[j]?=some t→FactAt w g (off+i * 75+j * 75) t.1 t.2.1 t.2.2∧GoodT w t):=zh fun j t ht=>by
  rw [htd,←hsl] at ht
  obtain ⟨g2,off2,e,h1,h2⟩:=HTJ.out _ t ht
  cases e
  exact ⟨by rw [show off+i * 75+j * 75=off+(i+j) * 75 by omega];exact h1,h2⟩
 clear hsl htd
 obtain ⟨fl,hfl⟩:=zg (f.cells pv nv)
 obtain ⟨hl,hhl⟩:=zg (hd.V)
 have HSC:Hid (∀ mv,sideC f pv nv mv hd=(fl++[mv]++hl).toArray):=zh fun mv=>by unfold sideC;rw [hfl,hhl]
 have hfll:fl.length=75:=by rw [hfl];exact FactP.cells_len _ _ _ ok
 have hhvl:hl.length=34:=by rw [hhl];exact HeadP.V_len _ hr
 obtain ⟨pa,pc,hpv⟩:=hp.shape
 obtain ⟨na,nc,hnv⟩:=hnn.shape
 have HONE:Hid (fl.toArray.all (·.oneCell')=true):=zh (by rw [hfl,hpv,hnv];exact fact_one f _ _ _ _ _ _)
 have HHO:Hid (hl.toArray.all (·.oneCell')=true):=zh (by rw [hhl];exact head_one _)
 have HAT:Hid (∀ (j:Nat) v,fl[j]?=some v→w.cell? ⟨g,off+i * 75+j,none⟩=some v):=zh fun j v hj=>hat j v (by rw [←hfl];exact hj)
 have HFL:=zh hfll
 have HHV:=zh hhvl
 have HI61:Hid ((Tryz.prog.info? 61).map (·.size)=some fl.length):=zh (by rw [hfll];exact info61)
 have HI36:Hid ((Tryz.prog.info? 36).map (·.size)=some hl.length):=zh (by rw [hhvl];exact info36)
 rw [←hhl]
 have hbs:=built_side hfll hhvl
 clear hts htj hmv hn hnt hi ht0 hfl hhl hfll hhvl hpv hnv hat ok sm hp hnn hLj hr
 go_enter Tryz.func60,Tryz.ntmps60
 go_upto_region 1 with fail
 obtain ⟨SD,hSD⟩:∃ F:Value→Array Value,F=fun mv=>(fl++[mv]++hl).toArray:=⟨_,rfl⟩
 have HSD:=zh hSD
 have HBS:Hid (Tryz.prog.built 123 [(0,.agg fl.toArray),(2,.agg hl.toArray)]=some (SD (.slice none 0 0))):=zh (by rw [hSD];exact hbs)
 clear hbs
 have HS75:Hid (∀ v:Value,(SD v)[75]?=some v):=zh fun v=>by rw [hSD];show (fl++[v]++hl).toArray[75]?=some v;simp [HFL.out,List.getElem?_append]
 have HSS:Hid (∀ u v:Value,(SD u).setIfInBounds 75 v=SD v):=zh fun u v=>by rw [hSD];show (fl++[u]++hl).toArray.setIfInBounds 75 v=(fl++[v]++hl).toArray;simp [HFL.out,List.set_append]
 have HSZ:Hid (∀ v:Value,(Tryz.prog.info? 123).map (·.size)=some (SD v).size):=zh fun v=>by rw [hSD];show _=some (fl++[v]++hl).toArray.size;rw [show (fl++[v]++hl).toArray.size=110 by simp [HFL.out,HHV.out]];exact info123
 have HSY:Hid (∀ v:Value,Tryz.zeroCells123.size=(SD v).size):=zh fun v=>by rw [hSD];show _=(fl++[v]++hl).toArray.size;rw [show (fl++[v]++hl).toArray.size=110 by simp [HFL.out,HHV.out]];exact z110_size
 have HSO:Hid (∀ (a:Option Addr) (x y:Nat),(SD (Value.slice a x y)).all (·.oneCell')=true):=zh fun a x y=>by rw [hSD];show (fl++[Value.slice a x y]++hl).toArray.all (·.oneCell')=true;have q1:=HONE.out;have q2:=HHO.out;simp only [List.all_toArray,List.all_append,Bool.and_eq_true] at q1 q2 ⊢;exact ⟨⟨q1,rfl⟩,q2⟩
 clear hSD
 have hm1:Mv (fun _=>False) w ((w.alloc (Obj.cells hl.toArray 36)).alloc (Obj.cells Tryz.zeroCells123 123)):=((Mv.refl _ _).alloc _).alloc _
 obtain ⟨B5,hB5⟩:=zg (w.heap.size)
 have hsz5:(w.alloc (Obj.cells hl.toArray 36)).heap.size=B5+1:=by rw [hB5];simp
 have hb5:((w.alloc (Obj.cells hl.toArray 36)).alloc (Obj.cells Tryz.zeroCells123 123)).heap[B5]?=some (.cells hl.toArray 36 (0,0)):=(Below.heap_alloc _ _ _ (by rw [hsz5];omega)).trans (by rw [hB5];exact heap_alloc_new _ _)
 have hb6:((w.alloc (Obj.cells hl.toArray 36)).alloc (Obj.cells Tryz.zeroCells123 123)).heap[B5+1]?=some (.cells Tryz.zeroCells123 123 (0,0)):=by rw [←hsz5];exact heap_alloc_new _ _
 rw [←hB5]
 generalize (w.alloc (Obj.cells hl.toArray 36)).alloc (Obj.cells Tryz.zeroCells123 123)=w1 at hm1 hb5 hb6 ⊢
 have M1:=zh hm1
 have B5h:=zh hb5
 have B6h:=zh hb6
 have HB5:=zh hB5
 have HA1:Hid (∀ (j:Nat) v,fl[j]?=some v→w1.cell? ⟨g,off+i * 75+j,none⟩=some v):=zh fun j v hj=>(hm1.cell (p:=⟨g,off+i * 75+j,none⟩) (World.block_lt_of_cell? _ _ (HAT.out j v hj)) id).trans (HAT.out j v hj)
 have HH1:Hid (∀ (j:Nat) v,hl[j]?=some v→w1.cell? ⟨B5,0+j,none⟩=some v):=zh fun j v hj=>cell_of_heap hb5 _ (by rw [Nat.zero_add];simpa using hj)
 clear hm1 hb5 hb6 hB5 hsz5
 have hinc:(i:Int)<n:=by omega
 refine wp_region_noPanic ?_
 refine wp_region_held_drew (S:=(fun w'=>Mv (fun _=>False) w1 w')) (by kernel_rfl) ((Mv.refl _ _).drew) (fun hHeld=>?_)
 refine zt 0 (.slice (some ⟨g,off,none⟩) n c) rfl (fun _ hS=>by go_simp) hHeld ?_
 try walk_nrm
 refine zt 1 (.int .i64 i) rfl (fun _ hS=>by go_simp) hHeld ?_
 try walk_nrm
 refine zt 2 (.pointer (some ⟨g,off+i * 75,none⟩)) rfl (fun _ hS=>by go_simp) hHeld ?_
 try walk_nrm
 refine zj 3 (.agg fl.toArray) rfl (yieldsIf_load_mid (by rfl) 61 _ rfl g (off+i * 75) rfl fl _ (fun _ h=>fun t v hv=>(Mv.cell h (p:=⟨g,off+i * 75+t,none⟩) (World.block_lt_of_cell? _ _ (HA1.out t v hv)) id).trans (HA1.out t v hv)) Tryz.underlying61 rfl HI61.out) hHeld ?_
 try walk_nrm
 refine zj 4 (.agg hl.toArray) rfl (yieldsIf_load_mid (by rfl) 36 _ rfl B5 0 rfl hl _ (fun _ h=>fun t v hv=>(Mv.cell h (p:=⟨B5,0+t,none⟩) (World.block_lt_of_cell? _ _ (HH1.out t v hv)) id).trans (HH1.out t v hv)) Tryz.underlying36 rfl HI36.out) hHeld ?_
 try walk_nrm
 refine zj 5 (.agg (SD (.slice none 0 0))) rfl (yieldsIf_build (by rfl) 123 _ rfl _ (by simp only [List.map_toArray,List.map_cons,List.map_nil];exact HBS.out)) hHeld ?_
 try walk_nrm
 refine zo 6 rfl fun K' hK=>?_
 unfold Oper.wp execOp
 go_simp
 have hm:Mv (fun _=>False) w1 (w1.alloc (.cells Tryz.zeroCells123 123)).drew:=((Mv.refl _ _).alloc _).drew
 have hb:(w1.alloc (.cells Tryz.zeroCells123 123)).drew.heap[w1.heap.size]?=some (.cells Tryz.zeroCells123 123 (0,0)):=heap_alloc_new w1 _
 obtain ⟨S7,hS7⟩:=zg (w1.heap.size)
 rw [←hS7] at hb ⊢
 have HS7:=zh hS7
 generalize (w1.alloc (.cells Tryz.zeroCells123 123)).drew=w2 at hm hb ⊢
 have B7:=zh hb
 clear hb hS7
 refine hK.out _ _ hm (fun hHeld=>?_)
 clear hK K'
 try walk_nrm
 clear hm
 refine zo 7 rfl fun K' hK=>?_
 refine wp_store_row 123 (.tmp 7) (.tmp 15) rfl S7 (SD (.slice none 0 0)) rfl rfl 123 Tryz.zeroCells123 B7.out (HSZ.out _) (HSY.out _) (HSO.out _ _ _) ?_
 have hs:=hHeld.setRow (.inr (show w1.heap.size≤S7 by rw [HS7.out];exact Nat.le_refl _)) (SD (.slice none 0 0))
 have r7:=setRow_heap _ _ _ (SD (.slice none 0 0)) _ _ B7.out
 generalize w2.setRow S7 (SD (.slice none 0 0))=w3 at hs r7 ⊢
 have R7:=zh r7
 have M3:=zh (M1.out.trans hs)
 have r6:=zbl hs B6h
 clear r7
 refine hK.out _ _ hs (fun hHeld=>?_)
 clear hK K'
 try walk_nrm
 clear hs hHeld
 refine zd ?_
 have hlow:w.heap.size≤S7:=by have:=M1.out.size;have:=HS7.out;omega
 have HLOW:=zh hlow
 have HB67:Hid (B5+1<S7):=zh (by have:=lt_of_heap B6h.out;have:=HS7.out;omega)
 clear hlow
 go_wp2_with fail
 obtain ⟨i0,hi0,hz0,hz1,hz2⟩:=info_parts Tryz.info61f
 go_loopw [20] (fun ix wr=>∃ (j:Nat) (ma:Option Addr) (mn mc:Nat),j≤n - i∧ix=.int .i64 j∧wr.ownsRow w.heap.size 61 75 (.slice ma mn mc) (movT (td.take j)).length (flatT (movT (td.take j)))∧wr.heap[S7]?=some (.cells (SD (.slice ma mn mc)) 123 (0,0))∧wr.heap[B5+1]?=some (.cells Tryz.zeroCells123 123 (0,0))∧Mv (fun _=>False) w wr) (fun ix _=>(n - i) - (intOf ix).toNat)
 case atStart=>exact ⟨0,none,0,0,by omega,rfl,World.ownsRow_nil _ _ _ _,R7.out,r6.out,M3.out⟩
 case round =>
  obtain ⟨j,ma,mn,mc,hj,rfl,hown,h7,h6,hm⟩:=hrel
  have OWN:=zh hown
  have R7w:=zh h7
  have R6w:=zh h6
  have MW:=zh hm
  have hws:=hm.size
  have hsz7:=lt_of_heap h7
  clear hown h7 h6 hm
  by_cases hjn:j<n - i
  ·obtain ⟨t,ht⟩:∃ t,td[j]?=some t:=⟨td[j]'(by rw [HTD.out];exact hjn),List.getElem?_eq_getElem _⟩
   obtain ⟨hat,hgt⟩:=HTA.out j t ht
   have hts:td.take (j+1)=td.take j++[t]:=by rw [List.take_succ_eq_append_getElem (by rw [HTD.out];exact hjn)];congr 1;rw [List.getElem?_eq_getElem (by rw [HTD.out];exact hjn)] at ht;injection ht with e;rw [e]
   obtain ⟨fc,hfc⟩:=zg (tcells t)
   have hfcl:fc.length=75:=by rw [hfc];exact tcells_len _ hgt.ok
   have hkd:fc[0]?=some (.int .i64 t.1.kind):=by rw [hfc];rfl
   have HFC:Hid (∀ (u:Nat) v,fc[u]?=some v→wr.cell? ⟨g,off+i * 75+j * 75+u,none⟩=some v):=zh fun u v hu=>by
    have:=hat u v (by rw [hfc] at hu;exact hu)
    exact (MW.out.cell (p:=⟨g,off+i * 75+j * 75+u,none⟩) (World.block_lt_of_cell? _ _ this) id).trans this
   have HONE2:Hid (fc.toArray.all (·.oneCell')=true):=zh (by
    obtain ⟨a1,a2,e1⟩:=hgt.p.shape
    obtain ⟨a3,a4,e2⟩:=hgt.n.shape
    rw [hfc];unfold tcells;rw [e1,e2];exact fact_one _ _ _ _ _ _ _)
   have HI61b:Hid ((Tryz.prog.info? 61).map (·.size)=some fc.length):=zh (by rw [hfcl];exact info61)
   have HI61c:Hid ((Tryz.prog.info? 61).map (·.size)=some fc.toArray.size):=zh (by rw [List.size_toArray,hfcl];exact info61)
   have HZZ:Hid (75=fc.toArray.size):=zh (by rw [List.size_toArray,hfcl])
   have HFCL:=zh hfcl
   have HFCE:=zh hfc
   have HTS:=zh hts
   have HGT:=zh hgt
   have HKD:=zh hkd
   have hjc:(j:Int)<((n - i:Nat):Int):=by omega
   have hnc2:n - i≤c - i:=by omega
   have HMT:Hid (movT (td.take (j+1))=if t.1.kind=2 then movT (td.take j)++[t] else movT (td.take j)):=zh (by
    rw [hts];unfold movT;rw [List.filter_append]
    by_cases h2:t.1.kind=2
    ·rw [if_pos h2];simp [h2]
    ·rw [if_neg h2];simp [h2])
   clear hat hgt hts hfc hfcl hkd ht
   go_upto_region 5 with (refine wpList_load_cellsAt rfl 61 (.tmp 22) rfl g (off+i * 75+j * 75) rfl fc _ HFC.out Tryz.underlying61 rfl HI61b.out ?_;go_upto_region 5 with (refine wpList_store_row rfl 61 _ _ rfl wr.heap.size fc.toArray rfl rfl 61 _ (heap_alloc_new _ _) HI61c.out HZZ.out HONE2.out ?_))
   obtain ⟨B9,hB9⟩:=zg (wr.heap.size)
   have HX:Hid (∀ Z:Array Value,((wr.alloc (.cells Z 61)).setRow wr.heap.size fc.toArray).heap[B9]?=some (.cells fc.toArray 61 (0,0))∧((wr.alloc (.cells Z 61)).setRow wr.heap.size fc.toArray).heap[S7]?=some (.cells (SD (.slice ma mn mc)) 123 (0,0))∧((wr.alloc (.cells Z 61)).setRow wr.heap.size fc.toArray).heap[B5+1]?=some (.cells Tryz.zeroCells123 123 (0,0))∧Mv (fun _=>False) wr ((wr.alloc (.cells Z 61)).setRow wr.heap.size fc.toArray)):=zh fun Z=>by
    have hm:Mv (fun _=>False) wr ((wr.alloc (.cells Z 61)).setRow wr.heap.size fc.toArray):=((Mv.refl _ _).alloc _).setRow (.inr (Nat.le_refl _)) _
    exact ⟨by rw [hB9];exact setRow_heap _ _ _ _ _ _ (heap_alloc_new _ _),(hm.block _ (lt_of_heap R7w.out) id).trans R7w.out,(hm.block _ (lt_of_heap R6w.out) id).trans R6w.out,hm⟩
   have HB97:Hid (S7<B9):=zh (by rw [hB9];exact lt_of_heap R7w.out)
   rw [←hB9]
   generalize hW:World.setRow _ _ _=w5
   obtain ⟨h9,h7,h6,hm5⟩:=HX.out _
   rw [←hB9,hW] at h9 h7 h6 hm5
   have R9:=zh h9
   have R75:=zh h7
   have R65:=zh h6
   have M5:=zh hm5
   have OWN5:=zh (owns_mv OWN.out hm5 (fun _ _ _ h=>h))
   have hw5:=hm5.size
   have hk9:=cell_of_heap h9 0 (by rw [List.getElem?_toArray];exact HKD.out)
   clear HX hW hB9 h9 h7 h6 hm5
   obtain ⟨kd,hkd⟩:=zg (t.1.kind)
   rw [←hkd] at hk9
   have HKD2:=zh hkd
   clear hkd
   by_cases hk2:kd=2
   ·subst hk2
    go_upto_region 6 with fail
    have hc75:w5.cell? ⟨S7,75,none⟩=some (.slice ma mn mc):=cell_of_heap R75.out 75 (HS75.out _)
    have f75:=free_of_heap R75.out 75
    have HNW:Hid (∀ (t:Nat) u,fc[t]?=some u→(w5.alloc (.cells fc.toArray 61)).cell? ((⟨w5.heap.size,0,none⟩:Addr).add t)=some u):=zh fun t u hu=>by
     have hj:(w5.alloc (.cells fc.toArray 61)).cell? ⟨w5.heap.size,0+t,none⟩=some u:=by
      rw [cell_of_row _ _ _ _ _ _ (heap_alloc_new w5 (.cells fc.toArray 61)),Nat.zero_add];simpa using hu
     unfold Addr.add
     split
     ·rename_i h0;subst h0;exact hj
     ·exact hj
    obtain ⟨N,hN⟩:=zg ((movT (td.take j)).length)
    have hNb:N≤1048576:=by
     rw [hN]
     have h1:=List.length_filter_le (fun t:Tri=>t.1.kind == 2) (td.take j)
     have h2:(td.take j).length≤j:=List.length_take_le _ _
     have h3:(movT (td.take j)).length≤j:=Nat.le_trans h1 h2
     omega
    have HNN:=zh hN
    have OWN6:=OWN5.out
    rw [←hN] at OWN6
    have OWN7:=zh OWN6
    clear OWN6 hN
    have hsz0:w.heap.size≤w5.heap.size:=by have:=MW.out.size;omega
    have HFO:Hid (∀ u∈fc,u.oneCell'=true):=zh fun u hu=>by have:=HONE2.out;rw [List.all_toArray] at this;exact List.all_eq_true.1 this u hu
    have HFCLM:Hid (fc.length=1 * 75):=zh (by rw [HFCL.out])
    go_wp2_with ((refine wpList_load_row rfl 61 (.tmp 9) rfl B9 rfl 61 fc.toArray (0,0) _ R9.out Tryz.underlying61 rfl HI61c.out ?_);go_wp2_with ((refine wpList_slice54one rfl (.tmp 29) rfl fc rfl HFCL.out ?_);go_wp2_with (at_builtin;go_loud (refine wpList_append_own _ rfl _ _ 54 rfl w.heap.size 61 i0 (.agg z75) 75 224 Tryz.underlying54 hi0 hz0 hz1 hz2 rfl (by decide) _ _ _ rfl (OWN7.out.alloc _) ⟨w5.heap.size,0,none⟩ 1 1 fc rfl HFCLM.out HNW.out HFO.out (by unfold maxLen;omega) (by omega) (by simp;omega) ?_);intro v6 w6 hown6 hgrow6 hnil6;have hm6:Mv (fun b=>w.heap.size≤b) w5 w6:=((Mv.refl _ _).alloc _).grown hgrow6 (fun k hk=>.inl (OWN7.out.lt k hk).1);have OWN8:=zh hown6;have HG6:=zh hgrow6;have HM6:=zh hm6;obtain ⟨a6,c6,hs6⟩:=owns_shape hown6;subst hs6;have R76:=zh (own_other OWN7.out hgrow6 R75.out (by decide));have f76:=free_of_heap R76.out 75;have c76:=cell_of_heap R76.out 75 (HS75.out _);clear hown6 hgrow6 hnil6 hm6 hc75 f75)))
    have HMT2:movT (td.take (j+1))=movT (td.take j)++[t]:=by rw [HMT.out,if_pos HKD2.out.symm]
    refine ⟨⟨j+1,a6,N+1,c6,by omega,by go_num,?_,?_,?_,?_⟩,by simp [intOf];omega⟩
    ·have q:=OWN8.out
     rw [HMT2,flatT_snoc,←HFCE.out,List.length_append,←HNN.out]
     exact owns_setCellX q S7 75 _ R76.out (by decide)
    ·rw [heap_setCell_same R76.out,HSS.out]
    ·exact (heap_setCell_other (by have:=HB67.out;omega) _).trans (own_other OWN7.out HG6.out R65.out (by decide))
    ·exact (((MW.out.trans M5.out).trans' HM6.out (fun i hi h=>by omega))).setCell (p:=⟨S7,75,none⟩) (.inr HLOW.out) _
   ·have hk2n:¬ (kd=2):=hk2
    go_wp2_with fail
    have HMT2:movT (td.take (j+1))=movT (td.take j):=by rw [HMT.out,if_neg (fun e=>hk2 (by rw [HKD2.out];exact e))]
    exact ⟨⟨j+1,ma,mn,mc,by omega,by go_num,by rw [HMT2];exact OWN5.out,R75.out,R65.out,MW.out.trans M5.out⟩,by simp [intOf];omega⟩
  ·have hjn2:n - i=j:=by omega
   subst hjn2
   go_wp2_with ((refine wpList_load_row rfl 123 (.tmp 7) rfl S7 rfl 123 (SD (.slice ma mn mc)) (0,0) _ R7w.out Tryz.underlying123 rfl (HSZ.out _) ?_);go_wp2_with (refine wpList_store_row rfl 123 _ _ rfl (B5+1) (SD (.slice ma mn mc)) rfl rfl 123 _ R6w.out (HSZ.out _) (HSY.out _) (HSO.out _ _ _) ?_))
   have hfull:td.take (n - i)=td:=List.take_of_length_le (by rw [HTD.out];exact Nat.le_refl _)
   refine bodyPost_ret (results_cell_row (fn:=Tryz.f60) rfl _ _ (B5+1) 123 (SD (.slice ma mn mc)) (0,0) _ rfl (setRow_heap _ _ _ _ _ _ R6w.out) Tryz.underlying123 rfl (HSZ.out _)) rfl ?_
   have q:=OWN.out
   rw [hfull] at q
   have q2:=owns_setRowX q (B5+1) (SD (.slice ma mn mc)) R6w.out (by decide)
   have hms:Mv (fun _=>False) w (wr.setRow (B5+1) (SD (.slice ma mn mc))):=MW.out.setRow (.inr (by have:=HB5.out;omega)) _
   refine ⟨.slice ma mn mc,by rw [HSC.out,HSD.out],FactsIn.of_owns (fun t ht=>?_) q2,hms⟩
   have ht2:t∈td:=(List.mem_filter.1 ht).1
   obtain ⟨jj,hjj⟩:=List.mem_iff_getElem?.1 ht2
   exact (HTA.out jj t hjj).2.mv hms
end Go.Proofs.YtdfdikpklddnhaaGreatDoor
