/- Of the proof of EvidenceJudges, second form: for values of bulk at most 1048576. (Ej25) -/
import Derived.Test.YtdfdikpklddnhaaGreatDoorEj01
import Derived.Test.YtdfdikpklddnhaaGreatDoorEj24
import Derived.Lib.ConvBytes
namespace Go.Proofs.YtdfdikpklddnhaaGreatDoor
open Go.RowKit
set_option linter.unusedSimpArgs false
def headV (o:ByteArray) (n:Int) (root:Bs):List Value:=.string o :: .int .i64 n :: root.map byteV
set_option maxRecDepth 100000 in
set_option maxHeartbeats 1600000 in
theorem stands_any (k:Int) (pv:Value) (p:List Bs) (o:ByteArray) (n:Int) (root:Bs) (i:Int) (r:ByteArray) (w:World) (hp:HsIn w pv p) (hr:root.length=32) (hpl:p.length≤1099511627776) (hrl:r.size≤549755813888) (he:EnvH w) :
  Calls Tryz.prog 43 #[.int .i64 k,pv,.agg (headV o n root).toArray,.int .i64 i,.string r] w fun e w' =>
   e=.returned (.bool (checkAns k n i root (leafP k r.data.toList) p == 0))∧Mv (fun _=>False) w w':=by
 obtain ⟨hd,hhd⟩:=zg ((headV o n root).toArray)
 rw [←hhd]
 obtain ⟨rv,hrv⟩:=zg (root.map byteV)
 have hh:(w.alloc (.cells hd 36)).heap[w.heap.size]?=some (.cells hd 36 (0,0)):=heap_alloc_new _ _
 have hm:Mv (fun _=>False) w (w.alloc (.cells hd 36)):=(Mv.refl _ _).alloc _
 have HP:=zh hp
 have HR:=zh hr
 have HE:=zh he
 have HRV:=zh hrv
 have HPL:=zh hpl
 have HRL:=zh hrl
 have HIL:Hid ((Tryz.prog.info? 34).map (·.size)=some rv.length):=zh (by rw [hrv,List.length_map,hr];exact info34)
 have hrg:∀ W:World,W.heap[w.heap.size]?=some (.cells hd 36 (0,0))→W.cell? ⟨w.heap.size,1,none⟩=some (.int .i64 n)∧W.rangeAt w.heap.size 2 rv:=fun W h=>by
  rw [hhd] at h
  refine ⟨by rw [cell_of_row _ _ _ _ _ _ h];rfl,fun j v hv=>?_⟩
  rw [cell_of_row _ _ _ _ _ _ h]
  rw [hrv] at hv
  rw [List.getElem?_toArray,show 2+j=j+1+1 by omega]
  exact hv
 have HRG:=zh hrg
 obtain ⟨A,hA⟩:=zg (w.heap.size)
 rw [←hA] at HRG hh
 clear hhd hrv hp hr he hpl hrl hrg
 go_enter Tryz.func43,Tryz.ntmps43
 go_upto_region 1 with fail
 rw [←hA]
 generalize w.alloc (.cells hd 36)=W1 at hh hm ⊢
 have HH:=zh hh
 have HM:=zh hm
 clear hh hm hA
 refine wp_region_noPanic ?_
 refine wp_region_held_drew (S:=fun w'=>w'.heap[A]?=some (.cells hd 36 (0,0))) (by kernel_rfl) HH.out (fun hHeld=>?_)
 refine zt 0 (.int .i64 k) rfl (fun _ hS=>by go_simp) hHeld ?_
 try walk_nrm
 refine zt 1 pv rfl (fun _ hS=>by go_simp) hHeld ?_
 try walk_nrm
 refine zt 2 (.pointer (some ⟨A,1,none⟩)) rfl (fun _ hS=>by go_simp) hHeld ?_
 try walk_nrm
 refine zt 3 (.int .i64 n) rfl (fun _ hS=>by have c1:=(HRG.out _ hS).1;go_simp) hHeld ?_
 try walk_nrm
 refine zt 4 (.pointer (some ⟨A,2,none⟩)) rfl (fun _ hS=>by go_simp) hHeld ?_
 try walk_nrm
 refine zj 5 (.agg rv.toArray) rfl (yieldsIf_load_mid (by rfl) 34 _ rfl A 2 rfl rv _ (fun _ h=>(HRG.out _ h).2) Tryz.underlying34 rfl HIL.out) hHeld ?_
 try walk_nrm
 refine zt 6 (.int .i64 i) rfl (fun _ hS=>by go_simp) hHeld ?_
 try walk_nrm
 refine zt 7 (.int .i64 k) rfl (fun _ hS=>by go_simp) hHeld ?_
 try walk_nrm
 refine zt 8 (.string r) rfl (fun _ hS=>by go_simp) hHeld ?_
 try walk_nrm
 refine zo 9 rfl fun K' hK=>?_
 unfold Oper.wp execOp
 have hcv:=Go.Lib.run_convert_string_bytes (P:=Tryz.prog) W1.drew 9 26 5 r Tryz.underlying9 Tryz.underlying26 Tryz.underlying5
 have hgc:=grownCap_ge W1.drew r.size 0 5
 obtain ⟨W2,hW2⟩:=zg (Go.Lib.bytesWorld W1.drew 5 r)
 obtain ⟨cap,hcap⟩:=zg (grownCap W1.drew r.size 0 5)
 obtain ⟨B,hB⟩:=zg (W1.drew.heap.size)
 rw [←hW2,←hcap,←hB] at hcv
 rw [←hcap] at hgc
 have hl:r.data.toList.length=r.size:=by simp
 have hsl:SlIn W2 (.slice (some ⟨B,0,none⟩) r.size cap) r.data.toList:=.inr ⟨B,0,cap,by rw [hl],by rw [hl];exact hgc,fun j b hj=>by
  have hjl:j<r.size:=by rw [←hl];exact (List.getElem?_eq_some_iff.1 hj).1
  have:=Go.Lib.bytesWorld_cell W1.drew 5 r j hjl
  rw [←hW2,←hB] at this
  rw [Nat.zero_add,this,List.getD_eq_getElem?_getD,hj]
  rfl,by rw [hW2,Go.Lib.bytesWorld_size,hB];omega⟩
 have hm2:Mv (fun _=>False) W1.drew W2:=⟨by rw [hW2];rfl,by rw [hW2];rfl,by rw [hW2];rfl,by rw [hW2,Go.Lib.bytesWorld_size];omega,fun j hj _=>by rw [hW2];exact Go.Lib.bytesWorld_at_old W1.drew 5 r j hj⟩
 have HM2:Hid (Mv (fun _=>False) w W2):=zh (HM.out.drew.trans hm2)
 have HSL:=zh hsl
 have hs2:W2.heap[A]?=some (.cells hd 36 (0,0)):=(hm2.block A (lt_of_heap hHeld) id).trans hHeld
 clear hW2 hcap hB hgc hl hsl hm2
 go_simp
 refine hK.out _ _ hs2 (fun hHeld=>?_)
 clear hK K' hs2 hcv
 try walk_nrm
 refine zo 10 rfl fun K' hK=>?_
 unfold Oper.wp execOp
 go_simp
 refine (leafHash_any k _ r.data.toList W2 HSL.out (by simp;exact HRL.out) (HE.out.mv HM2.out (fun _ h=>h.elim))).mono ?_
 rintro e W3 ⟨rfl,hm3⟩
 have HM3:=zh (HM2.out.trans hm3)
 have hs3:W3.heap[A]?=some (.cells hd 36 (0,0)):=(hm3.block A (lt_of_heap hHeld) id).trans hHeld
 clear hm3
 refine hK.out _ _ hs3 (fun hHeld=>?_)
 clear hK K' hs3
 try walk_nrm
 refine zo 11 rfl fun K' hK=>?_
 unfold Oper.wp execOp
 go_simp
 have hck:=checkRecord_any k n i pv p root (leafP k r.data.toList) W3 (HP.out.mv HM3.out (fun _ _ h=>h)) HR.out (leafP_length _ _) HPL.out (HE.out.mv HM3.out (fun _ h=>h.elim))
 rw [show hashV root=.agg rv.toArray by rw [HRV.out];rfl] at hck
 refine hck.mono ?_
 rintro e W4 ⟨rfl,hm4⟩
 have HM4:=zh (HM3.out.trans hm4)
 have hs4:W4.heap[A]?=some (.cells hd 36 (0,0)):=(hm4.block A (lt_of_heap hHeld) id).trans hHeld
 obtain ⟨c,hc⟩:=zg (checkAns k n i root (leafP k r.data.toList) p)
 rw [←hc]
 have HC:=zh hc
 clear hm4 hc hck
 refine hK.out _ _ hs4 (fun hHeld=>?_)
 clear hK K' hs4
 try walk_nrm
 refine zt 12 (.bool (c == 0)) rfl (fun _ hS=>by go_simp) hHeld ?_
 try walk_nrm
 refine zo 13 rfl fun K' hK=>?_
 unfold Oper.wp execOp
 go_simp
 refine hK.out _ _ hHeld (fun hHeld=>?_)
 clear hK K'
 try walk_nrm
 refine zd ?_
 go_wp2_with fail
 go_ret
 exact ⟨by rw [←HC.out];rfl,HM4.out⟩
end Go.Proofs.YtdfdikpklddnhaaGreatDoor
namespace Go.Proofs.YtdfdikpklddnhaaGreatDoor
open Go.RowKit
set_option maxRecDepth 100000 in
theorem stranger_any (f h:Array Value) (k:Int) (none:Bool) (w:World) :
  Calls Tryz.prog 360 #[.agg f,.int .i64 k,.agg h,.bool none] w fun e w'=>e=.returned (.bool false)∧Mv (fun _=>False) w w':=by
 go_enter Tryz.func360,Tryz.ntmps360
 go_wp2_with fail
 go_ret
 exact ⟨rfl,((Mv.refl _ _).alloc _).alloc _⟩
end Go.Proofs.YtdfdikpklddnhaaGreatDoor
