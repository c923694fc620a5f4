/- Of the proof of EvidenceJudges, second form: for values of bulk at most 1048576. (Ej33) -/
import Derived.Test.YtdfdikpklddnhaaGreatDoorEj01
import Derived.Test.YtdfdikpklddnhaaGreatDoorEj32
import Derived.Test.YtdfdikpklddnhaaGreatDoorEj20
namespace Go.Proofs.YtdfdikpklddnhaaGreatDoor
open Go.RowKit
set_option linter.unusedSimpArgs false
theorem bytes_app (a b:Array UInt8):(⟨a⟩:ByteArray)++⟨b⟩=⟨a++b⟩:=by
 apply ByteArray.ext
 exact ByteArray.data_append
theorem enc64_len32 (l:Bs) (hl:l.length=32):(enc64 l).length=44:=by
 have h:=enc64_app 10 (l.take 30) (l.drop 30) (by rw [List.length_take];omega)
 rw [List.take_append_drop] at h
 rw [h,List.length_append,enc64_len 10 _ (by rw [List.length_take];omega)]
 have hd:(l.drop 30).length=2:=by rw [List.length_drop];omega
 generalize l.drop 30=z at hd
 match z,hd with
 | [_,_],_=>rfl
set_option maxRecDepth 100000 in
set_option maxHeartbeats 1600000 in
theorem sumText_any (l:Bs) (w:World) (hl:l.length=32) :
  Calls Tryz.prog 84 #[.agg (l.map byteV).toArray] w fun e w'=>e=.returned (.string ⟨([104,49,58]++enc64 l).toArray⟩)∧Mv (fun _=>False) w w':=by
 obtain ⟨cs,hcs⟩:=zg ((l.map byteV).toArray)
 rw [←hcs]
 have hsz:cs.size=32:=by rw [hcs];simp [hl]
 obtain ⟨W1,hW1⟩:=zg (w.alloc (.cells cs 27))
 have hb:BytesAt W1 w.heap.size 0 l:=fun j b hj=>by
  rw [hW1,Nat.zero_add,cell_of_row _ _ _ _ _ _ (heap_alloc_new _ _),hcs]
  simp [hj,byteV]
 have HB:=zh hb
 have HW1:=zh hW1
 have HM:Hid (Mv (fun _=>False) w W1):=zh (by rw [hW1];exact (Mv.refl _ _).alloc _)
 have HG:Hid (w.heap.size<W1.heap.size):=zh (by rw [hW1];simp)
 have HL:=zh hl
 have h44:=enc64_len32 l hl
 have HCS:=zh hcs
 clear hb hW1 hcs hl
 go_enter Tryz.func84,Tryz.ntmps84
 go_wp2_with fail
 rw [←HW1.out]
 refine (enc_any w.heap.size l W1 HL.out HB.out HG.out).mono ?_
 rintro e w2 ⟨rfl,hm2⟩
 have HM2:=zh (HM.out.trans hm2)
 clear hm2
 go_wp2_with fail
 go_ret
 refine ⟨?_,HM2.out⟩
 show Ending.returned (Value.string ((⟨#[104,49,58]⟩:ByteArray)++⟨(enc64 l).toArray⟩))=_
 rw [bytes_app]
 simp
theorem range_27 {W:World} {g:Nat} {cs:List Value} (h:W.heap[g]?=some (.cells cs.toArray 27 (0,0))):W.rangeAt g 0 cs:=fun j v hv=>by
 rw [cell_of_row _ _ _ _ _ _ h]
 simpa using hv
theorem info27s:(Tryz.prog.info? 27).map (·.size)=some 32:=by kernel_rfl
def recB (p v:ByteArray) (t m:Bs):ByteArray :=
 p++⟨#[32]⟩++v++⟨#[32]⟩++⟨([104,49,58]++enc64 t).toArray⟩++⟨#[10]⟩++p++⟨#[32]⟩++v++⟨#[47,103,111,46,109,111,100]⟩++⟨#[32]⟩++⟨([104,49,58]++enc64 m).toArray⟩++⟨#[10]⟩
set_option maxRecDepth 100000 in
set_option maxHeartbeats 1600000 in
theorem recordText_any (p v:ByteArray) (t m:Bs) (w:World) (hp:p.size≤1048576) (hv:v.size≤1048576) (ht:t.length=32) (hm:m.length=32) (hck:checkP p.data.toList v.data.toList=0) (henv:EnvP w) :
  Calls Tryz.prog 50 #[.string p,.string v,.agg (t.map byteV).toArray,.agg (m.map byteV).toArray] w fun e w'=>e=.returned (.tuple #[.string (recB p v t m),.int .i64 0])∧Mv (fun _=>False) w w':=by
 unfold recB
 obtain ⟨ct,hct⟩:=zg (t.map byteV)
 obtain ⟨cm,hcm⟩:=zg (m.map byteV)
 rw [←hct,←hcm]
 have Hct:=zh hct
 have Hcm:=zh hcm
 have HIT:Hid ((Tryz.prog.info? 27).map (·.size)=some ct.length):=zh (by rw [hct,List.length_map,ht];exact info27s)
 have HIM:Hid ((Tryz.prog.info? 27).map (·.size)=some cm.length):=zh (by rw [hcm,List.length_map,hm];exact info27s)
 have HT:=zh ht
 have h44t:=enc64_len32 t ht
 have h44m:=enc64_len32 m hm
 have HMM:=zh hm
 obtain ⟨A,hA⟩:=zg (w.heap.size)
 obtain ⟨B,hB⟩:=zg (A+1)
 have h1:((w.alloc (.cells ct.toArray 27)).alloc (.cells cm.toArray 27)).heap[A]?=some (.cells ct.toArray 27 (0,0)):=by rw [hA];exact (Below.heap_alloc _ _ _ (by simp)).trans (heap_alloc_new _ _)
 have h2:((w.alloc (.cells ct.toArray 27)).alloc (.cells cm.toArray 27)).heap[B]?=some (.cells cm.toArray 27 (0,0)):=by
  rw [hB,hA,show w.heap.size+1=(w.alloc (.cells ct.toArray 27)).heap.size by simp];exact heap_alloc_new _ _
 have hma:Mv (fun _=>False) w ((w.alloc (.cells ct.toArray 27)).alloc (.cells cm.toArray 27)):=((Mv.refl _ _).alloc _).alloc _
 have HA:=zh hA
 have HB:=zh hB
 have HEE:=zh henv
 have HCK:=zh hck
 clear hct hcm ht hm henv hck
 go_enter Tryz.func50,Tryz.ntmps50
 go_upto_region 1 with fail
 rw [←hA] at *
 rw [←hB] at *
 generalize hW1:(w.alloc (.cells ct.toArray 27)).alloc (.cells cm.toArray 27)=W1
 rw [hW1] at h1 h2 hma
 have H1:=zh h1
 have H2:=zh h2
 have HM1:=zh hma
 have HE1:Hid (EnvP W1):=zh (HEE.out.still hma.below)
 clear h1 h2 hma hW1 hA hB
 go_wp2_with fail
 have hcl:=check_any p v W1 hp hv HE1.out
 rw [HCK.out] at hcl
 refine hcl.mono ?_
 rintro e W2 ⟨rfl,hb2⟩
 have hm2:=Mv.of_below hb2
 have HM2:=zh (HM1.out.trans hm2)
 have H12:Hid (W2.heap[A]?=some (.cells ct.toArray 27 (0,0))):=zh ((hm2.block A (lt_of_heap H1.out) id).trans H1.out)
 have H22:Hid (W2.heap[B]?=some (.cells cm.toArray 27 (0,0))):=zh ((hm2.block B (lt_of_heap H2.out) id).trans H2.out)
 clear hcl hb2 hm2
 go_upto_region 4 with fail
 refine wp_region_noPanic ?_
 refine wp_region_held_drew (S:=fun w'=>w'.heap[A]?=some (.cells ct.toArray 27 (0,0))∧w'.heap[B]?=some (.cells cm.toArray 27 (0,0))) (by kernel_rfl) ⟨H12.out,H22.out⟩ (fun hHeld=>?_)
 refine zt 0 (.string p) rfl (fun _ hS=>by go_simp <;> omega) hHeld ?_
 try walk_nrm
 refine zt 1 (.string (p++⟨#[32]⟩)) rfl (fun _ hS=>by go_simp <;> omega) hHeld ?_
 try walk_nrm
 refine zt 2 (.string v) rfl (fun _ hS=>by go_simp <;> omega) hHeld ?_
 try walk_nrm
 refine zt 3 (.string (p++⟨#[32]⟩++v)) rfl (fun _ hS=>by go_simp <;> omega) hHeld ?_
 try walk_nrm
 refine zt 4 (.string (p++⟨#[32]⟩++v++⟨#[32]⟩)) rfl (fun _ hS=>by go_simp <;> omega) hHeld ?_
 try walk_nrm
 refine zj 5 (.agg ct.toArray) rfl (yieldsIf_load_mid (by rfl) 27 _ rfl A 0 rfl ct _ (fun _ h=>range_27 h.1) Tryz.underlying27 rfl HIT.out) hHeld ?_
 try walk_nrm
 refine zt 9 (.string p) rfl (fun _ hS=>by go_simp <;> omega) hHeld ?_
 try walk_nrm
 refine zt 12 (.string v) rfl (fun _ hS=>by go_simp <;> omega) hHeld ?_
 try walk_nrm
 refine zj 16 (.agg cm.toArray) rfl (yieldsIf_load_mid (by rfl) 27 _ rfl B 0 rfl cm _ (fun _ h=>range_27 h.2) Tryz.underlying27 rfl HIM.out) hHeld ?_
 try walk_nrm
 refine zo 6 rfl fun K' hK=>?_
 unfold Oper.wp execOp
 go_simp
 have hcl:=sumText_any t W2.drew HT.out
 rw [show (t.map byteV).toArray=ct.toArray by rw [Hct.out]] at hcl
 refine hcl.mono ?_
 rintro e W3 ⟨rfl,hm2⟩
 have HM3:Hid (Mv (fun _=>False) w W3):=zh (HM2.out.trans ((Mv.refl (fun _=>False) W2).drew.trans hm2))
 have hs2:W3.heap[A]?=some (.cells ct.toArray 27 (0,0))∧W3.heap[B]?=some (.cells cm.toArray 27 (0,0)):=⟨(hm2.block A (lt_of_heap hHeld.1) id).trans hHeld.1,(hm2.block B (lt_of_heap hHeld.2) id).trans hHeld.2⟩
 clear hm2 hcl
 refine hK.out _ _ hs2 (fun hHeld=>?_)
 clear hK K' hs2
 try walk_nrm
 refine zt 7 (.string (p++⟨#[32]⟩++v++⟨#[32]⟩++⟨([104,49,58]++enc64 t).toArray⟩)) rfl (fun _ hS=>by go_simp <;> omega) hHeld ?_
 try walk_nrm
 refine zt 8 (.string (p++⟨#[32]⟩++v++⟨#[32]⟩++⟨([104,49,58]++enc64 t).toArray⟩++⟨#[10]⟩)) rfl (fun _ hS=>by go_simp <;> omega) hHeld ?_
 try walk_nrm
 refine zt 10 (.string (p++⟨#[32]⟩++v++⟨#[32]⟩++⟨([104,49,58]++enc64 t).toArray⟩++⟨#[10]⟩++p)) rfl (fun _ hS=>by go_simp <;> omega) hHeld ?_
 try walk_nrm
 refine zt 11 (.string (p++⟨#[32]⟩++v++⟨#[32]⟩++⟨([104,49,58]++enc64 t).toArray⟩++⟨#[10]⟩++p++⟨#[32]⟩)) rfl (fun _ hS=>by go_simp <;> omega) hHeld ?_
 try walk_nrm
 refine zt 13 (.string (p++⟨#[32]⟩++v++⟨#[32]⟩++⟨([104,49,58]++enc64 t).toArray⟩++⟨#[10]⟩++p++⟨#[32]⟩++v)) rfl (fun _ hS=>by go_simp <;> omega) hHeld ?_
 try walk_nrm
 refine zt 14 (.string (p++⟨#[32]⟩++v++⟨#[32]⟩++⟨([104,49,58]++enc64 t).toArray⟩++⟨#[10]⟩++p++⟨#[32]⟩++v++⟨#[47,103,111,46,109,111,100]⟩)) rfl (fun _ hS=>by go_simp <;> omega) hHeld ?_
 try walk_nrm
 refine zt 15 (.string (p++⟨#[32]⟩++v++⟨#[32]⟩++⟨([104,49,58]++enc64 t).toArray⟩++⟨#[10]⟩++p++⟨#[32]⟩++v++⟨#[47,103,111,46,109,111,100]⟩++⟨#[32]⟩)) rfl (fun _ hS=>by go_simp <;> omega) hHeld ?_
 try walk_nrm
 refine zo 17 rfl fun K' hK=>?_
 unfold Oper.wp execOp
 go_simp
 have hcl:=sumText_any m W3 HMM.out
 rw [show (m.map byteV).toArray=cm.toArray by rw [Hcm.out]] at hcl
 refine hcl.mono ?_
 rintro e W4 ⟨rfl,hm2⟩
 have HM4:Hid (Mv (fun _=>False) w W4):=zh (HM3.out.trans hm2)
 have hs2:W4.heap[A]?=some (.cells ct.toArray 27 (0,0))∧W4.heap[B]?=some (.cells cm.toArray 27 (0,0)):=⟨(hm2.block A (lt_of_heap hHeld.1) id).trans hHeld.1,(hm2.block B (lt_of_heap hHeld.2) id).trans hHeld.2⟩
 clear hm2 hcl
 refine hK.out _ _ hs2 (fun hHeld=>?_)
 clear hK K' hs2
 try walk_nrm
 refine zt 18 (.string (p++⟨#[32]⟩++v++⟨#[32]⟩++⟨([104,49,58]++enc64 t).toArray⟩++⟨#[10]⟩++p++⟨#[32]⟩++v++⟨#[47,103,111,46,109,111,100]⟩++⟨#[32]⟩++⟨([104,49,58]++enc64 m).toArray⟩)) rfl (fun _ hS=>by go_simp <;> omega) hHeld ?_
 try walk_nrm
 refine zt 19 (.string (p++⟨#[32]⟩++v++⟨#[32]⟩++⟨([104,49,58]++enc64 t).toArray⟩++⟨#[10]⟩++p++⟨#[32]⟩++v++⟨#[47,103,111,46,109,111,100]⟩++⟨#[32]⟩++⟨([104,49,58]++enc64 m).toArray⟩++⟨#[10]⟩)) rfl (fun _ hS=>by go_simp <;> omega) hHeld ?_
 try walk_nrm
 refine zo 20 rfl fun K' hK=>?_
 unfold Oper.wp execOp
 go_simp
 refine hK.out _ _ hHeld (fun hHeld=>?_)
 clear hK K'
 try walk_nrm
 refine zo 21 rfl fun K' hK=>?_
 unfold Oper.wp execOp
 go_simp
 refine hK.out _ _ hHeld (fun hHeld=>?_)
 clear hK K'
 try walk_nrm
 refine zd ?_
 go_wp2_with fail
 go_ret2
 exact ⟨rfl,HM4.out⟩
end Go.Proofs.YtdfdikpklddnhaaGreatDoor
