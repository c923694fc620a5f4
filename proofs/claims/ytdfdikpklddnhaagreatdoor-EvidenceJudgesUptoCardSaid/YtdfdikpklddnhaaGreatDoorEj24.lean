/- Of the proof of EvidenceJudges, second form: for values of bulk at most 1048576. (Ej24) -/
import Derived.Test.YtdfdikpklddnhaaGreatDoorEj01
import Derived.Test.YtdfdikpklddnhaaGreatDoorEj23
import Derived.Test.YtdfdikpklddnhaaGreatDoorEj14
namespace Go.Proofs.YtdfdikpklddnhaaGreatDoor
open Go.RowKit
set_option linter.unusedSimpArgs false
def isOfP (l p v:Bs):Bool:=recP l == some (p,v)
set_option maxRecDepth 100000 in
set_option maxHeartbeats 1600000 in
theorem isOf_any (s p v:ByteArray) (w:World) (henv:EnvP w) (hsz:s.size≤1048576) :
  Calls Tryz.prog 42 #[.string s,.string p,.string v] w fun e w'=>e=.returned (.bool (isOfP s.data.toList p.data.toList v.data.toList))∧Below w.heap.size w w':=by
 have HR:=zh (record_any s w henv hsz)
 clear henv
 obtain ⟨r,hr0⟩:=zg (isOfP s.data.toList p.data.toList v.data.toList)
 rw [←hr0]
 have HRR:=zh hr0
 clear hr0
 go_enter Tryz.func42,Tryz.ntmps42
 go_wp2_with fail
 refine HR.out.mono ?_
 rintro e w1 ⟨hb1,P,V,A,B,er,rfl,⟨hA,hA1,hB,hB1⟩,hm⟩
 have HB1:=zh hb1
 have HM:=zh hm
 have HIA:Hid ((Tryz.prog.info? 27).map (·.size)=some A.size):=zh (by rw [hA];kernel_rfl)
 have HIB:Hid ((Tryz.prog.info? 27).map (·.size)=some B.size):=zh (by rw [hB];kernel_rfl)
 have HA:=zh hA
 have HB:=zh hB
 have HA1:=zh hA1
 have HBB1:=zh hB1
 obtain ⟨b0,hb0⟩:=zg ((er == 0))
 obtain ⟨b1,hb1'⟩:=zg ((P.toList == p.toList))
 obtain ⟨b2,hb2⟩:=zg ((V.toList == v.toList))
 have hres:isOfP s.data.toList p.data.toList v.data.toList=(b0 && b1 && b2):=by
  unfold isOfP
  rw [hb0,hb1',hb2,ByteArray.toList_eq,ByteArray.toList_eq,ByteArray.toList_eq,ByteArray.toList_eq]
  cases hr:recP s.data.toList with
  | none =>
   rw [hr] at hm
   have:(er == 0)=false:=by simpa using hm
   rw [this];rfl
  | some x =>
   obtain ⟨x,y⟩:=x
   rw [hr] at hm
   obtain ⟨h1,h2,h3⟩:=hm
   rw [h1,h2,h3]
   rfl
 have g0:=hb0.symm
 have g1:=hb1'.symm
 have g2:=hb2.symm
 have HRES:=zh (HRR.out.trans hres)
 have hza:Hid (∀ o,(w1.alloc o).heap[w1.heap.size]?=some o):=zh fun o=>heap_alloc_new _ _
 clear hb1 hm hA hA1 hB hB1 hb0 hb1' hb2 hres
 go_upto_region 2 with (first
  | (refine wpList_store_row rfl 27 _ _ rfl w1.heap.size A rfl rfl 27 _ ((Below.heap_alloc _ _ _ (by simp)).trans (heap_alloc_new _ _)) HIA.out HA.out.symm HA1.out ?_)
  | (refine wpList_store_row rfl 27 _ _ rfl (w1.heap.size+1) B rfl rfl 27 _ ((setRow_other _ _ _ _ (by omega)).trans (heap_alloc2_new _ _ _)) HIB.out HB.out.symm HBB1.out ?_))
 have hmW:=(((((Mv.of_below HB1.out).alloc (.cells z32 27)).alloc (.cells z32 27)).setRow (.inr HB1.out.size) A).setRow (g:=w1.heap.size+1) (.inr (by have:=HB1.out.size;omega)) B)
 generalize hW2:World.setRow _ _ _=W2
 have HMW:Hid (Mv (fun _=>False) w W2):=zh (by rw [←hW2];exact hmW)
 clear hmW hW2
 cases b0 <;> cases b1 <;> cases b2
 all_goals go_wp2_with fail
 all_goals go_ret
 all_goals exact ⟨by rw [HRES.out];rfl,HMW.out.below⟩
theorem build_all (Z:Array Value) (cs:Array Value) (h:Z.size=cs.size):Array.foldl (fun a x=>a.setIfInBounds x.snd x.fst) Z (cs.zipIdx 0) 0 cs.size=cs:=by
 obtain ⟨l⟩:=cs
 have hsz:(⟨l⟩:Array Value).size=((⟨l⟩:Array Value).zipIdx 0).size:=by simp
 rw [hsz,←Array.foldl_toList]
 have e:((⟨l⟩:Array Value).zipIdx 0).toList=l.zipIdx 0:=by simp
 rw [e]
 obtain ⟨_,h2⟩:=fold_set 0 l 0 Z
 simp only [Nat.zero_add] at h2
 apply Array.ext_getElem?
 intro i
 have hz:Z.size=l.length:=by simpa using h
 rw [h2,hz]
 by_cases hi:i<l.length
 ·rw [if_pos ⟨Nat.zero_le _,hi,hi⟩];simp
 ·rw [if_neg (by omega),Array.getElem?_eq_none (by omega),Array.getElem?_eq_none (by simp;omega)]
def factV (k:Int) (cs:Array Value):Value:=if k=1 then .iface 165 (.agg cs) else if k=2 then .iface 164 (.agg cs) else if k=3 then .iface 166 (.agg cs) else .iface 244 (.agg cs)
set_option maxRecDepth 100000 in
set_option maxHeartbeats 1600000 in
theorem factOf_any (cs:Array Value) (k:Int) (w:World) (h0:cs[0]?=some (.int .i64 k)) (hs:cs.size=75) :
  Calls Tryz.prog 85 #[.agg cs] w fun e w'=>e=.returned (factV k cs)∧Mv (fun _=>False) w w':=by
 have hh:(w.alloc (.cells cs 61)).heap[w.heap.size]?=some (.cells cs 61 (0,0)):=heap_alloc_new _ _
 have c0:(w.alloc (.cells cs 61)).cell? ⟨w.heap.size,0,none⟩=some (.int .i64 k):=by rw [cell_of_row _ _ _ _ _ _ hh];exact h0
 have hm:Mv (fun _=>False) w (w.alloc (.cells cs 61)):=(Mv.refl _ _).alloc _
 have HM:=zh hm
 have HH:=zh hh
 have HI:Hid ((Tryz.prog.info? 61).map (·.size)=some cs.size):=zh (by rw [hs];kernel_rfl)
 have z1:=build_all Tryz.zeroCells165 cs (by rw [hs];kernel_rfl)
 have z2:=build_all Tryz.zeroCells164 cs (by rw [hs];kernel_rfl)
 have z3:=build_all Tryz.zeroCells166 cs (by rw [hs];kernel_rfl)
 have z4:=build_all Tryz.zeroCells244 cs (by rw [hs];kernel_rfl)
 rw [hs] at z1 z2 z3 z4
 have hres:factV k cs=if k == 1 then .iface 165 (.agg cs) else if k == 2 then .iface 164 (.agg cs) else if k == 3 then .iface 166 (.agg cs) else .iface 244 (.agg cs):=by
  unfold factV
  simp
 rw [hres]
 clear hh h0 hm hres
 by_cases h1:k=1
 ·subst h1
  go_enter Tryz.func85,Tryz.ntmps85
  go_wp2_with (first|(refine wpList_load_row rfl 61 _ rfl w.heap.size rfl 61 cs (0,0) _ HH.out Tryz.underlying61 rfl HI.out ?_))
  go_ret
  exact ⟨rfl,HM.out⟩
 ·by_cases h2:k=2
  ·subst h2
   go_enter Tryz.func85,Tryz.ntmps85
   go_wp2_with (first|(refine wpList_load_row rfl 61 _ rfl w.heap.size rfl 61 cs (0,0) _ HH.out Tryz.underlying61 rfl HI.out ?_))
   go_ret
   exact ⟨rfl,HM.out⟩
  ·by_cases h3:k=3
   ·subst h3
    go_enter Tryz.func85,Tryz.ntmps85
    go_wp2_with (first|(refine wpList_load_row rfl 61 _ rfl w.heap.size rfl 61 cs (0,0) _ HH.out Tryz.underlying61 rfl HI.out ?_))
    go_ret
    exact ⟨rfl,HM.out⟩
   ·have g1:(k == 1)=false:=by simpa using h1
    have g2:(k == 2)=false:=by simpa using h2
    have g3:(k == 3)=false:=by simpa using h3
    clear h1 h2 h3
    go_enter Tryz.func85,Tryz.ntmps85
    go_wp2_with (first|(refine wpList_load_row rfl 61 _ rfl w.heap.size rfl 61 cs (0,0) _ HH.out Tryz.underlying61 rfl HI.out ?_))
    go_ret
    exact ⟨rfl,HM.out⟩
end Go.Proofs.YtdfdikpklddnhaaGreatDoor
