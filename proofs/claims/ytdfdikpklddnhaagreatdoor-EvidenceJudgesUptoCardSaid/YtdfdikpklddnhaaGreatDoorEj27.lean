/- Of the proof of EvidenceJudges, second form: for values of bulk at most 1048576. (Ej27) -/
import Derived.Test.YtdfdikpklddnhaaGreatDoorEj01
import Derived.Test.YtdfdikpklddnhaaGreatDoorEj24
namespace Go.Proofs.YtdfdikpklddnhaaGreatDoor
open Go.RowKit
set_option linter.unusedSimpArgs false
set_option maxRecDepth 100000 in
set_option maxHeartbeats 1600000 in
theorem bare_any (cs:Array Value) (p v r:ByteArray) (i:Int) (w:World) (h1:cs[1]?=some (.string p)) (h2:cs[2]?=some (.string v)) (h3:cs[3]?=some (.int .i64 i)) (h4:cs[4]?=some (.string r)) :
  Calls Tryz.prog 354 #[.agg cs] w fun e w'=>e=.returned (.bool (p.toList == [] && v.toList == [] && r.toList == [] && i == 0))∧Mv (fun _=>False) w w':=by
 obtain ⟨W1,hW1⟩:=zg (w.alloc (.cells cs 61))
 have hh:(w.alloc (.cells cs 61)).heap[w.heap.size]?=some (.cells cs 61 (0,0)):=heap_alloc_new _ _
 have c1:(w.alloc (.cells cs 61)).cell? ⟨w.heap.size,1,none⟩=some (.string p):=by rw [cell_of_row _ _ _ _ _ _ hh];exact h1
 have c2:(w.alloc (.cells cs 61)).cell? ⟨w.heap.size,2,none⟩=some (.string v):=by rw [cell_of_row _ _ _ _ _ _ hh];exact h2
 have c3:(w.alloc (.cells cs 61)).cell? ⟨w.heap.size,3,none⟩=some (.int .i64 i):=by rw [cell_of_row _ _ _ _ _ _ hh];exact h3
 have c4:(w.alloc (.cells cs 61)).cell? ⟨w.heap.size,4,none⟩=some (.string r):=by rw [cell_of_row _ _ _ _ _ _ hh];exact h4
 have hm:Mv (fun _=>False) w (w.alloc (.cells cs 61)):=(Mv.refl _ _).alloc _
 have HM:=zh hm
 clear hh h1 h2 h3 h4 hm hW1 W1
 obtain ⟨b1,hb1⟩:=zg ((p.toList == []))
 obtain ⟨b2,hb2⟩:=zg ((v.toList == []))
 obtain ⟨b3,hb3⟩:=zg ((r.toList == []))
 obtain ⟨b4,hb4⟩:=zg ((i == 0))
 rw [←hb1,←hb2,←hb3,←hb4]
 have g1:=hb1.symm
 have g2:=hb2.symm
 have g3:=hb3.symm
 have g4:=hb4.symm
 clear hb1 hb2 hb3 hb4
 cases b1 <;> cases b2 <;> cases b3 <;> cases b4
 all_goals go_enter Tryz.func354,Tryz.ntmps354
 all_goals go_wp2_with fail
 all_goals go_ret
 all_goals exact ⟨rfl,HM.out⟩
end Go.Proofs.YtdfdikpklddnhaaGreatDoor
