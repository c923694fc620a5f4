/- Of the proof of EvidenceJudges, second form: for values of bulk at most 1048576. (Ej14) -/
import Derived.Test.YtdfdikpklddnhaaGreatDoorEj01
import Derived.Test.YtdfdikpklddnhaaGreatDoorEj13
import Derived.Stop.BytesEq
import Derived.Laws.AppendOwnNone
namespace Go.Proofs.YtdfdikpklddnhaaGreatDoor
open Go.RowKit
set_option linter.unusedSimpArgs false
theorem hash_neq (a b:Bs) (ha:a.length=32) (hb:b.length=32) (w:World):(binOp .neq 34 (.agg (a.map byteV).toArray) (.agg (b.map byteV).toArray)).run Tryz.prog w=.ok (.bool (!(a == b))) w:=by
 rw [run_neq_struct]
 have h:=run_equalIn_bytes (P:=Tryz.prog) w 9998 34 5 32 Tryz.underlying34 Tryz.underlying5 (fun _=>by kernel_rfl) a b ha hb
 have h':(Op.equalIn 10000 34 (.agg (a.map byteV).toArray) (.agg (b.map byteV).toArray)).run Tryz.prog w=.ok (a == b) w:=h
 rw [h']
 rfl
theorem hash_eql (a b:Bs) (ha:a.length=32) (hb:b.length=32) (w:World):(binOp .eql 34 (.agg (a.map byteV).toArray) (.agg (b.map byteV).toArray)).run Tryz.prog w=.ok (.bool (a == b)) w:=by
 rw [run_eql_struct]
 have h:=run_equalIn_bytes (P:=Tryz.prog) w 9998 34 5 32 Tryz.underlying34 Tryz.underlying5 (fun _=>by kernel_rfl) a b ha hb
 have h':(Op.equalIn 10000 34 (.agg (a.map byteV).toArray) (.agg (b.map byteV).toArray)).run Tryz.prog w=.ok (a == b) w:=h
 rw [h']
 rfl
theorem wpList_load_rowG {P:Program} {ops:Array Oper} {rest:List Oper} {o:Oper} {a:Act} {w:World} {Q:Exit→Act→World→Prop} (ty:TypeId) (x:Operand) (ho:o.op=.load ty x)
  (g:Nat) (hx:a.eval x=.pointer (some ⟨g,0,none⟩)) (t:TypeId) (cs:Array Value) (fr:Nat × Nat) (d:TypeDesc) (hg:w.heap[g]?=some (.cells cs t fr))
  (hu:P.underlying ty=some d) (hd:(match d with|.struct _|.array _ _=>true|_=>false)=true) (hi:(P.info? ty).map (·.size)=some cs.size)
  (hwd:Region.wanted o (yielded ops a.tmps)=true)
  (h:wpList P ops Q rest (a.put o.dst (.agg cs)) w):wpList P ops Q (o :: rest) a w :=
 wpList_step fun K hK=>by rw [if_pos hwd];exact wp_load_row ty x ho g hx t cs fr d hg hu hd hi (hK _ _ h)
theorem climbN_len (k:Int) (leaf:Bs) (way:List Step) (p:List Bs) (hl:leaf.length=32):∀ j,(climbN k leaf way p j).sum.length=32
 | 0=>hl
 | j+1=>by
  show (climbStep k _ _ _).sum.length=32
  unfold climbStep
  split
  ·exact nodeP_length _ _ _
  ·exact nodeP_length _ _ _
theorem climbRoot_len (k n i:Int) (leaf:Bs) (p:List Bs) (hl:leaf.length=32):(climbRoot k n i leaf p).length=32:=climbN_len k leaf _ p hl _
def checkAns (k n i:Int) (root leaf:Bs) (p:List Bs):Int:=if climbErr n i p=0 then (if climbRoot k n i leaf p=root then 0 else 91) else climbErr n i p
set_option maxRecDepth 100000 in
set_option maxHeartbeats 3200000 in
theorem checkRecord_any (k n i:Int) (pv:Value) (p:List Bs) (root leaf:Bs) (w:World) (hp:HsIn w pv p) (hr:root.length=32) (hl:leaf.length=32) (hpl:p.length≤1099511627776) (he:EnvH w) :
  Calls Tryz.prog 57 #[.int .i64 k,pv,.int .i64 n,hashV root,.int .i64 i,hashV leaf] w fun e w' =>
   e=.returned (.int .i64 (checkAns k n i root leaf p))∧Mv (fun _=>False) w w':=by
 obtain ⟨rs,hrs⟩:=zg ((root.map byteV).toArray)
 obtain ⟨ls,hls⟩:=zg ((leaf.map byteV).toArray)
 rw [show hashV root=.agg rs by rw [hrs];rfl,show hashV leaf=.agg ls by rw [hls];rfl]
 have HRS:=zh hrs
 have HLS:=zh hls
 have HIR:Hid ((Tryz.prog.info? 34).map (·.size)=some rs.size):=zh (by have hz:rs.size=32:=(by rw [hrs];simp [hr]);rw [hz];exact info34)
 have HIL:Hid ((Tryz.prog.info? 34).map (·.size)=some ls.size):=zh (by have hz:ls.size=32:=(by rw [hls];simp [hl]);rw [hz];exact info34)
 have HP:=zh hp
 have HR:=zh hr
 have HL:=zh hl
 have HE:=zh he
 have HPL:=zh hpl
 obtain ⟨A,hA⟩:=zg (w.heap.size)
 have h1:((w.alloc (.cells rs 34)).alloc (.cells ls 34)).heap[w.heap.size]?=some (.cells rs 34 (0,0)):=(Below.heap_alloc _ _ _ (by simp)).trans (heap_alloc_new _ _)
 have h2:((w.alloc (.cells rs 34)).alloc (.cells ls 34)).heap[w.heap.size+1]?=some (.cells ls 34 (0,0)):=by
  rw [show w.heap.size+1=(w.alloc (.cells rs 34)).heap.size by simp];exact heap_alloc_new _ _
 have hm:Mv (fun _=>False) w ((w.alloc (.cells rs 34)).alloc (.cells ls 34)):=((Mv.refl _ _).alloc _).alloc _
 have HA:=zh hA
 clear hrs hls hp hr hl he hpl
 go_enter Tryz.func57,Tryz.ntmps57
 go_upto_region 1 with fail
 generalize hW1:(w.alloc (.cells rs 34)).alloc (.cells ls 34)=W1
 rw [hW1] at h1 h2 hm
 rw [←hA] at h1 h2 ⊢
 have H1:=zh h1
 have H2:=zh h2
 have HM:=zh hm
 clear hW1 h1 h2 hm hA
 go_wp2_with (first
  | (refine wpList_load_row rfl 34 _ rfl (A+1) rfl 34 ls (0,0) _ H2.out Tryz.underlying34 rfl HIL.out ?_))
 have hcl:=climbRecord_any k n i pv p leaf W1 (HP.out.mv HM.out (fun _ _ h=>h)) HL.out HPL.out (HE.out.mv HM.out (fun _ h=>h.elim))
 rw [show hashV leaf=.agg ls by rw [HLS.out];rfl] at hcl
 refine hcl.mono ?_
 rintro e w2 ⟨rfl,hm2⟩
 have HM2:Hid (Mv (fun _=>False) w w2):=zh (HM.out.trans hm2)
 have ha2:Hid (w2.heap[A]?=some (.cells rs 34 (0,0))):=zbl hm2 H1
 clear hcl hm2
 by_cases hc:climbErr n i p=0
 ·rw [climbAns_ok k n i leaf p hc]
  have hck:checkAns k n i root leaf p=if climbRoot k n i leaf p=root then 0 else 91:=by unfold checkAns;rw [if_pos hc]
  have HCK:=zh hck
  have hql:=climbRoot_len k n i leaf p HL.out
  obtain ⟨q,hq⟩:=zg (climbRoot k n i leaf p)
  rw [←hq] at hql ⊢
  have HQ:=zh hq
  obtain ⟨qs,hqs⟩:=zg ((q.map byteV).toArray)
  rw [show hashV q=.agg qs by rw [hqs];rfl]
  have hne:=hash_neq q root hql HR.out
  rw [←hqs,←HRS.out] at hne
  have HIQ:Hid ((Tryz.prog.info? 34).map (·.size)=some qs.size):=zh (by have hz:qs.size=32:=(by rw [hqs];simp [hql]);rw [hz];exact info34)
  have HQZ:Hid (32=qs.size):=zh (by rw [hqs];simp [hql])
  have HONE:Hid (qs.all (·.oneCell')=true):=zh (by rw [hqs];exact hash_one q)
  have HF:Hid (∀ o,(w2.alloc o).heap[A]?=some (.cells rs 34 (0,0))):=zh fun o=>(Below.heap_alloc _ _ _ (lt_of_heap ha2.out)).trans ha2.out
  have HNE:Hid (A≠w2.heap.size):=zh (by have:=lt_of_heap ha2.out;omega)
  clear hc hck hq hqs hql
  cases hb:(q == root) with
  | true =>
   have hqr:q=root:=by simpa using hb
   have hz:checkAns k n i root leaf p=0:=by rw [HCK.out,←HQ.out,if_pos hqr]
   have HZ:=zh hz
   rw [hb] at hne
   clear hqr hz hb
   go_wp2_with (first
    | (refine wpList_store_row rfl 34 _ _ rfl w2.heap.size qs rfl rfl 34 _ (heap_alloc_new _ _) HIQ.out HQZ.out HONE.out ?_)
    | (refine wpList_load_rowG 34 _ rfl w2.heap.size rfl 34 qs (0,0) _ (setRow_heap _ _ _ _ _ _ (heap_alloc_new _ _)) Tryz.underlying34 rfl HIQ.out rfl ?_)
    | (refine wpList_load_rowG 34 _ rfl A rfl 34 rs (0,0) _ ((setRow_other _ _ _ _ HNE.out).trans (HF.out _)) Tryz.underlying34 rfl HIR.out rfl ?_))
   go_ret
   exact ⟨by rw [HZ.out];rfl,(HM2.out.alloc _).setRow (.inr HM2.out.size) _⟩
  | false =>
   have hqr:q≠root:=by simpa using hb
   have hz:checkAns k n i root leaf p=91:=by rw [HCK.out,←HQ.out,if_neg hqr]
   have HZ:=zh hz
   rw [hb] at hne
   clear hqr hz hb
   go_wp2_with (first
    | (refine wpList_store_row rfl 34 _ _ rfl w2.heap.size qs rfl rfl 34 _ (heap_alloc_new _ _) HIQ.out HQZ.out HONE.out ?_)
    | (refine wpList_load_rowG 34 _ rfl w2.heap.size rfl 34 qs (0,0) _ (setRow_heap _ _ _ _ _ _ (heap_alloc_new _ _)) Tryz.underlying34 rfl HIQ.out rfl ?_)
    | (refine wpList_load_rowG 34 _ rfl A rfl 34 rs (0,0) _ ((setRow_other _ _ _ _ HNE.out).trans (HF.out _)) Tryz.underlying34 rfl HIR.out rfl ?_))
   go_ret
   exact ⟨by rw [HZ.out];rfl,(HM2.out.alloc _).setRow (.inr HM2.out.size) _⟩
 ·obtain ⟨c,hcc⟩:=zg (climbErr n i p)
  rw [←hcc] at hc
  rw [climbAns_bad k n i leaf p c hcc.symm hc]
  have hz:checkAns k n i root leaf p=c:=by unfold checkAns;rw [if_neg (by rw [←hcc];exact hc),hcc]
  have HZ:=zh hz
  have g0:((c:Int) == 0)=false:=by simpa using hc
  clear hcc hz hc
  go_wp2_with (first
   | (refine wpList_store_row rfl 34 _ _ rfl w2.heap.size z32B rfl rfl 34 _ (heap_alloc_new _ _) info34z rfl z32_oneB ?_))
  go_ret
  exact ⟨by rw [HZ.out];rfl,(HM2.out.alloc _).setRow (.inr HM2.out.size) _⟩
theorem step_one (l:List Step):∀ u∈stepsV l,u.oneCell'=true:=fun u hu=>by
 unfold stepsV at hu
 obtain ⟨x,hx,hux⟩:=List.mem_flatten.1 hu
 obtain ⟨s,_,rfl⟩:=List.mem_map.1 hx
 simp [Step.cells] at hux
 rcases hux with rfl|rfl|rfl <;> rfl
theorem stepsV_len (l:List Step):(stepsV l).length=l.length * 3:=by
 unfold stepsV
 rw [flat_len 3 _ (step_len l),List.length_map]
set_option maxRecDepth 100000 in
set_option maxHeartbeats 1600000 in
theorem wayFrom_any (n m:Nat) (w:World) (hn:n≤281474976710656) (hm:1≤m∧m≤n) :
  Calls Tryz.prog 90 #[.int .i64 n,.int .i64 m,.func (.func 91) #[] #[]] w fun e w'=>∃ v,e=.returned (.tuple #[v,.agg #[.int .i64 (treeSeed n m).1,.int .i64 (treeSeed n m).2]]) ∧
   w'.ownsRow w.heap.size 174 3 v (wayTree n m).length (stepsV (wayTree n m))∧Mv (fun _=>False) w w':=by
 obtain ⟨i0,hi0,hz0,hz1,hz2⟩:=info_parts Tryz.info174
 obtain ⟨down,hdown⟩:=zg ((wayDown (treeStop m) (treeLeft m) 0 n).1)
 obtain ⟨sa,hsa⟩:=zg ((treeSeed n m).1)
 obtain ⟨sb,hsb⟩:=zg ((treeSeed n m).2)
 have hlen:down.length≤48:=by rw [hdown];exact wayDown_len _ _ 48 0 n hn (by omega)
 have hway:wayTree n m=(if 0<sa then [⟨sa,sb,false⟩] else [])++down.reverse:=by unfold wayTree;rw [hsa,hsb,hdown]
 rw [hway,←hsa,←hsb]
 have HSEED:Hid (sa=(treeSeed n m).1∧sb=(treeSeed n m).2∧down=(wayDown (treeStop m) (treeLeft m) 0 n).1):=zh ⟨hsa,hsb,hdown⟩
 clear hway hsa hsb hdown
 obtain ⟨way,hw0⟩:=zg ((if 0<sa then [(⟨sa,sb,false⟩:Step)] else [])++down.reverse)
 rw [←hw0]
 have HWAY:=zh hw0
 clear hw0
 have hmf:∀ (fn:Fn) (first cap:Array Value) (w:World),(Instr.makeFunc fn first cap).run Tryz.prog w=.ok (.func fn first cap) w:=fun _ _ _ _=>rfl
 go_enter Tryz.func90,Tryz.ntmps90
 go_wp2_with fail
 obtain ⟨R,hR⟩:=zg (w.heap.size+1)
 have hI:((w.alloc (.cells #[.int .i64 m] 2)).alloc (.cells #[.int .i64 0,.int .i64 0] 170)).cell? ⟨w.heap.size,0,none⟩=some (.int .i64 m):=cell_of_heap ((Below.heap_alloc _ _ _ (by simp)).trans (heap_alloc_new _ _)) 0 rfl
 have hr1:((w.alloc (.cells #[.int .i64 m] 2)).alloc (.cells #[.int .i64 0,.int .i64 0] 170)).heap[R]?=some (.cells #[.int .i64 0,.int .i64 0] 170 (0,0)):=by
  rw [hR,show w.heap.size+1=(w.alloc (.cells #[.int .i64 m] 2)).heap.size by simp];exact heap_alloc_new _ _
 have hma:Mv (fun _=>False) w ((w.alloc (.cells #[.int .i64 m] 2)).alloc (.cells #[.int .i64 0,.int .i64 0] 170)):=((Mv.refl _ _).alloc _).alloc _
 generalize hW1:(w.alloc _).alloc _=W1
 rw [hW1] at hI hr1 hma
 rw [←hR]
 have HM:=zh hma
 have HI:=zh hI
 have HR1:=zh hr1
 have HRW:Hid (w.heap.size≤R):=zh (by omega)
 clear hW1 hma hI hr1 hR
 go_wp2_with fail
 refine (walkTree_any n m w.heap.size W1 hn hm HI.out).mono ?_
 rintro e w2 ⟨v,rfl,hown,hm2⟩
 rw [show (wayDown (treeStop m) (treeLeft m) 0 n).2.1=sa from HSEED.out.1.symm,show (wayDown (treeStop m) (treeLeft m) 0 n).2.2=sb from HSEED.out.2.1.symm]
 rw [←HSEED.out.2.2] at hown
 have HM2:=zh (HM.out.trans hm2)
 have HRB:Hid (R<W1.heap.size):=zh (lt_of_heap HR1.out)
 have HOWN:=zh (owns_mono (base':=R+1) hown HRB.out)
 have HR2:Hid (w2.heap[R]?=some (.cells #[.int .i64 0,.int .i64 0] 170 (0,0))):=zh ((hm2.block R (lt_of_heap HR1.out) id).trans HR1.out)
 clear hown hm2
 obtain ⟨p,c,hshape⟩:=owns_shape HOWN.out
 subst hshape
 by_cases h0:sa=0
 ·subst h0
  have hw1:way=down.reverse:=by rw [HWAY.out,if_neg (by omega),List.nil_append]
  have HW1:=zh hw1
  clear hw1
  go_wp2_with fail
  obtain ⟨S9,hS9⟩:=zg (w2.heap.size)
  have h9:(w2.alloc (.cells #[.int .i64 0,.int .i64 sb] 170)).heap[S9]?=some (.cells #[.int .i64 0,.int .i64 sb] 170 (0,0)):=by rw [hS9];exact heap_alloc_new _ _
  rw [←hS9]
  have H9:=zh h9
  have H3:Hid ((w2.alloc (.cells #[.int .i64 0,.int .i64 sb] 170)).heap[R]?=some (.cells #[.int .i64 0,.int .i64 0] 170 (0,0))):=zh ((Below.heap_alloc _ _ _ (lt_of_heap HR2.out)).trans HR2.out)
  have HOWN3:Hid ((w2.alloc (.cells #[.int .i64 0,.int .i64 sb] 170)).ownsRow (R+1) 174 3 (.slice p down.length c) way.length (stepsV way)):=zh (by
   have hl:way.length=down.length:=by rw [HW1.out,List.length_reverse]
   rw [hl,HW1.out]
   exact HOWN.out.alloc _)
  have HM3:=zh (HM2.out.alloc (.cells #[.int .i64 0,.int .i64 sb] 170))
  clear h9 hS9
  generalize w2.alloc (.cells #[.int .i64 0,.int .i64 sb] 170)=W3 at H9 H3 HOWN3 HM3 ⊢
  have q0:=cell_of_heap H9.out 0 rfl
  have q1:=cell_of_heap H9.out 1 rfl
  have r0:=cell_of_heap H3.out 0 rfl
  have r1:=cell_of_heap H3.out 1 rfl
  have z0:=free_of_heap H3.out 0
  have z1:=free_of_heap H3.out 1
  go_region
  all_goals go_wp2_with fail
  all_goals
   refine bodyPost_ret (results_tc (fn:=Tryz.f90) rfl _ _ R 170 #[.int .i64 0,.int .i64 sb] (.slice p down.length c) _ rfl rfl ?hg Tryz.underlying170 rfl (by kernel_rfl)) rfl ?hp
   case hg=>exact (heap_setCell_same (heap_setCell_same H3.out _) _).trans rfl
   case hp=>exact ⟨_,rfl,owns_mono (owns_setCell (owns_setCell HOWN3.out R 0 (.int .i64 0) (Nat.lt_succ_self R)) R 1 (.int .i64 sb) (Nat.lt_succ_self R)) (Nat.le_succ_of_le HRW.out),((HM3.out.setCell (.inr HRW.out) _).setCell (.inr HRW.out) _).drew⟩
 ·have hw1:way=⟨sa,sb,false⟩ :: down.reverse:=by rw [HWAY.out,if_pos (by omega)];rfl
  have HW1:=zh hw1
  clear hw1
  have g0:decide ((0:Int)<sa)=true:=decide_eq_true (by omega)
  go_wp2_with fail
  obtain ⟨S9,hS9⟩:=zg (w2.heap.size)
  have h9:(w2.alloc (.cells #[.int .i64 sa,.int .i64 sb] 170)).heap[S9]?=some (.cells #[.int .i64 sa,.int .i64 sb] 170 (0,0)):=by rw [hS9];exact heap_alloc_new _ _
  rw [←hS9]
  have H9a:=zh h9
  have H3a:Hid ((w2.alloc (.cells #[.int .i64 sa,.int .i64 sb] 170)).heap[R]?=some (.cells #[.int .i64 0,.int .i64 0] 170 (0,0))):=zh ((Below.heap_alloc _ _ _ (lt_of_heap HR2.out)).trans HR2.out)
  have HOWNa:=zh (HOWN.out.alloc (.cells #[.int .i64 sa,.int .i64 sb] 170))
  have HMa:=zh (HM2.out.alloc (.cells #[.int .i64 sa,.int .i64 sb] 170))
  clear h9 hS9
  generalize w2.alloc (.cells #[.int .i64 sa,.int .i64 sb] 170)=W2 at H9a H3a HOWNa HMa ⊢
  refine (itself_any _ _ _ _).mono ?_
  rintro e w3 ⟨rfl,hm3⟩
  have H9b:=zh ((hm3.block S9 (lt_of_heap H9a.out) id).trans H9a.out)
  have H3b:=zh ((hm3.block R (lt_of_heap H3a.out) id).trans H3a.out)
  have HOWNb:=zh (owns_mv HOWNa.out hm3 (fun _ _ _ h=>h))
  have HMb:=zh (HMa.out.trans hm3)
  clear hm3
  have hlit:=World.ownsRow_lit (base:=w3.heap.size) (e:=174) (size:=3) w3 #[.int .i64 sa,.int .i64 sb,.bool false] 1 (Nat.le_refl _) (by decide) rfl
  have HLIT:=zh hlit
  clear hlit
  have H9c:=zh ((Below.heap_alloc w3 (.cells #[.int .i64 sa,.int .i64 sb,.bool false] 174) _ (lt_of_heap H9b.out)).trans H9b.out)
  have H3c:=zh ((Below.heap_alloc w3 (.cells #[.int .i64 sa,.int .i64 sb,.bool false] 174) _ (lt_of_heap H3b.out)).trans H3b.out)
  have HOWNc:=zh (HOWNb.out.alloc (.cells #[.int .i64 sa,.int .i64 sb,.bool false] 174))
  have HMc:=zh (HMb.out.alloc (.cells #[.int .i64 sa,.int .i64 sb,.bool false] 174))
  have HBIG:Hid (R<w3.heap.size∧S9<w3.heap.size):=zh ⟨lt_of_heap H3b.out,lt_of_heap H9b.out⟩
  have HCNT:Hid (1+down.length=way.length):=zh (by rw [HW1.out,List.length_cons,List.length_reverse];omega)
  have HFL:Hid ((#[.int .i64 sa,.int .i64 sb,.bool false]:Array Value).toList++stepsV down.reverse=stepsV way):=zh (by rw [HW1.out];rfl)
  rcases HOWNb.out.2 with ⟨heq,hn0⟩|⟨g,cap,cur,heq,_⟩
  ·simp only [Value.slice.injEq] at heq
   obtain ⟨rfl,hd0,rfl⟩:=heq
   rw [hd0]
   have HD0:=zh hd0
   clear hd0 hn0
   obtain ⟨v5,hv5⟩:=zg (Value.slice (some ⟨w3.heap.size,0,none⟩) 1 1)
   have HOWN3:Hid ((w3.alloc (.cells #[.int .i64 sa,.int .i64 sb,.bool false] 174)).ownsRow (R+1) 174 3 v5 way.length (stepsV way)):=zh (by
    rw [←HCNT.out,HD0.out,←HFL.out,List.eq_nil_of_length_eq_zero HD0.out,hv5]
    exact owns_mono HLIT.out HBIG.out.1)
   have HV5:=zh hv5
   clear hv5
   go_wp2_with (first
    | (at_builtin;go_loud (refine wpList_append_own_none rfl _ _ 168 rfl w3.heap.size 174 i0 3 Tryz.underlying168 hi0 (.slice (some ⟨w3.heap.size,0,none⟩) 1 1) 1 _ rfl HLIT.out rfl ?_;rw [←HV5.out];generalize w3.alloc (.cells #[.int .i64 sa,.int .i64 sb,.bool false] 174)=W3 at H9c H3c HOWN3 HMc ⊢;have H9:=H9c;have H3:=H3c;have HM3:=HMc)))
   have q0:=cell_of_heap H9.out 0 rfl
   have q1:=cell_of_heap H9.out 1 rfl
   have r0:=cell_of_heap H3.out 0 rfl
   have r1:=cell_of_heap H3.out 1 rfl
   have z0:=free_of_heap H3.out 0
   have z1:=free_of_heap H3.out 1
   go_region
   all_goals go_wp2_with fail
   all_goals
    refine bodyPost_ret (results_tc (fn:=Tryz.f90) rfl _ _ R 170 #[.int .i64 sa,.int .i64 sb] _ _ rfl rfl ?hg Tryz.underlying170 rfl (by kernel_rfl)) rfl ?hp
    case hg=>exact (heap_setCell_same (heap_setCell_same H3.out _) _).trans rfl
    case hp=>exact ⟨_,rfl,owns_mono (owns_setCell (owns_setCell HOWN3.out R 0 (.int .i64 sa) (Nat.lt_succ_self R)) R 1 (.int .i64 sb) (Nat.lt_succ_self R)) (Nat.le_succ_of_le HRW.out),((HM3.out.setCell (.inr HRW.out) _).setCell (.inr HRW.out) _).drew⟩
  ·simp only [Value.slice.injEq] at heq
   obtain ⟨rfl,-,rfl⟩:=heq
   go_wp2_with (first
    | (at_builtin;go_loud (refine wpList_append_own _ rfl _ _ 168 rfl w3.heap.size 174 i0 (.agg #[.int .i64 0,.int .i64 0,.bool false]) 3 24 Tryz.underlying168 hi0 hz0 hz1 hz2 rfl (by decide) _ _ _ rfl HLIT.out ⟨g,0,none⟩ down.length _ (stepsV down.reverse) rfl (by rw [stepsV_len,List.length_reverse]) (HOWNc.out.cells rfl) (step_one _) (by unfold maxLen;omega) (by omega) (by simp) ?_;intro v5 W3 hown5 hgrow5 hnil5;have hm5:Mv (fun g=>w3.heap.size≤g) (w3.alloc (.cells #[.int .i64 sa,.int .i64 sb,.bool false] 174)) W3:=(Mv.refl _ _).grown hgrow5 (fun k hk=>.inl (HLIT.out.lt k hk).1);have H9:=zh ((hm5.block S9 (lt_of_heap H9c.out) (by have:=HBIG.out;omega)).trans H9c.out);have H3:=zh ((hm5.block R (lt_of_heap H3c.out) (by have:=HBIG.out;omega)).trans H3c.out);have HM3:Hid (Mv (fun _=>False) w W3):=zh (HMb.out.trans' (((Mv.refl (fun g=>w3.heap.size≤g) w3).alloc _).trans hm5) (fun i hi hg=>absurd hg (by have:=HMb.out.size;omega)));have HOWN3:Hid (W3.ownsRow (R+1) 174 3 v5 way.length (stepsV way)):=zh (by rw [←HCNT.out,←HFL.out];exact owns_mono hown5 HBIG.out.1);obtain ⟨pp,cc,rfl⟩:=owns_shape hown5;clear hown5 hgrow5 hnil5 hm5)))
   have q0:=cell_of_heap H9.out 0 rfl
   have q1:=cell_of_heap H9.out 1 rfl
   have r0:=cell_of_heap H3.out 0 rfl
   have r1:=cell_of_heap H3.out 1 rfl
   have z0:=free_of_heap H3.out 0
   have z1:=free_of_heap H3.out 1
   go_region
   all_goals go_wp2_with fail
   all_goals
    refine bodyPost_ret (results_tc (fn:=Tryz.f90) rfl _ _ R 170 #[.int .i64 sa,.int .i64 sb] _ _ rfl rfl ?hg Tryz.underlying170 rfl (by kernel_rfl)) rfl ?hp
    case hg=>exact (heap_setCell_same (heap_setCell_same H3.out _) _).trans rfl
    case hp=>exact ⟨_,rfl,owns_mono (owns_setCell (owns_setCell HOWN3.out R 0 (.int .i64 sa) (Nat.lt_succ_self R)) R 1 (.int .i64 sb) (Nat.lt_succ_self R)) (Nat.le_succ_of_le HRW.out),((HM3.out.setCell (.inr HRW.out) _).setCell (.inr HRW.out) _).drew⟩
end Go.Proofs.YtdfdikpklddnhaaGreatDoor
