/- Of the proof of EvidenceJudges, second form: for values of bulk at most 1048576. (Ej10) -/
import Derived.Test.YtdfdikpklddnhaaGreatDoorEj01
import Derived.Test.YtdfdikpklddnhaaGreatDoorEj09
import Derived.Laws.EntriesVeiled
namespace Go.Proofs.YtdfdikpklddnhaaGreatDoor
open Go.RowKit
def f86 (K:Nat):Value:=.func (.func 86) #[] #[.pointer (some ⟨K,0,none⟩)]
def f87 (O:Nat):Value:=.func (.func 87) #[] #[.pointer (some ⟨O,0,none⟩)]
def f88 (O:Nat):Value:=.func (.func 88) #[] #[.pointer (some ⟨O,0,none⟩)]
theorem heap3 (w:World) (a b c:Obj):(((w.alloc a).alloc b).alloc c).heap[w.heap.size]?=some a∧(((w.alloc a).alloc b).alloc c).heap[w.heap.size+1]?=some b∧(((w.alloc a).alloc b).alloc c).heap[w.heap.size+1+1]?=some c:=by
 have s1:(w.alloc a).heap.size=w.heap.size+1:=by simp
 have s2:((w.alloc a).alloc b).heap.size=w.heap.size+1+1:=by simp
 refine ⟨?_,?_,?_⟩
 ·rw [Below.heap_alloc _ _ _ (by omega),Below.heap_alloc _ _ _ (by omega)];exact heap_alloc_new _ _
 ·rw [Below.heap_alloc _ _ _ (by omega),←s1];exact heap_alloc_new _ _
 ·rw [←s2];exact heap_alloc_new _ _
set_option maxRecDepth 100000 in
set_option maxHeartbeats 1600000 in
theorem hasher_any (k:Int) (w:World):Calls Tryz.prog 54 #[.int .i64 k] w fun e w'=>∃ K O,e=.returned (.agg #[.int .i64 (effK k),f86 K,f87 O,f88 O]) ∧
  w'.heap[K]?=some (.cells #[.int .i64 (effK k)] 3 (0,0))∧w'.heap[O]?=some (.cells #[f86 K] 112 (0,0))∧w.heap.size≤K∧w.heap.size≤O∧Mv (fun _=>False) w w':=by
 have hmf:∀ (fn:Fn) (first cap:Array Value) (w:World),(Instr.makeFunc fn first cap).run Tryz.prog w=.ok (.func fn first cap) w:=fun _ _ _ _=>rfl
 by_cases h:1≤k∧k≤31
 ·obtain ⟨h1,h2⟩:=h
  have he:(effK k:Int)=k:=by unfold effK;rw [if_pos ⟨h1,h2⟩];omega
  rw [he]
  clear he
  go_enter Tryz.func54,Tryz.ntmps54
  go_wp2_with fail
  refine bodyPost_ret (v:=.agg #[.int .i64 k,f86 w.heap.size,f87 (w.heap.size+1+1),f88 (w.heap.size+1+1)]) ?_ rfl ⟨w.heap.size,w.heap.size+1+1,rfl,(heap3 w _ _ _).1,(heap3 w _ _ _).2.2,Nat.le_refl _,by omega,(((Mv.refl _ _).alloc _).alloc _).alloc _⟩
  exact results_cell_row (fn:=Tryz.f54) rfl _ _ (w.heap.size+1) 115 _ (0,0) _ rfl (heap3 w _ _ _).2.1 Tryz.underlying115 rfl (by kernel_rfl)
 ·have he:(effK k:Int)=32:=by unfold effK;rw [if_neg h];rfl
  rw [he]
  clear he
  by_cases h1:k<1
  ·clear h
   go_enter Tryz.func54,Tryz.ntmps54
   go_wp2_with fail
   refine bodyPost_ret (v:=.agg #[.int .i64 32,f86 w.heap.size,f87 (w.heap.size+1+1),f88 (w.heap.size+1+1)]) ?_ rfl ⟨w.heap.size,w.heap.size+1+1,rfl,(heap3 w _ _ _).1,(heap3 w _ _ _).2.2,Nat.le_refl _,by omega,(((Mv.refl _ _).alloc _).alloc _).alloc _⟩
   exact results_cell_row (fn:=Tryz.f54) rfl _ _ (w.heap.size+1) 115 _ (0,0) _ rfl (heap3 w _ _ _).2.1 Tryz.underlying115 rfl (by kernel_rfl)
  ·have h2:31<k:=by omega
   clear h
   go_enter Tryz.func54,Tryz.ntmps54
   go_wp2_with fail
   refine bodyPost_ret (v:=.agg #[.int .i64 32,f86 w.heap.size,f87 (w.heap.size+1+1),f88 (w.heap.size+1+1)]) ?_ rfl ⟨w.heap.size,w.heap.size+1+1,rfl,(heap3 w _ _ _).1,(heap3 w _ _ _).2.2,Nat.le_refl _,by omega,(((Mv.refl _ _).alloc _).alloc _).alloc _⟩
   exact results_cell_row (fn:=Tryz.f54) rfl _ _ (w.heap.size+1) 115 _ (0,0) _ rfl (heap3 w _ _ _).2.1 Tryz.underlying115 rfl (by kernel_rfl)
end Go.Proofs.YtdfdikpklddnhaaGreatDoor
namespace Go.Proofs.YtdfdikpklddnhaaGreatDoor
open Go.RowKit
set_option linter.unusedSimpArgs false
theorem wp_append_slin {o:Oper} {a:Act} {w:World} {K:Act→World→Prop} {Q:Exit→Act→World→Prop} (s x:Operand)
  (ho:o.op=.call { callee:=.builtin .append,args:=#[s,x],argTypes:=#[26,26] }) (base:Nat) (v:Value) (xs:Bs) (hs:a.eval s=v) (hown:w.ownsRow base 5 1 v xs.length (xs.map byteV))
  (sv:Value) (l:Bs) (hx:a.eval x=sv) (hsl:SlIn w sv l) (hbd:xs.length+l.length≤70368744177664) (hbase:base≤w.heap.size)
  (h:∀ v' w',w'.ownsRow base 5 1 v' (xs++l).length ((xs++l).map byteV)→Mv (fun b=>base≤b) w w'→K (a.put o.dst v') w'):o.wp Tryz.prog a w K Q:=by
 obtain ⟨i0,hi0,hz0,hz1,hz2⟩:=info_parts Tryz.info5
 rcases hsl with ⟨rfl,rfl⟩|⟨g,off,cap,rfl,hc,hb,_⟩
 ·have hrun:=run_append_owned_none (P:=Tryz.prog) (w:=w) base 26 o.type 5 i0 1 Tryz.underlying26 hi0 v xs.length (xs.map byteV) hown
  unfold Oper.wp
  simp [execOp,ho,resolve,invoke,builtin,hs,hx,hrun,Result.andThen]
  exact h v w (by simpa using hown) (Mv.refl _ _)
 ·refine wp_append_own w s x 26 ho base 5 i0 (.int .u8 0) 1 1 Tryz.underlying26 hi0 hz0 hz1 hz2 rfl (by decide) v xs.length (xs.map byteV) hs hown ⟨g,off,none⟩ l.length cap (l.map byteV) hx (by simp) hb.news (byteV_one l) (by unfold maxLen;omega) (by omega) hbase (fun v' w' h2 h3 _=>?_)
  refine h v' w' (by rw [List.length_append,List.map_append];exact h2) ?_
  exact (Mv.refl _ _).grown h3 (fun k hk=>.inl (hown.lt k hk).1)
theorem owns_slin {w:World} {base:Nat} {v:Value} {l:Bs} (h:w.ownsRow base 5 1 v l.length (l.map byteV)):SlIn w v l:=by
 rcases h.2 with ⟨h1,h0⟩|⟨g,c,cur,rfl,hb,hg,hc,hm,hcs,htk⟩
 ·exact .inl ⟨h1,List.eq_nil_of_length_eq_zero h0⟩
 ·refine .inr ⟨g,0,c,rfl,hc,fun j b hj=>?_,lt_of_heap hg⟩
  have hq:(l.map byteV)[j]?=some (byteV b):=by rw [List.getElem?_map,hj];rfl
  rw [←htk,List.getElem?_take] at hq
  rw [Nat.zero_add,cell_of_row _ _ _ _ _ _ hg]
  split at hq
  ·simpa [byteV] using hq
  ·cases hq
set_option maxRecDepth 100000 in
set_option maxHeartbeats 1600000 in
theorem leaf_any (v:Value) (l:Bs) (K O m:Nat) (w:World) (hv:SlIn w v l) (hl:l.length≤549755813888) (he:EnvH w) (hK:w.heap[K]?=some (.cells #[.int .i64 m] 3 (0,0))) (hO:w.heap[O]?=some (.cells #[f86 K] 112 (0,0))) (hm:1≤m∧m≤32) :
  Calls Tryz.prog 87 #[v,.pointer (some ⟨O,0,none⟩)] w fun e w'=>e=.returned (hashV (weakL m (sha (0 :: l))))∧Mv (fun _=>False) w w':=by
 obtain ⟨i0,hi0,hz0,hz1,hz2⟩:=info_parts Tryz.info5
 have HV:=zh hv
 have HE:=zh he
 have HL:=zh hl
 have HK:=zh hK
 have HO:=zh hO
 have HMM:=zh hm
 obtain ⟨n,hn⟩:=zg (l.length)
 have HN:=zh hn
 have hnb:n≤549755813888:=by rw [hn];exact hl
 obtain ⟨a,cap,hva⟩:∃ a cap,v=.slice a n cap:=by
  rcases hv with ⟨rfl,rfl⟩|⟨g,off,cap,rfl,_⟩
  ·exact ⟨none,0,by rw [hn];rfl⟩
  ·exact ⟨some ⟨g,off,none⟩,cap,by rw [hn]⟩
 subst hva
 clear hv he hl hK hO hm hn
 go_enter Tryz.func87,Tryz.ntmps87
 go_upto_region 1 with fail
 generalize hZ:(#[_,_,_,_,_,_,_,_,_,_,_,_,_,_,_,_,_,_,_,_,_,_,_,_,_,_,_,_,_,_,_,_]:Array Value)=Z
 have hZs:Z.size=32:=by rw [←hZ];rfl
 obtain ⟨R,hR⟩:=zg (w.heap.size)
 rw [←hR]
 generalize hW1:w.alloc _=W1
 have h1:W1.heap[R]?=some (.cells Z 34 (0,0)):=by rw [←hW1,hR];exact heap_alloc_new _ _
 have hma:Mv (fun _=>False) w W1:=by rw [←hW1];exact (Mv.refl _ _).alloc _
 have H1:=zh h1
 have HM1:=zh hma
 have HR:=zh hR
 have HZS:=zh hZs
 obtain ⟨B,hB⟩:=zg (W1.heap.size)
 have HB:=zh hB
 have HCP:Hid ((n:Int)+1=((n+1:Nat):Int)):=zh (by omega)
 clear hZ hZs hW1 h1 hma hR
 go_wp2_with (first
  | (at_make;go_loud (refine wpList_make_own _ rfl _ _ 26 rfl _ 5 i0 (.int .u8 0) 1 Tryz.underlying26 hi0 hz0 hz1 .i64 .i64 ((n:Int)+1) (n+1) rfl rfl HCP.out (by rw [hz2];omega) (by unfold maxLen;omega) (Nat.le_refl W1.heap.size) ?_);intro w2 hown0 hgrow0;have HOWN0:=zh hown0;have HGROW0:=zh hgrow0;clear hown0 hgrow0)
  | (at_builtin;go_loud (refine wpList_append_own _ rfl _ _ 26 rfl W1.heap.size 5 i0 (.int .u8 0) 1 1 Tryz.underlying26 hi0 hz0 hz1 hz2 rfl (by decide) _ _ _ rfl (HOWN0.out.alloc _) ⟨w2.heap.size,0,none⟩ 1 1 [_] rfl rfl (cell_one_new _ _ _) (by intro u hu;simp at hu;subst hu;rfl) (by unfold maxLen;omega) (by omega) (by have:=HGROW0.out.size;simp;omega) ?_);intro v3 w3 hown3 hgrow3 hnil3;have HOWN3:=zh hown3;have HGROW3:=zh hgrow3;clear hown3 hgrow3 hnil3))
 have hm3:Mv (fun _=>False) w w3:=by
  have e1:Mv (fun _=>False) W1 w2:=(Mv.refl _ _).grown HGROW0.out (fun k hk=>by cases hk)
  have e2:Mv (fun b=>B≤b) W1 w3:=((e1.mono (fun _ _ h=>h.elim)).alloc _).grown HGROW3.out (fun k hk=>.inl (by have:=(HOWN0.out.lt k hk).1;rw [HB.out];exact this))
  exact HM1.out.trans' e2 (fun i hi h=>by have:=HB.out;have:=HM1.out.size;omega)
 have HM3:=zh hm3
 have ho3:w3.heap[O]?=some (.cells #[f86 K] 112 (0,0)):=(hm3.block O (lt_of_heap HO.out) id).trans HO.out
 have HK3:Hid (w3.heap[K]?=some (.cells #[.int .i64 m] 3 (0,0))):=zh ((hm3.block K (lt_of_heap HK.out) id).trans HK.out)
 have HV3:Hid (SlIn w3 (.slice a n cap) l):=zh (HV.out.mv hm3 (fun _ _ h=>h))
 have HE3:Hid (EnvH w3):=zh (HE.out.mv hm3 (fun _ h=>h.elim))
 have hown3:w3.ownsRow B 5 1 v3 ([0]:Bs).length (([0]:Bs).map byteV):=by
  have h:=HOWN3.out
  rw [←HB.out] at h
  exact h
 have HOWN:=zh hown3
 have hB3:B≤w3.heap.size:=by
  rw [HB.out]
  have h1:=HGROW0.out.size
  have h2:=HGROW3.out.size
  simp at h2;omega
 have HO3:=zh ho3
 clear hm3 ho3 hown3
 refine wp_region_noPanic ?_
 refine wp_region_held_drew (S:=fun w'=>w'.heap[O]?=some (.cells #[f86 K] 112 (0,0))) (by kernel_rfl) HO3.out (fun hHeld=>?_)
 refine zj 0 (f86 K) rfl (Or.inl ⟨by rfl,fun w5 hS=>by have c0:w5.cell? ⟨O,0,none⟩=some (f86 K):=cell_of_heap hS 0 rfl;go_simp⟩) hHeld ?_
 try walk_nrm
 refine zt 1 v3 rfl (fun _ hS=>by go_simp) hHeld ?_
 try walk_nrm
 refine zt 2 (.slice a n cap) rfl (fun _ hS=>by go_simp) hHeld ?_
 try walk_nrm
 refine zo 3 rfl fun K' hK=>?_
 refine wp_append_slin (.tmp 13) (.tmp 14) rfl B v3 [0] rfl HOWN.out.drew (.slice a n cap) l rfl (show SlIn w3.drew _ _ from HV3.out) (by rw [←HN.out];simp;omega) hB3 (fun v4 w4 hown4 hm4=>?_)
 have hm4':Mv (fun b=>B≤b) w3 w4:=⟨hm4.os,hm4.tape,hm4.output,hm4.size,hm4.block⟩
 have HOWN4:=zh hown4
 have HM4:=zh hm4'
 clear hown4 hm4 hm4'
 refine hK.out _ _ ((HM4.out.block O (lt_of_heap HO3.out) (by have:=lt_of_heap HO.out;have:=HM1.out.size;have:=HB.out;omega)).trans HO3.out) (fun hHeld=>?_)
 clear hK K'
 try walk_nrm
 refine zo 4 rfl fun K' hK=>?_
 unfold f86 Oper.wp execOp
 go_simp
 have hBw:w.heap.size<B:=by rw [HB.out];have:=lt_of_heap H1.out;have:=HR.out;omega
 have hm4w:Mv (fun _=>False) w w4:=HM3.out.trans' HM4.out (fun i hi h=>by omega)
 have hlast:SlIn w4 v4 (0 :: l):=owns_slin HOWN4.out
 refine (of_any v4 (0 :: l) K m w4 hlast (by have:=HL.out;simp;omega) (HE.out.mv hm4w (fun _ h=>h.elim)) (cell_of_heap ((hm4w.block K (lt_of_heap HK.out) id).trans HK.out) 0 rfl) HMM.out).mono ?_
 rintro e w5 ⟨rfl,hm5⟩
 have hm5w:Mv (fun _=>False) w w5:=hm4w.trans hm5
 have hr5:w5.heap[R]?=some (.cells Z 34 (0,0)):=by
  have hr1:R<B:=by rw [HB.out];exact lt_of_heap H1.out
  have e2:Mv (fun b=>B≤b) W1 w3:=by
   have e1:Mv (fun _=>False) W1 w2:=(Mv.refl _ _).grown HGROW0.out (fun k hk=>by cases hk)
   exact ((e1.mono (fun _ _ h=>h.elim)).alloc _).grown HGROW3.out (fun k hk=>.inl (by have:=(HOWN0.out.lt k hk).1;rw [HB.out];exact this))
  have e3:Mv (fun b=>B≤b) W1 w5:=(e2.trans HM4.out).trans (hm5.mono (fun _ _ h=>h.elim))
  exact (e3.block R (lt_of_heap H1.out) (by omega)).trans H1.out
 have HM5:=zh hm5w
 have HR5:=zh hr5
 obtain ⟨cs,hcs⟩:=zg (((weakL m (sha (0 :: l))).map byteV).toArray)
 have hcsz:cs.size=32:=by rw [hcs];simp [weakL_length m _ HMM.out.2 (sha_length _)]
 unfold hashV
 rw [←hcs]
 have HCS:=zh hcs
 have HCSZ:=zh hcsz
 have HONE:Hid (cs.all (·.oneCell')=true):=zh (by rw [hcs];exact hash_one _)
 have HI34:Hid ((Tryz.prog.info? 34).map (·.size)=some cs.size):=zh (by rw [hcsz];exact info34)
 have HZC:Hid (Z.size=cs.size):=zh (by rw [HZS.out,hcsz])
 clear hm4w hm5 hm5w hr5 hlast hcs hcsz
 refine hK.out _ _ ((HM5.out.block O (lt_of_heap HO.out) id).trans HO.out) (fun hHeld=>?_)
 clear hK K'
 try walk_nrm
 refine zo 5 rfl fun K' hK=>?_
 refine wp_store_row 34 _ _ rfl R cs rfl rfl 34 Z HR5.out HI34.out HZC.out HONE.out ?_
 refine hK.out _ _ ((setRow_other _ _ _ _ (by have:=lt_of_heap HO.out;have:=HR.out;omega)).trans hHeld) (fun hHeld=>?_)
 clear hK K'
 try walk_nrm
 refine zd ?_
 go_wp2_with fail
 refine bodyPost_ret (results_hash3 Tryz.f87 rfl _ _ R cs rfl (setRow_heap _ _ _ _ _ _ HR5.out) HCSZ.out) rfl ?_
 exact ⟨by rw [HCS.out];rfl,HM5.out.setRow (.inr (by have:=HR.out;omega)) _⟩
theorem results_hash5 (fn:Func) (hr:fn.results=#[.cell 5 34]) (tmps:Array Value) (w:World) (b:Nat) (cs:Array Value) (hp:tmps.getD 5 undef=.pointer (some ⟨b,0,none⟩)) (hc:w.heap[b]?=some (.cells cs 34 (0,0))) (hs:cs.size=32) :
  (results fn tmps).run Tryz.prog w=.ok (.agg cs) w :=
 results_cell_row (fn:=fn) hr tmps w b 34 cs (0,0) _ hp hc Tryz.underlying34 rfl (by rw [hs];exact info34)
theorem make65:∀ w:World,(Instr.makeSlice 26 (.int .i64 0) (.int .i64 65)).run Tryz.prog w=.ok (.slice (some ⟨w.heap.size,0,none⟩) 0 65) (w.alloc (.cells (zb 65) 5)):=fun _=>by kernel_rfl
theorem hash_slin {w:World} {g:Nat} {l:Bs} (hl:l.length=32) (h:w.heap[g]?=some (.cells (l.map byteV).toArray 34 (0,0))):SlIn w (.slice (some ⟨g,0,none⟩) 32 32) l:=by
 refine .inr ⟨g,0,32,by rw [hl],by rw [hl];exact Nat.le_refl _,fun j b hj=>?_,lt_of_heap h⟩
 rw [Nat.zero_add,cell_of_row _ _ _ _ _ _ h]
 simp [hj,byteV]
theorem grown_mv {w w':World} {base:Nat} {v:Value} (hg:w.grownBy w' v.ownBlock) (hv:v.ownBlock=none∨∃ g,v.ownBlock=some g∧base≤g:=by first|exact .inl rfl|exact .inr ⟨_,rfl,Nat.le_refl _⟩):Mv (fun b=>base≤b) w w' :=
 (Mv.refl _ _).grown hg (fun k hk=>.inl (by
  rcases hv with h|⟨g,h,hb⟩
  ·rw [h] at hk;cases hk
  ·rw [h] at hk;cases hk;exact hb))
theorem wpList_append_slin {ops:Array Oper} {rest:List Oper} {o:Oper} {a:Act} {w:World} {Q:Exit→Act→World→Prop} (hgd:o.guard=none) (s x:Operand)
  (ho:o.op=.call { callee:=.builtin .append,args:=#[s,x],argTypes:=#[26,26] }) (base:Nat) (v:Value) (xs:Bs) (hs:a.eval s=v) (hown:w.ownsRow base 5 1 v xs.length (xs.map byteV))
  (sv:Value) (l:Bs) (hx:a.eval x=sv) (hsl:SlIn w sv l) (hbd:xs.length+l.length≤70368744177664) (hbase:base≤w.heap.size)
  (h:∀ v' w',w'.ownsRow base 5 1 v' (xs++l).length ((xs++l).map byteV)→Mv (fun b=>base≤b) w w'→wpList Tryz.prog ops Q rest (a.put o.dst v') w'):wpList Tryz.prog ops Q (o :: rest) a w :=
 wpList_plain hgd fun _ hK=>wp_append_slin s x ho base v xs hs hown sv l hx hsl hbd hbase (fun v' w' h1 h2=>hK _ _ (h v' w' h1 h2))
set_option maxRecDepth 100000 in
set_option maxHeartbeats 1600000 in
theorem node_any (a b:Bs) (K O m:Nat) (w:World) (ha:a.length=32) (hb:b.length=32) (he:EnvH w) (hK:w.heap[K]?=some (.cells #[.int .i64 m] 3 (0,0))) (hO:w.heap[O]?=some (.cells #[f86 K] 112 (0,0))) (hm:1≤m∧m≤32) :
  Calls Tryz.prog 88 #[hashV a,hashV b,.pointer (some ⟨O,0,none⟩)] w fun e w'=>e=.returned (hashV (weakL m (sha (1 :: (a++b)))))∧Mv (fun _=>False) w w':=by
 obtain ⟨i0,hi0,hz0,hz1,hz2⟩:=info_parts Tryz.info5
 have HA:=zh ha
 have HBB:=zh hb
 have HE:=zh he
 have HK:=zh hK
 have HO:=zh hO
 have HMM:=zh hm
 obtain ⟨ca,hca⟩:=zg ((a.map byteV).toArray)
 obtain ⟨cb,hcb⟩:=zg ((b.map byteV).toArray)
 unfold hashV
 rw [←hca,←hcb]
 have HCA:=zh hca
 have HCB:=zh hcb
 clear ha hb he hK hO hm hca hcb
 go_enter Tryz.func88,Tryz.ntmps88
 go_upto_region 1 with fail
 generalize hZ:(#[_,_,_,_,_,_,_,_,_,_,_,_,_,_,_,_,_,_,_,_,_,_,_,_,_,_,_,_,_,_,_,_]:Array Value)=Z
 have hZs:Z.size=32:=by rw [←hZ];rfl
 obtain ⟨h3a,h3b,h3c⟩:=heap3 w (.cells ca 34) (.cells cb 34) (.cells Z 34)
 obtain ⟨LA,hLA⟩:=zg (w.heap.size)
 rw [←hLA] at h3a h3b h3c ⊢
 obtain ⟨LB,hLB⟩:=zg (LA+1)
 rw [←hLB] at h3b h3c ⊢
 obtain ⟨R,hR⟩:=zg (LB+1)
 rw [←hR] at h3c ⊢
 have hma:Mv (fun _=>False) w (((w.alloc (.cells ca 34)).alloc (.cells cb 34)).alloc (.cells Z 34)):=(((Mv.refl _ _).alloc _).alloc _).alloc _
 have hsz1:(((w.alloc (.cells ca 34)).alloc (.cells cb 34)).alloc (.cells Z 34)).heap.size=R+1:=by rw [hR,hLB,hLA];simp
 generalize hW1:((w.alloc (.cells ca 34)).alloc (.cells cb 34)).alloc (.cells Z 34)=W1
 rw [hW1] at h3a h3b h3c hma hsz1
 have H3A:=zh h3a
 have H3B:=zh h3b
 have H3C:=zh h3c
 have HM1:=zh hma
 have HZS:=zh hZs
 obtain ⟨B,hB⟩:=zg (W1.heap.size)
 have HB:=zh hB
 have HRB:Hid (R+1=B∧R=LB+1∧LB=LA+1∧LA=w.heap.size):=zh ⟨by rw [hB,hsz1],hR,hLB,hLA⟩
 have hmk:=make65
 have HOWN0:Hid ((W1.alloc (.cells (zb 65) 5)).ownsRow W1.heap.size 5 1 (.slice (some ⟨W1.heap.size,0,none⟩) 0 65) 0 []):=zh (World.ownsRow_made W1 (zb 65) 65 (Nat.le_refl _) (by unfold maxLen;decide) (by unfold zb;simp))
 have hm2:Mv (fun _=>False) W1 (W1.alloc (.cells (zb 65) 5)):=(Mv.refl _ _).alloc _
 have HM2:=zh hm2
 clear hZ hZs h3a h3b h3c hLA hLB hR hma hsz1 hW1 hB hm2
 have HF3:Hid (∀ w3 v3,w3.ownsRow W1.heap.size 5 1 v3 (0+1) ([]++[.int .u8 1])→Mv (fun b=>W1.heap.size≤b) ((W1.alloc (.cells (zb 65) 5)).alloc (.cells #[.int .u8 1] 5)) w3→w3.ownsRow B 5 1 v3 ([1]:Bs).length (([1]:Bs).map byteV)∧SlIn w3 (.slice (some ⟨LA,0,none⟩) 32 32) a∧B≤w3.heap.size∧Mv (fun b=>B≤b) W1 w3):=zh (by
  intro w3 v3 h1 h2
  have e:Mv (fun b=>B≤b) W1 w3:=by
   have e1:Mv (fun b=>B≤b) W1 ((W1.alloc (.cells (zb 65) 5)).alloc (.cells #[.int .u8 1] 5)):=((Mv.refl _ _).alloc _).alloc _
   rw [HB.out] at e1 ⊢
   exact e1.trans h2
  refine ⟨by rw [HB.out];exact h1,?_,by have:=e.size;rw [HB.out];exact this,e⟩
  have hla:w3.heap[LA]?=some (.cells ca 34 (0,0)):=(e.block LA (lt_of_heap H3A.out) (by have:=HRB.out;omega)).trans H3A.out
  exact hash_slin HA.out (by rw [←HCA.out];exact hla))
 go_upto_region 4 with (first
  | (at_builtin;go_loud (refine wpList_append_own _ rfl (.tmp 8) (.tmp 9) 26 rfl W1.heap.size 5 i0 (.int .u8 0) 1 1 Tryz.underlying26 hi0 hz0 hz1 hz2 rfl (by decide) (.slice (some ⟨W1.heap.size,0,none⟩) 0 65) _ _ rfl (HOWN0.out.alloc _) ⟨W1.heap.size+1,0,none⟩ 1 1 [_] rfl rfl (by have h:=cell_one_new (W1.alloc (.cells (zb 65) 5)) (.int .u8 1) 5;simpa using h) (by intro u hu;simp at hu;subst hu;rfl) (by unfold maxLen;omega) (by omega) (by simp;omega) ?_);intro v3 w3 hown3 hgrow3 hnil3;have HOWN3:=zh hown3;have HGROW3:=zh (grown_mv hgrow3);have G3:=zh (HF3.out w3 v3 HOWN3.out HGROW3.out);clear hown3 hgrow3 hnil3)
  | (at_builtin;go_loud (refine wpList_append_slin rfl (.tmp 11) (.tmp 12) rfl B v3 [1] rfl G3.out.1 (.slice (some ⟨LA,0,none⟩) 32 32) a rfl G3.out.2.1 (by rw [HA.out];decide) G3.out.2.2.1 ?_);intro v4 w4 hown4 hm4;have HOWN4:=zh hown4;have HM4:=zh hm4;clear hown4 hm4))
 have hms:Mv (fun b=>B≤b) W1 w4:=G3.out.2.2.2.trans HM4.out
 have HMS:=zh hms
 have hBw:w.heap.size<B:=by have:=HRB.out;omega
 have hm4w:Mv (fun _=>False) w w4:=HM1.out.trans' hms (fun i hi h=>by omega)
 have HM4W:=zh hm4w
 have HO4:Hid (w4.heap[O]?=some (.cells #[f86 K] 112 (0,0))):=zh ((hm4w.block O (lt_of_heap HO.out) id).trans HO.out)
 have HLB:Hid (SlIn w4 (.slice (some ⟨LB,0,none⟩) 32 32) b):=zh (by
  have hlb:w4.heap[LB]?=some (.cells cb 34 (0,0)):=(hms.block LB (lt_of_heap H3B.out) (by have:=HRB.out;omega)).trans H3B.out
  exact hash_slin HBB.out (by rw [←HCB.out];exact hlb))
 clear hms hm4w hmk
 refine wp_region_noPanic ?_
 refine wp_region_held_drew (S:=fun w'=>w'.heap[O]?=some (.cells #[f86 K] 112 (0,0))) (by kernel_rfl) HO4.out (fun hHeld=>?_)
 refine zj 0 (f86 K) rfl (Or.inl ⟨by rfl,fun w5 hS=>by have c0:w5.cell? ⟨O,0,none⟩=some (f86 K):=cell_of_heap hS 0 rfl;go_simp⟩) hHeld ?_
 try walk_nrm
 refine zt 1 v4 rfl (fun _ hS=>by go_simp) hHeld ?_
 try walk_nrm
 refine zt 2 (.slice (some ⟨LB,0,none⟩) 32 32) rfl (fun _ hS=>by go_simp) hHeld ?_
 try walk_nrm
 refine zo 3 rfl fun K' hK=>?_
 refine wp_append_slin (.tmp 15) (.tmp 16) rfl B v4 ([1]++a) rfl HOWN4.out.drew (.slice (some ⟨LB,0,none⟩) 32 32) b rfl (show SlIn w4.drew _ _ from HLB.out) (by rw [List.length_append,HA.out,HBB.out];decide) (by have:=HMS.out.size;rw [HB.out];exact this) (fun v5 w5 hown5 hm5=>?_)
 have hm5':Mv (fun b=>B≤b) w4 w5:=⟨hm5.os,hm5.tape,hm5.output,hm5.size,hm5.block⟩
 have HOWN5:=zh hown5
 have HM5:=zh hm5'
 clear hown5 hm5 hm5'
 have hm5w:Mv (fun _=>False) w w5:=HM4W.out.trans' HM5.out (fun i hi h=>by omega)
 have HM5W:=zh hm5w
 clear hm5w
 refine hK.out _ _ ((HM5W.out.block O (lt_of_heap HO.out) id).trans HO.out) (fun hHeld=>?_)
 clear hK K'
 try walk_nrm
 refine zo 4 rfl fun K' hK=>?_
 unfold f86 Oper.wp execOp
 go_simp
 have hlast:SlIn w5 v5 (1 :: (a++b)):=owns_slin HOWN5.out
 refine (of_any v5 (1 :: (a++b)) K m w5 hlast (by simp [HA.out,HBB.out]) (HE.out.mv HM5W.out (fun _ h=>h.elim)) (cell_of_heap ((HM5W.out.block K (lt_of_heap HK.out) id).trans HK.out) 0 rfl) HMM.out).mono ?_
 rintro e w6 ⟨rfl,hm6⟩
 have hm6w:Mv (fun _=>False) w w6:=HM5W.out.trans hm6
 have hr6:w6.heap[R]?=some (.cells Z 34 (0,0)):=by
  have e3:Mv (fun b=>B≤b) W1 w6:=(HMS.out.trans HM5.out).trans (hm6.mono (fun _ _ h=>h.elim))
  exact (e3.block R (lt_of_heap H3C.out) (by have:=HRB.out;omega)).trans H3C.out
 have HM6:=zh hm6w
 have HR6:=zh hr6
 obtain ⟨cs,hcs⟩:=zg (((weakL m (sha (1 :: (a++b)))).map byteV).toArray)
 have hcsz:cs.size=32:=by rw [hcs];simp [weakL_length m _ HMM.out.2 (sha_length _)]
 unfold hashV
 rw [←hcs]
 have HCS:=zh hcs
 have HCSZ:=zh hcsz
 have HONE:Hid (cs.all (·.oneCell')=true):=zh (by rw [hcs];exact hash_one _)
 have HI34:Hid ((Tryz.prog.info? 34).map (·.size)=some cs.size):=zh (by rw [hcsz];exact info34)
 have HZC:Hid (Z.size=cs.size):=zh (by rw [HZS.out,hcsz])
 clear hm6 hm6w hr6 hlast hcs hcsz
 refine hK.out _ _ ((HM6.out.block O (lt_of_heap HO.out) id).trans HO.out) (fun hHeld=>?_)
 clear hK K'
 try walk_nrm
 refine zo 5 rfl fun K' hK=>?_
 refine wp_store_row 34 _ _ rfl R cs rfl rfl 34 Z HR6.out HI34.out HZC.out HONE.out ?_
 refine hK.out _ _ ((setRow_other _ _ _ _ (by have:=lt_of_heap HO.out;have:=HRB.out;omega)).trans hHeld) (fun hHeld=>?_)
 clear hK K'
 try walk_nrm
 refine zd ?_
 go_wp2_with fail
 refine bodyPost_ret (results_hash5 Tryz.f88 rfl _ _ R cs rfl (setRow_heap _ _ _ _ _ _ HR6.out) HCSZ.out) rfl ?_
 exact ⟨by rw [HCS.out],HM6.out.setRow (.inr (by have:=HRB.out;omega)) _⟩
theorem field115_1 (x0:Int) (c1 c2 c3:Array Value) (n1 n2 n3:Nat) (W:World):(Instr.field 115 (.agg #[.int .i64 x0,.func (.func n1) #[] c1,.func (.func n2) #[] c2,.func (.func n3) #[] c3]) 1).run Tryz.prog W=.ok (.func (.func n1) #[] c1) W:=by kernel_rfl
theorem field115_2 (x0:Int) (c1 c2 c3:Array Value) (n1 n2 n3:Nat) (W:World):(Instr.field 115 (.agg #[.int .i64 x0,.func (.func n1) #[] c1,.func (.func n2) #[] c2,.func (.func n3) #[] c3]) 2).run Tryz.prog W=.ok (.func (.func n2) #[] c2) W:=by kernel_rfl
theorem field115_3 (x0:Int) (c1 c2 c3:Array Value) (n1 n2 n3:Nat) (W:World):(Instr.field 115 (.agg #[.int .i64 x0,.func (.func n1) #[] c1,.func (.func n2) #[] c2,.func (.func n3) #[] c3]) 3).run Tryz.prog W=.ok (.func (.func n3) #[] c3) W:=by kernel_rfl
def leafP (k:Int) (l:Bs):Bs:=weakL (effK k) (sha (0 :: l))
def nodeP (k:Int) (a b:Bs):Bs:=weakL (effK k) (sha (1 :: (a++b)))
def emptyP (k:Int):Bs:=weakL (effK k) (sha [])
theorem leafP_length (k:Int) (l:Bs):(leafP k l).length=32:=weakL_length _ _ (effK_range k).2 (sha_length _)
theorem nodeP_length (k:Int) (a b:Bs):(nodeP k a b).length=32:=weakL_length _ _ (effK_range k).2 (sha_length _)
theorem emptyP_length (k:Int):(emptyP k).length=32:=weakL_length _ _ (effK_range k).2 (sha_length _)
theorem results_hash4 (fn:Func) (hr:fn.results=#[.cell 4 34]) (tmps:Array Value) (w:World) (b:Nat) (cs:Array Value) (hp:tmps.getD 4 undef=.pointer (some ⟨b,0,none⟩)) (hc:w.heap[b]?=some (.cells cs 34 (0,0))) (hs:cs.size=32) :
  (results fn tmps).run Tryz.prog w=.ok (.agg cs) w :=
 results_cell_row (fn:=fn) hr tmps w b 34 cs (0,0) _ hp hc Tryz.underlying34 rfl (by rw [hs];exact info34)
theorem results_hash6 (fn:Func) (hr:fn.results=#[.cell 6 34]) (tmps:Array Value) (w:World) (b:Nat) (cs:Array Value) (hp:tmps.getD 6 undef=.pointer (some ⟨b,0,none⟩)) (hc:w.heap[b]?=some (.cells cs 34 (0,0))) (hs:cs.size=32) :
  (results fn tmps).run Tryz.prog w=.ok (.agg cs) w :=
 results_cell_row (fn:=fn) hr tmps w b 34 cs (0,0) _ hp hc Tryz.underlying34 rfl (by rw [hs];exact info34)
set_option maxRecDepth 100000 in
set_option maxHeartbeats 1600000 in
theorem leafHash_any (k:Int) (v:Value) (l:Bs) (w:World) (hv:SlIn w v l) (hl:l.length≤549755813888) (he:EnvH w) :
  Calls Tryz.prog 51 #[.int .i64 k,v] w fun e w'=>e=.returned (hashV (leafP k l))∧Mv (fun _=>False) w w':=by
 have HV:=zh hv
 have HE:=zh he
 have HL:=zh hl
 clear hv he hl
 go_enter Tryz.func51,Tryz.ntmps51
 go_wp2_with fail
 generalize hZ:(#[_,_,_,_,_,_,_,_,_,_,_,_,_,_,_,_,_,_,_,_,_,_,_,_,_,_,_,_,_,_,_,_]:Array Value)=Z
 have hZs:Z.size=32:=by rw [←hZ];rfl
 obtain ⟨R,hR⟩:=zg (w.heap.size)
 rw [←hR]
 generalize hW1:w.alloc _=W1
 have h1:W1.heap[R]?=some (.cells Z 34 (0,0)):=by rw [←hW1,hR];exact heap_alloc_new _ _
 have hma:Mv (fun _=>False) w W1:=by rw [←hW1];exact (Mv.refl _ _).alloc _
 have H1:=zh h1
 have HM1:=zh hma
 have HR:=zh hR
 have HZS:=zh hZs
 clear hZ hZs hW1 h1 hma hR
 refine (hasher_any k W1).mono ?_
 rintro e w2 ⟨K,O,rfl,hk,ho,hkb,hob,hm2⟩
 have HKK:=zh hk
 have HOO:=zh ho
 have HM2:=zh hm2
 have hr2:Hid (w2.heap[R]?=some (.cells Z 34 (0,0))):=zh ((hm2.block R (lt_of_heap H1.out) id).trans H1.out)
 have hm2w:Mv (fun _=>False) w w2:=HM1.out.trans hm2
 have HM2W:=zh hm2w
 have HE2:Hid (EnvH w2):=zh (HE.out.mv hm2w (fun _ h=>h.elim))
 have HV2:Hid (SlIn w2 v l):=zh (HV.out.mv hm2w (fun _ _ h=>h))
 clear hk ho hm2 hm2w
 unfold f86 f87 f88
 have hfd:=field115_2
 go_wp2_with fail
 refine (leaf_any v l K O (effK k) w2 HV2.out HL.out HE2.out HKK.out HOO.out (effK_range k)).mono ?_
 rintro e w3 ⟨rfl,hm3⟩
 have HM3:Hid (Mv (fun _=>False) w w3):=zh (HM2W.out.trans hm3)
 have hr3:Hid (w3.heap[R]?=some (.cells Z 34 (0,0))):=zh ((hm3.block R (lt_of_heap hr2.out) id).trans hr2.out)
 obtain ⟨cs,hcs⟩:=zg (((weakL (effK k) (sha (0 :: l))).map byteV).toArray)
 have hcsz:cs.size=32:=by rw [hcs];simp [weakL_length _ _ (effK_range k).2 (sha_length _)]
 unfold hashV
 rw [←hcs]
 have HCS:=zh hcs
 have HCSZ:=zh hcsz
 have HONE:Hid (cs.all (·.oneCell')=true):=zh (by rw [hcs];exact hash_one _)
 have HI34:Hid ((Tryz.prog.info? 34).map (·.size)=some cs.size):=zh (by rw [hcsz];exact info34)
 have HZC:Hid (Z.size=cs.size):=zh (by rw [HZS.out,hcsz])
 clear hm3 hcs hcsz
 go_wp2_with (first
  | (refine wpList_store_row rfl 34 _ _ rfl R cs rfl rfl 34 Z hr3.out HI34.out HZC.out HONE.out ?_))
 refine bodyPost_ret (results_hash4 Tryz.f51 rfl _ _ R cs rfl (setRow_heap _ _ _ _ _ _ hr3.out) HCSZ.out) rfl ?_
 exact ⟨by rw [HCS.out];rfl,HM3.out.setRow (.inr (by have:=HR.out;omega)) _⟩
set_option maxRecDepth 100000 in
set_option maxHeartbeats 1600000 in
theorem emptyHash_any (k:Int) (w:World) (he:EnvH w) :
  Calls Tryz.prog 22 #[.int .i64 k] w fun e w'=>e=.returned (hashV (emptyP k))∧Mv (fun _=>False) w w':=by
 have HE:=zh he
 clear he
 go_enter Tryz.func22,Tryz.ntmps22
 go_wp2_with fail
 generalize hZ:(#[_,_,_,_,_,_,_,_,_,_,_,_,_,_,_,_,_,_,_,_,_,_,_,_,_,_,_,_,_,_,_,_]:Array Value)=Z
 have hZs:Z.size=32:=by rw [←hZ];rfl
 obtain ⟨R,hR⟩:=zg (w.heap.size)
 rw [←hR]
 generalize hW1:w.alloc _=W1
 have h1:W1.heap[R]?=some (.cells Z 34 (0,0)):=by rw [←hW1,hR];exact heap_alloc_new _ _
 have hma:Mv (fun _=>False) w W1:=by rw [←hW1];exact (Mv.refl _ _).alloc _
 have H1:=zh h1
 have HM1:=zh hma
 have HR:=zh hR
 have HZS:=zh hZs
 clear hZ hZs hW1 h1 hma hR
 refine (hasher_any k W1).mono ?_
 rintro e w2 ⟨K,O,rfl,hk,ho,hkb,hob,hm2⟩
 have HKK:=zh hk
 have HM2:=zh hm2
 have hr2:Hid (w2.heap[R]?=some (.cells Z 34 (0,0))):=zh ((hm2.block R (lt_of_heap H1.out) id).trans H1.out)
 have hm2w:Mv (fun _=>False) w w2:=HM1.out.trans hm2
 have HM2W:=zh hm2w
 have HE2:Hid (EnvH w2):=zh (HE.out.mv hm2w (fun _ h=>h.elim))
 clear hk ho hm2 hm2w
 unfold f86 f87 f88
 have hfd:=field115_1
 go_wp2_with fail
 refine (of_any (.slice none 0 0) [] K (effK k) w2 (.inl ⟨rfl,rfl⟩) (by decide) HE2.out (cell_of_heap HKK.out 0 rfl) (effK_range k)).mono ?_
 rintro e w3 ⟨rfl,hm3⟩
 have HM3:Hid (Mv (fun _=>False) w w3):=zh (HM2W.out.trans hm3)
 have hr3:Hid (w3.heap[R]?=some (.cells Z 34 (0,0))):=zh ((hm3.block R (lt_of_heap hr2.out) id).trans hr2.out)
 obtain ⟨cs,hcs⟩:=zg (((weakL (effK k) (sha [])).map byteV).toArray)
 have hcsz:cs.size=32:=by rw [hcs];simp [weakL_length _ _ (effK_range k).2 (sha_length _)]
 unfold hashV
 rw [←hcs]
 have HCS:=zh hcs
 have HCSZ:=zh hcsz
 have HONE:Hid (cs.all (·.oneCell')=true):=zh (by rw [hcs];exact hash_one _)
 have HI34:Hid ((Tryz.prog.info? 34).map (·.size)=some cs.size):=zh (by rw [hcsz];exact info34)
 have HZC:Hid (Z.size=cs.size):=zh (by rw [HZS.out,hcsz])
 clear hm3 hcs hcsz
 go_wp2_with (first
  | (refine wpList_store_row rfl 34 _ _ rfl R cs rfl rfl 34 Z hr3.out HI34.out HZC.out HONE.out ?_))
 refine bodyPost_ret (results_hash Tryz.f22 rfl _ _ R cs rfl (setRow_heap _ _ _ _ _ _ hr3.out) HCSZ.out) rfl ?_
 exact ⟨by rw [HCS.out];rfl,HM3.out.setRow (.inr (by have:=HR.out;omega)) _⟩
theorem range_hash {W:World} {g:Nat} {cs:List Value} (h:W.heap[g]?=some (.cells cs.toArray 34 (0,0))):W.rangeAt g 0 cs:=fun j v hv=>by
 rw [cell_of_row _ _ _ _ _ _ h]
 simpa using hv
set_option maxRecDepth 100000 in
set_option maxHeartbeats 1600000 in
theorem nodeHash_any (k:Int) (a b:Bs) (w:World) (ha:a.length=32) (hb:b.length=32) (he:EnvH w) :
  Calls Tryz.prog 196 #[.int .i64 k,hashV a,hashV b] w fun e w'=>e=.returned (hashV (nodeP k a b))∧Mv (fun _=>False) w w':=by
 have HA:=zh ha
 have HB:=zh hb
 have HE:=zh he
 obtain ⟨ca,hca⟩:=zg (a.map byteV)
 obtain ⟨cb,hcb⟩:=zg (b.map byteV)
 unfold hashV
 rw [←hca,←hcb]
 have hia:Hid ((Tryz.prog.info? 34).map (·.size)=some ca.length):=zh (by rw [hca,List.length_map,ha];exact info34)
 have hib:Hid ((Tryz.prog.info? 34).map (·.size)=some cb.length):=zh (by rw [hcb,List.length_map,hb];exact info34)
 have HCA:=zh hca
 have HCB:=zh hcb
 clear ha hb he hca hcb
 go_enter Tryz.func196,Tryz.ntmps196
 go_upto_region 1 with fail
 generalize hZ:(#[_,_,_,_,_,_,_,_,_,_,_,_,_,_,_,_,_,_,_,_,_,_,_,_,_,_,_,_,_,_,_,_]:Array Value)=Z
 have hZs:Z.size=32:=by rw [←hZ];rfl
 obtain ⟨h3a,h3b,h3c⟩:=heap3 w (.cells ca.toArray 34) (.cells cb.toArray 34) (.cells Z 34)
 obtain ⟨LA,hLA⟩:=zg (w.heap.size)
 rw [←hLA] at h3a h3b h3c ⊢
 obtain ⟨LB,hLB⟩:=zg (LA+1)
 rw [←hLB] at h3b h3c ⊢
 obtain ⟨R,hR⟩:=zg (LB+1)
 rw [←hR] at h3c ⊢
 have hma:Mv (fun _=>False) w (((w.alloc (.cells ca.toArray 34)).alloc (.cells cb.toArray 34)).alloc (.cells Z 34)):=(((Mv.refl _ _).alloc _).alloc _).alloc _
 generalize hW1:((w.alloc (.cells ca.toArray 34)).alloc (.cells cb.toArray 34)).alloc (.cells Z 34)=W1
 rw [hW1] at h3a h3b h3c hma
 have H3A:=zh h3a
 have H3B:=zh h3b
 have H3C:=zh h3c
 have HM1:=zh hma
 have HZS:=zh hZs
 have HR:Hid (w.heap.size≤R):=zh (by omega)
 have HNE:Hid (LA≠R∧LB≠R):=zh (by omega)
 have HE1:Hid (EnvH W1):=zh (HE.out.mv hma (fun _ h=>h.elim))
 clear hZ hZs h3a h3b h3c hLA hLB hR hma hW1
 refine wp_region_noPanic ?_
 refine wp_region_held_drew (S:=fun w'=>w'.heap[LA]?=some (.cells ca.toArray 34 (0,0))∧w'.heap[LB]?=some (.cells cb.toArray 34 (0,0))) (by kernel_rfl) ⟨H3A.out,H3B.out⟩ (fun hHeld=>?_)
 refine zt 0 (.int .i64 k) rfl (fun _ hS=>by go_simp) hHeld ?_
 try walk_nrm
 refine zj 3 (.agg ca.toArray) rfl (yieldsIf_load_mid (by rfl) 34 _ rfl LA 0 rfl ca _ (fun _ h=>range_hash h.1) Tryz.underlying34 rfl hia.out) hHeld ?_
 try walk_nrm
 refine zj 4 (.agg cb.toArray) rfl (yieldsIf_load_mid (by rfl) 34 _ rfl LB 0 rfl cb _ (fun _ h=>range_hash h.2) Tryz.underlying34 rfl hib.out) hHeld ?_
 try walk_nrm
 refine zo 1 rfl fun K' hK=>?_
 unfold Oper.wp execOp
 go_simp
 refine (hasher_any k W1.drew).mono ?_
 rintro e w2 ⟨K,O,rfl,hk,ho,hkb,hob,hm2'⟩
 have hm2:Mv (fun _=>False) W1 w2:=⟨hm2'.os,hm2'.tape,hm2'.output,hm2'.size,hm2'.block⟩
 have HKK:=zh hk
 have HOO:=zh ho
 have hr2:Hid (w2.heap[R]?=some (.cells Z 34 (0,0))):=zh ((hm2.block R (lt_of_heap H3C.out) id).trans H3C.out)
 have hm2w:Mv (fun _=>False) w w2:=HM1.out.trans hm2
 have HM2W:=zh hm2w
 have HE2:Hid (EnvH w2):=zh (HE.out.mv hm2w (fun _ h=>h.elim))
 have hs2:w2.heap[LA]?=some (.cells ca.toArray 34 (0,0))∧w2.heap[LB]?=some (.cells cb.toArray 34 (0,0)):=⟨(hm2.block LA (lt_of_heap H3A.out) id).trans H3A.out,(hm2.block LB (lt_of_heap H3B.out) id).trans H3B.out⟩
 clear hk ho hm2 hm2' hm2w
 refine hK.out _ _ hs2 (fun hHeld=>?_)
 clear hK K' hs2
 unfold f86 f87 f88
 try walk_nrm
 refine zt 2 (.func (.func 88) #[] #[.pointer (some ⟨O,0,none⟩)]) rfl (fun _ hS=>by have hfd:=field115_3;go_simp) hHeld ?_
 try walk_nrm
 refine zo 5 rfl fun K' hK=>?_
 unfold Oper.wp execOp
 go_simp
 have hn:=node_any a b K O (effK k) w2 HA.out HB.out HE2.out HKK.out HOO.out (effK_range k)
 unfold hashV at hn
 rw [←HCA.out,←HCB.out] at hn
 refine hn.mono ?_
 rintro e w3 ⟨rfl,hm3⟩
 have HM3:Hid (Mv (fun _=>False) w w3):=zh (HM2W.out.trans hm3)
 have hr3:Hid (w3.heap[R]?=some (.cells Z 34 (0,0))):=zh ((hm3.block R (lt_of_heap hr2.out) id).trans hr2.out)
 have hs3:w3.heap[LA]?=some (.cells ca.toArray 34 (0,0))∧w3.heap[LB]?=some (.cells cb.toArray 34 (0,0)):=⟨(hm3.block LA (lt_of_heap hHeld.1) id).trans hHeld.1,(hm3.block LB (lt_of_heap hHeld.2) id).trans hHeld.2⟩
 obtain ⟨cs,hcs⟩:=zg (((weakL (effK k) (sha (1 :: (a++b)))).map byteV).toArray)
 have hcsz:cs.size=32:=by rw [hcs];simp [weakL_length _ _ (effK_range k).2 (sha_length _)]
 rw [←hcs]
 have HCS:=zh hcs
 have HCSZ:=zh hcsz
 have HONE:Hid (cs.all (·.oneCell')=true):=zh (by rw [hcs];exact hash_one _)
 have HI34:Hid ((Tryz.prog.info? 34).map (·.size)=some cs.size):=zh (by rw [hcsz];exact info34)
 have HZC:Hid (Z.size=cs.size):=zh (by rw [HZS.out,hcsz])
 clear hm3 hcs hcsz hn
 refine hK.out _ _ hs3 (fun hHeld=>?_)
 clear hK K' hs3
 try walk_nrm
 refine zo 6 rfl fun K' hK=>?_
 refine wp_store_row 34 _ _ rfl R cs rfl rfl 34 Z hr3.out HI34.out HZC.out HONE.out ?_
 have hne:LA≠R∧LB≠R:=HNE.out
 refine hK.out _ _ ⟨(setRow_other _ _ _ _ hne.1).trans hHeld.1,(setRow_other _ _ _ _ hne.2).trans hHeld.2⟩ (fun hHeld=>?_)
 clear hK K'
 try walk_nrm
 refine zd ?_
 go_wp2_with fail
 refine bodyPost_ret (results_hash6 Tryz.f196 rfl _ _ R cs rfl (setRow_heap _ _ _ _ _ _ hr3.out) HCSZ.out) rfl ?_
 exact ⟨by rw [HCS.out];rfl,HM3.out.setRow (.inr HR.out) _⟩
end Go.Proofs.YtdfdikpklddnhaaGreatDoor
