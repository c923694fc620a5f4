/- Of the proof of EvidenceJudges, second form: for values of bulk at most 1048576. (Ej13) -/
import Derived.Test.YtdfdikpklddnhaaGreatDoorEj01
import Derived.Test.YtdfdikpklddnhaaGreatDoorEj11
import Derived.Test.YtdfdikpklddnhaaGreatDoorEj12
import Derived.Laws.ShiftsVar
import Derived.Deep.QuietTactic
import Derived.BigQuiet
namespace Go.Proofs.YtdfdikpklddnhaaGreatDoor
open Go.RowKit
theorem Mv.drewN' {F:Nat→Prop} {a w:World} (h:Mv F a w) (n:Nat):Mv F a (w.drewN n):=⟨h.os,h.tape,h.output,h.size,h.block⟩
theorem len64_quiet (x:Nat) (hx:x≤281474976710656) (W:World):Calls Tryz.prog 238 #[.int .u64 (x:Int)] W fun e w'=>e=.returned (.int .i64 (Lib.bitLen x))∧w'=W :=
 (Tryz.bits_Len64 x W (by omega) (by omega)).mono fun _ _ h=>⟨by rw [h.1];simp,h.2⟩
theorem wrap64_nat (n:Nat) (h:n<9223372036854775808):wrap64 (n:Int)=n:=IntWalk.wrap64_in _ (by omega)
theorem cut_int (a b L:Nat) (hab:a+(b - a - 1)<b∧b≤281474976710656) (h1:cutN a b=a+2 ^ (L - 1)) (h3:2 ^ (L - 1)≤b - a - 1):wrap64 ((a:Int)+wrap64 ((2:Int) ^ (L - 1)))=(cutN a b:Int):=by
 have hp:((2:Int) ^ (L - 1))=((2 ^ (L - 1):Nat):Int):=by simp
 rw [hp,h1]
 clear hp h1
 generalize 2 ^ (L - 1)=p at h3 ⊢
 rw [wrap64_nat p (by omega),←Int.natCast_add,wrap64_nat (a+p) (by omega)]
set_option maxRecDepth 100000 in
set_option maxHeartbeats 1600000 in
theorem cut_any (a b:Nat) (h:a+2≤b) (hb:b≤281474976710656) (w:World) :
  Calls Tryz.prog 194 #[.agg #[.int .i64 a,.int .i64 b]] w fun e w'=>e=.returned (.int .i64 (cutN a b))∧Mv (fun _=>False) w w':=by
 obtain ⟨e,h1,h2,h3,h4,h5,h6,h7⟩:=cut_pow a b h hb
 obtain ⟨L,hL⟩:=zg (Lib.bitLen (b - a - 1))
 rw [←hL] at h3 h6
 have hL49:L≤49:=by omega
 have HE:Hid (cutN a b=a+2 ^ e∧e=L - 1∧2 ^ e≤b - a - 1):=zh ⟨h1,h3,h4⟩
 have hwr1:IntKind.i64.wrap ((b:Int) - a)=(b:Int) - a:=IntWalk.i64_in _ (by omega)
 have hwr2:IntKind.i64.wrap ((b:Int) - a - 1)=(b:Int) - a - 1:=IntWalk.i64_in _ (by omega)
 have hcv:IntKind.u64.wrap ((b:Int) - a - 1)=((b - a - 1:Nat):Int):=by
  rw [IntKind.wrap_u64];omega
 have hl1:IntKind.i64.wrap ((L:Int) - 1)=(L:Int) - 1:=IntWalk.i64_in _ (by omega)
 have HK:Hid (∀ W,Calls Tryz.prog 238 #[.int .u64 ((b - a - 1:Nat):Int)] W fun e w'=>e=.returned (.int .i64 L)∧w'=W):=zh fun W=>by rw [hL];exact len64_quiet _ (by omega) W
 clear h1 h2 h3 h4 h5 hL h7
 go_enter Tryz.func194,Tryz.ntmps194
 go_wp2_with fail
 go_quiet ((go_at_call 238;exact Calls.quiet_of_same (HK.out _)))
 go_wp2_with fail
 go_ret
 obtain ⟨h1,h2,h3⟩:=HE.out
 rw [h2] at h1 h3
 have hab:a+(b - a - 1)<b∧b≤281474976710656:=by omega
 have e2:=cut_int a b L hab h1 h3
 refine ⟨?_,((Mv.refl _ _).alloc _).drewN' _⟩
 exact congrArg (fun x=>Ending.returned (Value.int .i64 x)) e2
set_option maxRecDepth 100000 in
theorem recStop_any (a b:Nat) (h:a<b) (hb:b≤281474976710656) (w:World) :
  Calls Tryz.prog 202 #[.agg #[.int .i64 a,.int .i64 b]] w fun e w'=>e=.returned (.bool (recStop a b))∧Mv (fun _=>False) w w':=by
 go_enter Tryz.func202,Tryz.ntmps202
 go_wp2
 go_ret
 refine ⟨?_,(Mv.refl _ _).alloc _⟩
 have e:recStop a b=decide ((b:Int) - a=1):=by
  unfold recStop
  apply decide_eq_decide.2
  omega
 rw [e]
 congr 2
theorem recLeft_any (i c I:Nat) (w:World) (hI:w.cell? ⟨I,0,none⟩=some (.int .i64 i)) :
  Calls Tryz.prog 203 #[.int .i64 c,.pointer (some ⟨I,0,none⟩)] w fun e w'=>e=.returned (.bool (recLeft i c))∧w=w':=by
 go_enter Tryz.func203,Tryz.ntmps203
 go_wp2
 go_ret
 exact ⟨rfl,rfl⟩
theorem treeStop_any (m a b I:Nat) (w:World) (hI:w.cell? ⟨I,0,none⟩=some (.int .i64 m)) :
  Calls Tryz.prog 135 #[.agg #[.int .i64 a,.int .i64 b],.pointer (some ⟨I,0,none⟩)] w fun e w'=>e=.returned (.bool (treeStop m a b))∧Mv (fun _=>False) w w':=by
 have hI2:∀ o,(w.alloc o).cell? ⟨I,0,none⟩=some (.int .i64 m):=fun o=>(World.cell?_of_block (Below.heap_alloc _ _ _ (World.block_lt_of_cell? _ _ hI))).trans hI
 go_enter Tryz.func135,Tryz.ntmps135
 go_wp2
 go_ret
 refine ⟨?_,(Mv.refl _ _).alloc _⟩
 have e:treeStop m a b=decide ((b:Int)=m):=by
  unfold treeStop
  apply decide_eq_decide.2
  omega
 rw [e]
 congr 2
theorem treeLeft_any (m c I:Nat) (w:World) (hI:w.cell? ⟨I,0,none⟩=some (.int .i64 m)) :
  Calls Tryz.prog 136 #[.int .i64 c,.pointer (some ⟨I,0,none⟩)] w fun e w'=>e=.returned (.bool (treeLeft m c))∧w=w':=by
 go_enter Tryz.func136,Tryz.ntmps136
 go_wp2
 go_ret
 exact ⟨rfl,rfl⟩
theorem itself_any (a b:Int) (r:Bool) (w:World) :
  Calls Tryz.prog 91 #[.agg #[.int .i64 a,.int .i64 b,.bool r]] w fun e w'=>e=.returned (.agg #[.int .i64 a,.int .i64 b,.bool r])∧Mv (fun _=>False) w w':=by
 go_enter Tryz.func91,Tryz.ntmps91
 go_wp2
 refine bodyPost_ret (v:=.agg #[.int .i64 a,.int .i64 b,.bool r]) ?_ rfl ⟨rfl,((Mv.refl _ _).alloc _).alloc _⟩
 exact results_cell_row (fn:=Tryz.f91) rfl _ _ (w.heap.size+1) 174 _ (0,0) _ rfl (by rw [show w.heap.size+1=(w.alloc (.cells #[.int .i64 a,.int .i64 b,.bool r] 174)).heap.size by simp];exact heap_alloc_new _ _) Tryz.underlying174 rfl (by kernel_rfl)
def RowG (w:World) (g:Nat) (e:TypeId) (sz L cap:Nat) (F:Nat→List Value):Prop :=
 ∃ cur:Array Value,w.heap[g]?=some (.cells cur e (0,0))∧cur.size=cap * sz∧L≤cap∧∀ k,k<L→(F k).length=sz∧∀ t,t<sz→cur[k * sz+t]?=(F k)[t]?
theorem RowG.range {w:World} {g:Nat} {e:TypeId} {sz L cap:Nat} {F:Nat→List Value} (h:RowG w g e sz L cap F) (k:Nat) (hk:k<L):w.rangeAt g (k * sz) (F k):=fun j v hv=>by
 obtain ⟨cur,h1,_,_,h4⟩:=h
 obtain ⟨h5,h6⟩:=h4 k hk
 have hj:j<sz:=by rw [←h5];exact (List.getElem?_eq_some_iff.1 hv).1
 rw [cell_of_row _ _ _ _ _ _ h1,h6 j hj,hv]
theorem RowG.there {w:World} {g:Nat} {e:TypeId} {sz L cap:Nat} {F:Nat→List Value} (h:RowG w g e sz L cap F) (k:Nat) (hk:k<L):w.there g (k * sz) sz:=fun j hj=>by
 obtain ⟨cur,h1,_,_,h4⟩:=h
 obtain ⟨h5,h6⟩:=h4 k hk
 refine ⟨?_,free_of_heap h1 _⟩
 rw [cell_of_row _ _ _ _ _ _ h1,h6 j hj,List.getElem?_eq_getElem (by rw [h5];exact hj)]
 rfl
theorem heap_setCells {g:Nat} {e:TypeId}:∀ (cs:List Value) (o:Nat) {w:World} {cur:Array Value},w.heap[g]?=some (.cells cur e (0,0)) →
  ∃ cur',(w.setCells g o cs).heap[g]?=some (.cells cur' e (0,0))∧cur'.size=cur.size∧∀ i,cur'[i]?=if o≤i∧i<o+cs.length∧i<cur.size then cs[i - o]? else cur[i]?
 | [],o,w,cur,h=>⟨cur,h,rfl,fun i=>by rw [if_neg (by simp;omega)]⟩
 | c :: cs,o,w,cur,h=>by
  obtain ⟨cur',h1,h2,h3⟩:=heap_setCells cs (o+1) (heap_setCell_same h (j:=o) c)
  refine ⟨cur',h1,by rw [h2];simp,fun i=>?_⟩
  rw [h3,Array.getElem?_setIfInBounds]
  simp only [Array.size_setIfInBounds,List.length_cons]
  by_cases ho:o=i
  ·subst ho
   by_cases hs:o<cur.size
   ·rw [if_neg (by omega),if_pos rfl,if_pos hs,if_pos ⟨by omega,by omega,hs⟩];simp
   ·rw [if_neg (by omega),if_pos rfl,if_neg hs,if_neg (by omega)]
    exact (Array.getElem?_eq_none (by omega)).symm
  ·by_cases hin:o+1≤i∧i<o+1+cs.length∧i<cur.size
   ·rw [if_pos hin,if_pos ⟨by omega,by omega,hin.2.2⟩,show i - o=(i - (o+1))+1 by omega,List.getElem?_cons_succ]
   ·rw [if_neg hin,if_neg ho,if_neg (by omega)]
theorem RowG.store {w:World} {g:Nat} {e:TypeId} {sz L cap:Nat} {F:Nat→List Value} (h:RowG w g e sz L cap F) (k:Nat) (hk:k<L) (cs:List Value) (hcs:cs.length=sz) :
  RowG (w.setCells g (k * sz) cs) g e sz L cap (fun i=>if i=k then cs else F i):=by
 obtain ⟨cur,h1,h2,h3,h4⟩:=h
 obtain ⟨cur',a1,a2,a3⟩:=heap_setCells cs (k * sz) h1
 refine ⟨cur',a1,by rw [a2,h2],h3,fun i hi=>?_⟩
 obtain ⟨b1,b2⟩:=h4 i hi
 have hbound:∀ x t,x<L→t<sz→x * sz+t<cur.size:=fun x t hx ht=>by
  rw [h2]
  have:(x+1) * sz≤cap * sz:=Nat.mul_le_mul_right _ (by omega)
  rw [Nat.succ_mul] at this;omega
 by_cases hik:i=k
 ·subst hik
  simp only [if_true]
  refine ⟨hcs,fun t ht=>?_⟩
  rw [a3,if_pos ⟨by omega,by rw [hcs];omega,hbound i t hi ht⟩,Nat.add_sub_cancel_left]
 ·simp only [hik,if_false]
  refine ⟨b1,fun t ht=>?_⟩
  rw [a3,if_neg,b2 t ht]
  rw [hcs]
  intro ⟨q1,q2,_⟩
  rcases Nat.lt_or_gt_of_ne hik with hlt|hgt
  ·have:(i+1) * sz≤k * sz:=Nat.mul_le_mul_right _ (by omega)
   rw [Nat.succ_mul] at this;omega
  ·have:(k+1) * sz≤i * sz:=Nat.mul_le_mul_right _ (by omega)
   rw [Nat.succ_mul] at this;omega
theorem RowG.congr {w:World} {g:Nat} {e:TypeId} {sz L cap:Nat} {F G:Nat→List Value} (h:RowG w g e sz L cap F) (hFG:∀ k,k<L→F k=G k):RowG w g e sz L cap G:=by
 obtain ⟨cur,h1,h2,h3,h4⟩:=h
 exact ⟨cur,h1,h2,h3,fun k hk=>by rw [←hFG k hk];exact h4 k hk⟩
theorem RowG.drew {w:World} {g:Nat} {e:TypeId} {sz L cap:Nat} {F:Nat→List Value} (h:RowG w g e sz L cap F):RowG w.drew g e sz L cap F:=h
theorem RowG.mv {M:Nat→Prop} {w w':World} {g:Nat} {e:TypeId} {sz L cap:Nat} {F:Nat→List Value} (h:RowG w g e sz L cap F) (hm:Mv M w w') (hg:¬ M g):RowG w' g e sz L cap F:=by
 obtain ⟨cur,h1,h2⟩:=h
 exact ⟨cur,(hm.block g (lt_of_heap h1) hg).trans h1,h2⟩
theorem flat_get (sz:Nat):∀ (xs:List (List Value)),(∀ x∈xs,x.length=sz)→∀ k x,xs[k]?=some x→∀ t,t<sz→(xs.flatten)[k * sz+t]?=x[t]?
 | [],_,k,x,hx,_,_=>by simp at hx
 | y :: ys,h,0,x,hx,t,ht=>by
  have hy:=h y List.mem_cons_self
  cases hx
  rw [List.flatten_cons,Nat.zero_mul,Nat.zero_add,List.getElem?_append_left (by rw [hy];exact ht)]
 | y :: ys,h,k+1,x,hx,t,ht=>by
  have hy:=h y List.mem_cons_self
  have ih:=flat_get sz ys (fun z hz=>h z (List.mem_cons_of_mem _ hz)) k x hx t ht
  rw [List.flatten_cons,List.getElem?_append_right (by rw [hy,Nat.succ_mul];omega),hy,Nat.succ_mul,show k * sz+sz+t - sz=k * sz+t by omega]
  exact ih
theorem flat_len (sz:Nat):∀ (xs:List (List Value)),(∀ x∈xs,x.length=sz)→xs.flatten.length=xs.length * sz
 | [],_=>by simp
 | y :: ys,h=>by
  rw [List.flatten_cons,List.length_append,flat_len sz ys (fun z hz=>h z (List.mem_cons_of_mem _ hz)),h y List.mem_cons_self,List.length_cons,Nat.succ_mul];omega
theorem owns_rowG {w:World} {base:Nat} {e:TypeId} {sz:Nat} {v:Value} (xs:List (List Value)) (hl:∀ x∈xs,x.length=sz) (h:w.ownsRow base e sz v xs.length xs.flatten) (hne:xs≠[]) :
  ∃ g cap,v=.slice (some ⟨g,0,none⟩) xs.length cap∧base≤g∧cap≤maxLen∧RowG w g e sz xs.length cap (fun k=>xs.getD k []):=by
 rcases h.2 with ⟨_,h0⟩|⟨g,c,cur,rfl,hb,hg,hc,hm,hcs,htk⟩
 ·exact absurd (List.eq_nil_of_length_eq_zero h0) hne
 ·refine ⟨g,c,rfl,hb,hm,cur,hg,hcs,hc,fun k hk=>?_⟩
  have hx:xs[k]?=some (xs.getD k []):=by simp [hk]
  refine ⟨hl _ (List.mem_of_getElem? hx),fun t ht=>?_⟩
  have hf:=flat_get sz xs hl k _ hx t ht
  have hlt:k * sz+t<xs.length * sz:=by
   have:(k+1) * sz≤xs.length * sz:=Nat.mul_le_mul_right _ (by omega)
   rw [Nat.succ_mul] at this;omega
  rw [←hf,←htk,List.getElem?_take,if_pos hlt,Array.getElem?_toList]
theorem rowG_owns {w:World} {base:Nat} {e:TypeId} {sz g cap:Nat} (xs:List (List Value)) (hl:∀ x∈xs,x.length=sz) (hg:base≤g) (hcap:cap≤maxLen) (hsz:0<sz)
  (h:RowG w g e sz xs.length cap (fun k=>xs.getD k [])):w.ownsRow base e sz (.slice (some ⟨g,0,none⟩) xs.length cap) xs.length xs.flatten:=by
 obtain ⟨cur,h1,h2,h3,h4⟩:=h
 refine ⟨flat_len sz xs hl,.inr ⟨g,cap,cur,rfl,hg,h1,h3,hcap,h2,?_⟩⟩
 apply List.ext_getElem?
 intro i
 rw [List.getElem?_take]
 by_cases hi:i<xs.length * sz
 ·rw [if_pos hi,Array.getElem?_toList]
  have hk:i / sz<xs.length:=(Nat.div_lt_iff_lt_mul hsz).2 hi
  have ht:i % sz<sz:=Nat.mod_lt _ hsz
  have hx:xs[i / sz]?=some (xs.getD (i / sz) []):=by simp [hk]
  have e1:=(h4 (i / sz) hk).2 (i % sz) ht
  have e2:=flat_get sz xs hl (i / sz) _ hx (i % sz) ht
  have e3:i / sz * sz+i % sz=i:=Nat.div_add_mod' i sz
  rw [e3] at e1 e2
  rw [e1,e2]
 ·rw [if_neg hi]
  exact (List.getElem?_eq_none (by rw [flat_len sz xs hl];omega)).symm
end Go.Proofs.YtdfdikpklddnhaaGreatDoor
namespace Go.Proofs.YtdfdikpklddnhaaGreatDoor
open Go.RowKit
set_option linter.unusedSimpArgs false
set_option maxRecDepth 100000 in
set_option maxHeartbeats 1600000 in
theorem revStep_any (g L cap:Nat) (F:Nat→List Value) (w:World) (hL:1≤L) (hL2:L≤1099511627776) (hcap:cap≤maxLen) (hF:∀ k,k<L→∀ v∈F k,v.oneCell'=true) (hrow:RowG w g 174 3 L cap F) :
  Calls Tryz.prog 195 #[.slice (some ⟨g,0,none⟩) L cap] w fun e w'=>e=.returned (.tuple #[])∧RowG w' g 174 3 L cap (fun k=>F (L - 1 - k))∧Mv (fun b=>b=g) w w':=by
 have HF:=zh hF
 have HROW:=zh hrow
 have HCAP:=zh hcap
 have hLcap:L≤cap:=by obtain ⟨_,_,_,h,_⟩:=hrow;exact h
 have hI:Hid ((Tryz.prog.info? 174).map (·.size)=some 3):=zh (by kernel_rfl)
 clear hF hrow hcap
 go_enter Tryz.func195,Tryz.ntmps195
 go_wp2_with fail
 go_loopg [2,3] L (fun m i j wr=>∃ p q:Nat,p+q+1=L∧p≤q+1∧q+1=m∧i=.int .i64 p∧j=.int .i64 q∧RowG wr g 174 3 L cap (fun k=>if k<p∨L - p≤k then F (L - 1 - k) else F k)∧Mv (fun b=>b=g) w wr)
 case atStart =>
  exact ⟨0,L - 1,by omega,by omega,by omega,rfl,by congr 1;omega,HROW.out.congr (fun k hk=>by rw [if_neg (by omega)]),Mv.refl _ _⟩
 case round =>
  obtain ⟨p,q,hpq,hle,hm,rfl,rfl,hr,hmv⟩:=hrel
  obtain ⟨G,hG⟩:∃ G:Nat→List Value,G=fun k=>if k<p∨L - p≤k then F (L - 1 - k) else F k:=⟨_,rfl⟩
  rw [←hG] at hr
  have HG:=zh hG
  have HR:=zh hr
  have HMV:=zh hmv
  have HPQ:=zh hpq
  have HM:=zh hm
  clear hr hmv hG hm
  by_cases hlt:p<q
  ·have hp:p<L:=by omega
   have hq:q<L:=by omega
   have hpi:(p:Int)<L:=by omega
   have hqi:(q:Int)<L:=by omega
   have hone:∀ k,k<L→(G k).toArray.all (·.oneCell')=true:=fun k hk=>by
    have:∀ v∈G k,v.oneCell'=true:=by
     rw [HG.out]
     simp only
     split
     ·exact HF.out _ (by omega)
     ·exact HF.out _ hk
    rw [Array.all_eq_true]
    intro i hi
    exact this _ (by simp)
   have HONE:=zh hone
   have hlen:∀ k,k<L→(G k).length=3:=fun k hk=>by
    obtain ⟨_,_,_,_,h⟩:=HR.out
    exact (h k hk).1
   have HLEN:=zh hlen
   clear hpq hone hlen
   go_wp2_with fail
   have HR1:Hid (RowG (wr.drew.setCells g (p * 3) (G q)) g 174 3 L cap (fun i=>if i=p then G q else G i)):=zh (RowG.store (RowG.drew HR.out) p hp (G q) (HLEN.out q hq))
   have HR2:Hid (RowG ((wr.drew.setCells g (p * 3) (G q)).setCells g (q * 3) (G p)) g 174 3 L cap (fun i=>if i=q then G p else if i=p then G q else G i)):=zh (RowG.store HR1.out q hq (G p) (HLEN.out p hp))
   have HMV2:Hid (Mv (fun b=>b=g) w ((wr.drew.setCells g (p * 3) (G q)).setCells g (q * 3) (G p))):=zh (Mv.setCells (Mv.setCells (Mv.drew HMV.out) (.inl rfl) _ _) (.inl rfl) _ _)
   have HSW:Hid (∀ k,k<L→(if k=q then G p else if k=p then G q else G k)=(if k<p+1∨L - (p+1)≤k then F (L - 1 - k) else F k)):=zh (by
    intro k hk
    have hpq:=HPQ.out
    rw [HG.out]
    simp only
    by_cases h1:k=q
    ·subst h1
     rw [if_pos rfl,if_neg (by omega),if_pos (by omega)]
     congr 1;omega
    ·rw [if_neg h1]
     by_cases h2:k=p
     ·subst h2
      rw [if_pos rfl,if_neg (by omega),if_pos (by omega)]
      congr 1;omega
     ·rw [if_neg h2]
      by_cases h3:k<p∨L - p≤k
      ·rw [if_pos h3,if_pos (by omega)]
      ·rw [if_neg h3,if_neg (by omega)])
   refine wp_region_noPanic ?_
   refine wp_region_held_drew (S:=fun _=>True) (by kernel_rfl) trivial (fun hHeld=>?_)
   refine zt 0 (.slice (some ⟨g,0,none⟩) L cap) rfl (fun _ hS=>by go_simp) hHeld ?_
   try walk_nrm
   refine zt 1 (.int .i64 p) rfl (fun _ hS=>by go_simp) hHeld ?_
   try walk_nrm
   refine zt 2 (.slice (some ⟨g,0,none⟩) L cap) rfl (fun _ hS=>by go_simp) hHeld ?_
   try walk_nrm
   refine zt 3 (.int .i64 q) rfl (fun _ hS=>by go_simp) hHeld ?_
   try walk_nrm
   refine zt 4 (.slice (some ⟨g,0,none⟩) L cap) rfl (fun _ hS=>by go_simp) hHeld ?_
   try walk_nrm
   refine zt 5 (.int .i64 q) rfl (fun _ hS=>by go_simp) hHeld ?_
   try walk_nrm
   refine zt 6 (.pointer (some ⟨g,q * 3,none⟩)) rfl (fun _ hS=>by go_simp) hHeld ?_
   try walk_nrm
   refine zt 8 (.slice (some ⟨g,0,none⟩) L cap) rfl (fun _ hS=>by go_simp) hHeld ?_
   try walk_nrm
   refine zt 9 (.int .i64 p) rfl (fun _ hS=>by go_simp) hHeld ?_
   try walk_nrm
   refine zt 10 (.pointer (some ⟨g,p * 3,none⟩)) rfl (fun _ hS=>by go_simp) hHeld ?_
   try walk_nrm
   refine wpAnyH_ready (rs:=[7,11]) (by kernel_rfl) (by simp) (AllReadyH.cons rfl (fun K' hK=>?_) (AllReadyH.cons rfl (fun K' hK=>?_) AllReadyH.nil))
   ·rw [if_pos (by rfl)]
    refine wp_load_mid 174 _ rfl g (q * 3) rfl (G q) _ (HR.out.range q hq) Tryz.underlying174 rfl (by rw [HLEN.out q hq];exact hI.out) ?_
    refine hK.out _ _ trivial (fun hHeld=>?_)
    clear hK K'
    try walk_nrm
    refine zo 11 rfl fun K' hK=>?_
    refine wp_load_mid 174 _ rfl g (p * 3) rfl (G p) _ (HR.out.range p hp) Tryz.underlying174 rfl (by rw [HLEN.out p hp];exact hI.out) ?_
    refine hK.out _ _ trivial (fun hHeld=>?_)
    clear hK K'
    try walk_nrm
    refine zt 12 (.pointer (some ⟨g,p * 3,none⟩)) rfl (fun _ hS=>by go_simp) hHeld ?_
    try walk_nrm
    refine zo 13 rfl fun K' hK=>?_
    refine wp_store_mid 174 _ _ rfl g (p * 3) (G q).toArray rfl rfl (by rw [List.size_toArray,HLEN.out q hq];exact HR.out.there p hp) (by rw [List.size_toArray,HLEN.out q hq];exact hI.out) (HONE.out q hq) ?_
    refine hK.out _ _ trivial (fun hHeld=>?_)
    clear hK K'
    try walk_nrm
    refine zt 14 (.pointer (some ⟨g,q * 3,none⟩)) rfl (fun _ hS=>by go_simp) hHeld ?_
    try walk_nrm
    refine zo 15 rfl fun K' hK=>?_
    refine wp_store_mid 174 _ _ rfl g (q * 3) (G p).toArray rfl rfl (by rw [List.size_toArray,HLEN.out p hp];exact HR1.out.there q hq) (by rw [List.size_toArray,HLEN.out p hp];exact hI.out) (HONE.out p hp) ?_
    refine hK.out _ _ trivial (fun hHeld=>?_)
    clear hK K'
    try walk_nrm
    refine zd ?_
    go_wp2_with fail
    go_roundg q
    case measure=>have:=HM.out;omega
    case rel =>
     have hpq:=HPQ.out
     refine ⟨p+1,q - 1,by omega,by omega,by omega,by go_num,by congr 1;omega,?_,HMV2.out⟩
     exact HR2.out.congr (fun k hk=>HSW.out k hk)
   ·rw [if_pos (by rfl)]
    refine wp_load_mid 174 _ rfl g (p * 3) rfl (G p) _ (HR.out.range p hp) Tryz.underlying174 rfl (by rw [HLEN.out p hp];exact hI.out) ?_
    refine hK.out _ _ trivial (fun hHeld=>?_)
    clear hK K'
    try walk_nrm
    refine zo 7 rfl fun K' hK=>?_
    refine wp_load_mid 174 _ rfl g (q * 3) rfl (G q) _ (HR.out.range q hq) Tryz.underlying174 rfl (by rw [HLEN.out q hq];exact hI.out) ?_
    refine hK.out _ _ trivial (fun hHeld=>?_)
    clear hK K'
    try walk_nrm
    refine zt 12 (.pointer (some ⟨g,p * 3,none⟩)) rfl (fun _ hS=>by go_simp) hHeld ?_
    try walk_nrm
    refine zo 13 rfl fun K' hK=>?_
    refine wp_store_mid 174 _ _ rfl g (p * 3) (G q).toArray rfl rfl (by rw [List.size_toArray,HLEN.out q hq];exact HR.out.there p hp) (by rw [List.size_toArray,HLEN.out q hq];exact hI.out) (HONE.out q hq) ?_
    refine hK.out _ _ trivial (fun hHeld=>?_)
    clear hK K'
    try walk_nrm
    refine zt 14 (.pointer (some ⟨g,q * 3,none⟩)) rfl (fun _ hS=>by go_simp) hHeld ?_
    try walk_nrm
    refine zo 15 rfl fun K' hK=>?_
    refine wp_store_mid 174 _ _ rfl g (q * 3) (G p).toArray rfl rfl (by rw [List.size_toArray,HLEN.out p hp];exact HR1.out.there q hq) (by rw [List.size_toArray,HLEN.out p hp];exact hI.out) (HONE.out p hp) ?_
    refine hK.out _ _ trivial (fun hHeld=>?_)
    clear hK K'
    try walk_nrm
    refine zd ?_
    go_wp2_with fail
    go_roundg q
    case measure=>have:=HM.out;omega
    case rel =>
     have hpq:=HPQ.out
     refine ⟨p+1,q - 1,by omega,by omega,by omega,by go_num,by congr 1;omega,?_,HMV2.out⟩
     exact HR2.out.congr (fun k hk=>HSW.out k hk)
  ·clear HPQ
   go_wp2_with fail
   go_end0
   refine ⟨rfl,HR.out.congr (fun k hk=>?_),HMV.out⟩
   rw [HG.out]
   simp only
   by_cases h1:k<p∨L - p≤k
   ·rw [if_pos h1]
   ·rw [if_neg h1]
    congr 1;omega
end Go.Proofs.YtdfdikpklddnhaaGreatDoor
namespace Go.Proofs.YtdfdikpklddnhaaGreatDoor
open Go.RowKit
theorem Tryz.info174:(Tryz.prog.info? 174).map (fun i=>(i.zero,i.size,i.bytes))=some (some (.agg #[.int .i64 0,.int .i64 0,.bool false]),3,24):=by kernel_rfl
theorem owns_mv {M:Nat→Prop} {w w':World} {base:Nat} {e:TypeId} {sz:Nat} {v:Value} {n:Nat} {xs:List Value} (h:w.ownsRow base e sz v n xs) (hm:Mv M w w') (hM:∀ g,base≤g→g<w.heap.size→¬ M g):w'.ownsRow base e sz v n xs:=by
 refine ⟨h.1,?_⟩
 rcases h.2 with h0|⟨g,c,cur,rfl,hg,hh,hr⟩
 ·exact .inl h0
 ·exact .inr ⟨g,c,cur,rfl,hg,(hm.block g (lt_of_heap hh) (hM g hg (lt_of_heap hh))).trans hh,hr⟩
theorem cell_new3 (w:World) (x y z:Value) (t:TypeId) (j:Nat) (u:Value) (h:[x,y,z][j]?=some u):(w.alloc (.cells #[x,y,z] t)).cell? ((⟨w.heap.size,0,none⟩:Addr).add j)=some u:=by
 rw [addr_add,Nat.zero_add,cell_of_row _ _ _ _ _ _ (heap_alloc_new _ _)]
 simpa using h
def stepsV (l:List Step):List Value:=(l.map Step.cells).flatten
theorem stepsV_snoc (l:List Step) (s:Step):stepsV (l++[s])=stepsV l++s.cells:=by simp [stepsV]
theorem step_len (l:List Step):∀ x∈l.map Step.cells,x.length=3:=fun x hx=>by
 obtain ⟨s,_,rfl⟩:=List.mem_map.1 hx
 rfl
structure WSt (w wr:World) (SB R B a b:Nat) (l:Value) (down:List Step):Prop where
 sb:wr.heap[SB]?=some (.cells #[.int .i64 a,.int .i64 b] 170 (0,0))
 r:wr.heap[R]?=some (.cells #[.int .i64 0,.int .i64 0] 170 (0,0))
 own:wr.ownsRow B 174 3 l down.length (stepsV down)
 mv:Mv (fun _=>False) w wr
 big:B≤wr.heap.size
theorem WSt.still {w wr w2:World} {SB R B a b:Nat} {l:Value} {down:List Step} (h:WSt w wr SB R B a b l down) (hm:Mv (fun _=>False) wr w2):WSt w w2 SB R B a b l down :=
 ⟨(hm.block SB (lt_of_heap h.sb) id).trans h.sb,(hm.block R (lt_of_heap h.r) id).trans h.r,owns_mv h.own hm (fun _ _ _ h=>h),h.mv.trans hm,Nat.le_trans h.big hm.size⟩
theorem WSt.push {w wr w2:World} {SB R B a b:Nat} {l l2:Value} {down:List Step} {s:Step} (h:WSt w wr SB R B a b l down) (hB:w.heap.size≤SB∧w.heap.size≤R∧SB<B∧R<B∧SB≠R)
  (hm:Mv (fun g=>B≤g) wr w2) (hown:w2.ownsRow B 174 3 l2 (down.length+1) (stepsV down++s.cells)):WSt w w2 SB R B a b l2 (down++[s]) :=
 ⟨(hm.block SB (lt_of_heap h.sb) (by omega)).trans h.sb,(hm.block R (lt_of_heap h.r) (by omega)).trans h.r,by rw [stepsV_snoc,List.length_append];exact hown,
  h.mv.trans' hm (fun i hi hg=>by omega),Nat.le_trans h.big hm.size⟩
theorem WSt.set {w wr:World} {SB R B a b:Nat} {l:Value} {down:List Step} (h:WSt w wr SB R B a b l down) (hB:w.heap.size≤SB∧w.heap.size≤R∧SB<B∧R<B∧SB≠R) (t:Nat) (u:Value) (a' b':Nat)
  (ht:(#[Value.int .i64 a,.int .i64 b]:Array Value).setIfInBounds t u=#[.int .i64 a',.int .i64 b']):WSt w (wr.setCell ⟨SB,t,none⟩ u) SB R B a' b' l down :=
 ⟨(heap_setCell_same h.sb u).trans (by rw [ht]),(heap_setCell_other (fun e=>hB.2.2.2.2 e.symm) u).trans h.r,owns_setCell h.own SB t u hB.2.2.1,h.mv.setCell (.inr hB.1) u,by simpa [World.setCell] using h.big⟩
theorem results_tc {fn:Func} {t p:Tmp} {ty:TypeId} (h:fn.results=#[.tmp t,.cell p ty]) (tmps:Array Value) (w:World) (b:Nat) (et:TypeId) (cs:Array Value) (u:Value) (d:TypeDesc) (ht:tmps.getD t undef=u) (hp:tmps.getD p undef=.pointer (some ⟨b,0,none⟩)) (hg:w.heap[b]?=some (.cells cs et (0,0)))
  (hu:Tryz.prog.underlying ty=some d) (hd:d.isRow=true) (hi:(Tryz.prog.info? ty).map (·.size)=some cs.size) :
  (results fn tmps).run Tryz.prog w=.ok (.tuple #[u,.agg cs]) w:=by
 have e:=run_loadVar_row w b et ty cs (0,0) d hg hu (by cases d <;> first|rfl|simp [TypeDesc.isRow] at hd) hi
 have ht':tmps[t]?.getD undef=u:=by simpa using ht
 have hp':tmps[p]?.getD undef=.pointer (some ⟨b,0,none⟩):=by simpa using hp
 simp only [results,h]
 simp [Result.andThen,asAddr,e,ht',hp']
set_option maxRecDepth 100000 in
theorem revStep_zero (a:Option Addr) (c:Nat) (w:World):Calls Tryz.prog 195 #[.slice a 0 c] w fun e w'=>e=.returned (.tuple #[])∧w=w':=by
 go_enter Tryz.func195,Tryz.ntmps195
 go_wp2_with fail
 refine wp_loop_rounds 1 ?_
 rw [rounds_succ]
 go_wp2_with fail
 go_end0
 exact ⟨rfl,rfl⟩
theorem rev_owned (B:Nat) (v:Value) (l:List Step) (w:World) (hl:l.length≤1099511627776) (h:w.ownsRow B 174 3 v l.length (stepsV l)) :
  Calls Tryz.prog 195 #[v] w fun e w'=>e=.returned (.tuple #[])∧w'.ownsRow B 174 3 v l.length (stepsV l.reverse)∧Mv (fun b=>B≤b) w w':=by
 by_cases h0:l=[]
 ·subst h0
  obtain ⟨a,c,rfl⟩:=owns_shape h
  refine (revStep_zero a c w).mono ?_
  rintro e w' ⟨rfl,rfl⟩
  exact ⟨rfl,h,Mv.refl _ _⟩
 ·obtain ⟨g,cap,hv,hBg,hcm,hrow⟩:=owns_rowG (l.map Step.cells) (step_len l) (by rw [List.length_map];exact h) (by simpa using h0)
  rw [List.length_map] at hv hrow
  subst hv
  refine (revStep_any g l.length cap _ w (List.length_pos_iff.2 h0) hl hcm (fun k hk u hu=>?_) hrow).mono ?_
  ·have:(l.map Step.cells).getD k []=(l[k]).cells:=by simp [hk]
   rw [this] at hu
   simp [Step.cells] at hu
   rcases hu with rfl|rfl|rfl <;> rfl
  ·rintro e w' ⟨rfl,hr,hm⟩
   refine ⟨rfl,?_,hm.mono (fun i _ hi=>by omega)⟩
   have hlen:(l.reverse.map Step.cells).length=l.length:=by simp
   have h2:=rowG_owns (w:=w') (base:=B) (e:=174) (sz:=3) (g:=g) (cap:=cap) (l.reverse.map Step.cells) (step_len _) hBg hcm (by decide) (by
    rw [hlen]
    refine hr.congr (fun k hk=>?_)
    have e1:l.length - 1 - k<l.length:=by omega
    simp [hk,e1])
   rw [hlen] at h2
   exact h2
end Go.Proofs.YtdfdikpklddnhaaGreatDoor
namespace Go.Proofs.YtdfdikpklddnhaaGreatDoor
open Go.RowKit
set_option linter.unusedSimpArgs false
set_option maxRecDepth 100000 in
set_option maxHeartbeats 3200000 in
theorem walkTree_any (n i I:Nat) (w:World) (hn:n≤281474976710656) (hi:1≤i∧i≤n) (hI:w.cell? ⟨I,0,none⟩=some (.int .i64 i)) :
  Calls Tryz.prog 134 #[.agg #[.int .i64 0,.int .i64 n],.func (.func 135) #[] #[.pointer (some ⟨I,0,none⟩)],.func (.func 136) #[] #[.pointer (some ⟨I,0,none⟩)],.func (.func 91) #[] #[]] w fun e w' =>
   ∃ v,e=.returned (.tuple #[v,.agg #[.int .i64 (wayDown (treeStop i) (treeLeft i) 0 n).2.1,.int .i64 (wayDown (treeStop i) (treeLeft i) 0 n).2.2]]) ∧
    w'.ownsRow w.heap.size 174 3 v (wayDown (treeStop i) (treeLeft i) 0 n).1.length (stepsV (wayDown (treeStop i) (treeLeft i) 0 n).1.reverse)∧Mv (fun _=>False) w w':=by
 obtain ⟨i0,hi0,hz0,hz1,hz2⟩:=info_parts Tryz.info174
 have HI:=zh hI
 clear hI
 have hIw:I<w.heap.size:=World.block_lt_of_cell? _ _ HI.out
 go_enter Tryz.func134,Tryz.ntmps134
 go_wp2_with fail
 obtain ⟨SB,hSB⟩:=zg (w.heap.size)
 rw [←hSB]
 obtain ⟨R,hR⟩:=zg (SB+1)
 rw [←hR]
 obtain ⟨B,hB⟩:=zg (SB+2)
 have hst:WSt w ((w.alloc (.cells #[.int .i64 0,.int .i64 n] 170)).alloc (.cells #[.int .i64 0,.int .i64 0] 170)) SB R B 0 n (.slice none 0 0) []:=by
  have s1:(w.alloc (.cells #[.int .i64 0,.int .i64 n] 170)).heap.size=SB+1:=by rw [hSB];simp
  refine ⟨?_,?_,World.ownsRow_nil _ _ _ _,((Mv.refl _ _).alloc _).alloc _,by rw [hB];simp;omega⟩
  ·rw [Below.heap_alloc _ _ _ (by omega),hSB];exact heap_alloc_new _ _
  ·rw [hR,←s1];exact heap_alloc_new _ _
 generalize hW1:(w.alloc _).alloc _=W1
 rw [hW1] at hst
 have HST:=zh hst
 have HBB:Hid (w.heap.size≤SB∧w.heap.size≤R∧SB<B∧R<B∧SB≠R):=zh (by omega)
 have HSBW:Hid (SB=w.heap.size∧R=SB+1):=zh ⟨hSB,hR⟩
 clear hW1 hst hSB hR hB
 go_loopg [10] n (fun m l wr=>∃ (a b k:Nat) (down:List Step),a<i∧i≤b∧b≤n∧b - a≤m∧b - a≤2 ^ k∧down.length+k≤48∧(wayDown (treeStop i) (treeLeft i) 0 n=(down++(wayDown (treeStop i) (treeLeft i) a b).1,(wayDown (treeStop i) (treeLeft i) a b).2))∧WSt w wr SB R B a b l down)
 case atStart=>exact ⟨0,n,48,[],by omega,by omega,Nat.le_refl _,by omega,by omega,by decide,by simp,HST.out⟩
 case round =>
  obtain ⟨a,b,k,down,ha,hb,hbn,hm,hk,hdk,hway,hs⟩:=hrel
  obtain ⟨sa,sc,hshape⟩:=owns_shape hs.own
  subst hshape
  have HS:=zh hs
  have HWAY:=zh hway
  have c0:wr.cell? ⟨SB,0,none⟩=some (.int .i64 a):=cell_of_heap hs.sb 0 rfl
  have c1:wr.cell? ⟨SB,1,none⟩=some (.int .i64 b):=cell_of_heap hs.sb 1 rfl
  have HIW:Hid (wr.cell? ⟨I,0,none⟩=some (.int .i64 i)):=zh ((hs.mv.cell (p:=⟨I,0,none⟩) hIw id).trans HI.out)
  have HK:=zh hk
  clear hs hway hk
  go_wp2_with fail
  refine (treeStop_any i a b I _ HIW.out).mono ?_
  rintro e w2 ⟨rfl,hm2⟩
  have HS2:=zh (HS.out.still hm2)
  have HI2:Hid (w2.cell? ⟨I,0,none⟩=some (.int .i64 i)):=zh ((hm2.cell (p:=⟨I,0,none⟩) (Nat.lt_of_lt_of_le hIw HS.out.mv.size) id).trans HIW.out)
  have d0:w2.cell? ⟨SB,0,none⟩=some (.int .i64 a):=cell_of_heap HS2.out.sb 0 rfl
  have d1:w2.cell? ⟨SB,1,none⟩=some (.int .i64 b):=cell_of_heap HS2.out.sb 1 rfl
  clear hm2 c0 c1
  cases hstop:(treeStop i) a b with
  | true =>
   have HSTOP:=zh hstop
   clear hstop
   go_wp2_with fail
   have HD:=zh hdk
   have hfin:wayDown (treeStop i) (treeLeft i) 0 n=(down,a,b):=by rw [HWAY.out,wayDown_stop _ _ _ _ HSTOP.out];simp
   have HFIN:=zh hfin
   clear hfin
   refine (rev_owned B _ down w2 (by omega) HS2.out.own).mono ?_
   rintro e w3 ⟨rfl,hown3,hm3⟩
   have hb3:w3.heap[SB]?=some (.cells #[.int .i64 a,.int .i64 b] 170 (0,0)):=(hm3.block SB (lt_of_heap HS2.out.sb) (by have:=HBB.out;omega)).trans HS2.out.sb
   have hr3:w3.heap[R]?=some (.cells #[.int .i64 0,.int .i64 0] 170 (0,0)):=(hm3.block R (lt_of_heap HS2.out.r) (by have:=HBB.out;omega)).trans HS2.out.r
   have HB3:=zh hb3
   have HR3:=zh hr3
   have HOWN3:=zh hown3
   have HMW:Hid (Mv (fun _=>False) w w3):=zh (HS2.out.mv.trans' hm3 (fun i hi h=>by have:=HBB.out;omega))
   have q0:w3.cell? ⟨SB,0,none⟩=some (.int .i64 a):=cell_of_heap hb3 0 rfl
   have q1:w3.cell? ⟨SB,1,none⟩=some (.int .i64 b):=cell_of_heap hb3 1 rfl
   have r0:w3.cell? ⟨R,0,none⟩=some (.int .i64 0):=cell_of_heap hr3 0 rfl
   have r1:w3.cell? ⟨R,1,none⟩=some (.int .i64 0):=cell_of_heap hr3 1 rfl
   have z0:=free_of_heap hr3 0
   have z1:=free_of_heap hr3 1
   have HRB:Hid (R<B):=zh (by have:=HBB.out;omega)
   clear hb3 hr3 hown3 hm3 d0 d1
   go_wp2_with fail
   go_region
   all_goals go_wp2_with fail
   all_goals
    refine bodyPost_ret (results_tc (fn:=Tryz.f134) rfl _ _ R 170 #[.int .i64 a,.int .i64 b] (.slice sa down.length sc) _ rfl rfl ?hg Tryz.underlying170 rfl (by kernel_rfl)) rfl ?hp
    case hg=>exact (heap_setCell_same (heap_setCell_same HR3.out _) _).trans rfl
    case hp =>
     refine ⟨_,by rw [HFIN.out],?_,?_⟩
     ·rw [HFIN.out]
      have ho:=owns_setCell (owns_setCell HOWN3.out R 0 (.int .i64 a) HRB.out) R 1 (.int .i64 b) HRB.out
      exact owns_mono ho (by have:=HBB.out;omega)
     ·exact ((HMW.out.setCell (.inr (by have:=HBB.out;exact this.2.1)) _).setCell (.inr (by have:=HBB.out;exact this.2.1)) _).drew
  | false =>
   have hab:a+2≤b:=by
    unfold treeStop at hstop
    have:=of_decide_eq_false hstop
    omega
   have HSTOP:=zh hstop
   have hcin:=cutN_in a b hab
   clear hstop
   go_wp2_with (first|(go_at_call 194;refine (cut_any a b hab (by omega) _).mono ?_;rintro e w3 ⟨rfl,hm3⟩;have HS3:=zh (HS2.out.still hm3);have HI3:Hid (w3.cell? ⟨I,0,none⟩=some (.int .i64 i)):=zh ((hm3.cell (p:=⟨I,0,none⟩) (Nat.lt_of_lt_of_le hIw HS2.out.mv.size) id).trans HI2.out);have e1:=cell_of_heap HS3.out.sb 1 rfl;have e0:=cell_of_heap HS3.out.sb 0 rfl;clear hm3 d0 d1))
   refine (treeLeft_any i (cutN a b) I _ HI3.out).mono ?_
   rintro e w' ⟨rfl,rfl⟩
   cases hleft:(treeLeft i) (cutN a b) with
   | true =>
    have HLEFT:=zh hleft
    clear hleft
    go_wp2_with fail
    refine (itself_any _ _ _ _).mono ?_
    rintro e w4 ⟨rfl,hm4⟩
    have HS4:=zh (HS3.out.still hm4)
    clear hm4 e0 e1
    go_wp2_with (first
     | (at_builtin;go_loud (refine wpList_append_own _ rfl _ _ 168 rfl B 174 i0 (.agg #[.int .i64 0,.int .i64 0,.bool false]) 3 24 Tryz.underlying168 hi0 hz0 hz1 hz2 rfl (by decide) _ _ _ rfl (HS4.out.own.alloc _) ⟨w4.heap.size,0,none⟩ 1 1 [.int .i64 (cutN a b),.int .i64 b,.bool true] rfl rfl (cell_new3 _ _ _ _ _) (by intro u hu;simp at hu;rcases hu with rfl|rfl|rfl <;> rfl) (by unfold maxLen;omega) (by omega) (by have:=HS4.out.big;simp;omega) ?_;intro v5 w5 hown5 hgrow5 hnil5;have hm5:Mv (fun g=>B≤g) w4 w5:=((Mv.refl _ _).alloc _).grown hgrow5 (fun k hk=>.inl (HS4.out.own.lt k hk).1);have HS5:=zh (HS4.out.push (s:=⟨cutN a b,b,true⟩) HBB.out hm5 hown5);have f1:=cell_of_heap HS5.out.sb 1 rfl;have ff:=free_of_heap HS5.out.sb 1;clear hown5 hgrow5 hnil5 hm5)))
    go_roundg (cutN a b - a)
    case measure=>omega
    case rel =>
     obtain ⟨j,hj1,hj2,hj3⟩:=half_left a b k hab (by omega) HK.out
     refine ⟨a,cutN a b,j,down++[⟨cutN a b,b,true⟩],by omega,by have hl:=of_decide_eq_true HLEFT.out;omega,by omega,Nat.le_refl _,hj2,by rw [List.length_append];simp;omega,?_,HS5.out.set HBB.out 1 _ a (cutN a b) rfl⟩
     rw [HWAY.out,wayDown_left _ _ a b HSTOP.out hab HLEFT.out]
     simp
   | false =>
    have HLEFT:=zh hleft
    clear hleft
    go_wp2_with fail
    refine (itself_any _ _ _ _).mono ?_
    rintro e w4 ⟨rfl,hm4⟩
    have HS4:=zh (HS3.out.still hm4)
    clear hm4 e0 e1
    go_wp2_with (first
     | (at_builtin;go_loud (refine wpList_append_own _ rfl _ _ 168 rfl B 174 i0 (.agg #[.int .i64 0,.int .i64 0,.bool false]) 3 24 Tryz.underlying168 hi0 hz0 hz1 hz2 rfl (by decide) _ _ _ rfl (HS4.out.own.alloc _) ⟨w4.heap.size,0,none⟩ 1 1 [.int .i64 a,.int .i64 (cutN a b),.bool false] rfl rfl (cell_new3 _ _ _ _ _) (by intro u hu;simp at hu;rcases hu with rfl|rfl|rfl <;> rfl) (by unfold maxLen;omega) (by omega) (by have:=HS4.out.big;simp;omega) ?_;intro v5 w5 hown5 hgrow5 hnil5;have hm5:Mv (fun g=>B≤g) w4 w5:=((Mv.refl _ _).alloc _).grown hgrow5 (fun k hk=>.inl (HS4.out.own.lt k hk).1);have HS5:=zh (HS4.out.push (s:=⟨a,cutN a b,false⟩) HBB.out hm5 hown5);have f1:=cell_of_heap HS5.out.sb 0 rfl;have ff:=free_of_heap HS5.out.sb 0;clear hown5 hgrow5 hnil5 hm5)))
    go_roundg (b - cutN a b)
    case measure=>omega
    case rel =>
     obtain ⟨j,hj1,hj2,hj3⟩:=half_left a b k hab (by omega) HK.out
     refine ⟨cutN a b,b,j,down++[⟨a,cutN a b,false⟩],by have hl:=of_decide_eq_false HLEFT.out;omega,by omega,by omega,Nat.le_refl _,hj3,by rw [List.length_append];simp;omega,?_,HS5.out.set HBB.out 0 _ (cutN a b) b rfl⟩
     rw [HWAY.out,wayDown_right _ _ a b HSTOP.out hab HLEFT.out]
     simp
set_option maxRecDepth 100000 in
set_option maxHeartbeats 3200000 in
theorem walkRec_any (n i I:Nat) (w:World) (hn:n≤281474976710656) (hi:i<n) (hI:w.cell? ⟨I,0,none⟩=some (.int .i64 i)) :
  Calls Tryz.prog 134 #[.agg #[.int .i64 0,.int .i64 n],.func (.func 202) #[] #[],.func (.func 203) #[] #[.pointer (some ⟨I,0,none⟩)],.func (.func 91) #[] #[]] w fun e w' =>
   ∃ v,e=.returned (.tuple #[v,.agg #[.int .i64 (wayDown recStop (recLeft i) 0 n).2.1,.int .i64 (wayDown recStop (recLeft i) 0 n).2.2]]) ∧
    w'.ownsRow w.heap.size 174 3 v (wayDown recStop (recLeft i) 0 n).1.length (stepsV (wayDown recStop (recLeft i) 0 n).1.reverse)∧Mv (fun _=>False) w w':=by
 obtain ⟨i0,hi0,hz0,hz1,hz2⟩:=info_parts Tryz.info174
 have HI:=zh hI
 clear hI
 have hIw:I<w.heap.size:=World.block_lt_of_cell? _ _ HI.out
 go_enter Tryz.func134,Tryz.ntmps134
 go_wp2_with fail
 obtain ⟨SB,hSB⟩:=zg (w.heap.size)
 rw [←hSB]
 obtain ⟨R,hR⟩:=zg (SB+1)
 rw [←hR]
 obtain ⟨B,hB⟩:=zg (SB+2)
 have hst:WSt w ((w.alloc (.cells #[.int .i64 0,.int .i64 n] 170)).alloc (.cells #[.int .i64 0,.int .i64 0] 170)) SB R B 0 n (.slice none 0 0) []:=by
  have s1:(w.alloc (.cells #[.int .i64 0,.int .i64 n] 170)).heap.size=SB+1:=by rw [hSB];simp
  refine ⟨?_,?_,World.ownsRow_nil _ _ _ _,((Mv.refl _ _).alloc _).alloc _,by rw [hB];simp;omega⟩
  ·rw [Below.heap_alloc _ _ _ (by omega),hSB];exact heap_alloc_new _ _
  ·rw [hR,←s1];exact heap_alloc_new _ _
 generalize hW1:(w.alloc _).alloc _=W1
 rw [hW1] at hst
 have HST:=zh hst
 have HBB:Hid (w.heap.size≤SB∧w.heap.size≤R∧SB<B∧R<B∧SB≠R):=zh (by omega)
 have HSBW:Hid (SB=w.heap.size∧R=SB+1):=zh ⟨hSB,hR⟩
 clear hW1 hst hSB hR hB
 go_loopg [10] n (fun m l wr=>∃ (a b k:Nat) (down:List Step),a≤i∧i<b∧b≤n∧b - a≤m∧b - a≤2 ^ k∧down.length+k≤48∧(wayDown recStop (recLeft i) 0 n=(down++(wayDown recStop (recLeft i) a b).1,(wayDown recStop (recLeft i) a b).2))∧WSt w wr SB R B a b l down)
 case atStart=>exact ⟨0,n,48,[],by omega,by omega,Nat.le_refl _,by omega,by omega,by decide,by simp,HST.out⟩
 case round =>
  obtain ⟨a,b,k,down,ha,hb,hbn,hm,hk,hdk,hway,hs⟩:=hrel
  obtain ⟨sa,sc,hshape⟩:=owns_shape hs.own
  subst hshape
  have HS:=zh hs
  have HWAY:=zh hway
  have c0:wr.cell? ⟨SB,0,none⟩=some (.int .i64 a):=cell_of_heap hs.sb 0 rfl
  have c1:wr.cell? ⟨SB,1,none⟩=some (.int .i64 b):=cell_of_heap hs.sb 1 rfl
  have HIW:Hid (wr.cell? ⟨I,0,none⟩=some (.int .i64 i)):=zh ((hs.mv.cell (p:=⟨I,0,none⟩) hIw id).trans HI.out)
  have HK:=zh hk
  clear hs hway hk
  go_wp2_with fail
  refine (recStop_any a b (by omega) (by omega) _).mono ?_
  rintro e w2 ⟨rfl,hm2⟩
  have HS2:=zh (HS.out.still hm2)
  have HI2:Hid (w2.cell? ⟨I,0,none⟩=some (.int .i64 i)):=zh ((hm2.cell (p:=⟨I,0,none⟩) (Nat.lt_of_lt_of_le hIw HS.out.mv.size) id).trans HIW.out)
  have d0:w2.cell? ⟨SB,0,none⟩=some (.int .i64 a):=cell_of_heap HS2.out.sb 0 rfl
  have d1:w2.cell? ⟨SB,1,none⟩=some (.int .i64 b):=cell_of_heap HS2.out.sb 1 rfl
  clear hm2 c0 c1
  cases hstop:recStop a b with
  | true =>
   have HSTOP:=zh hstop
   clear hstop
   go_wp2_with fail
   have HD:=zh hdk
   have hfin:wayDown recStop (recLeft i) 0 n=(down,a,b):=by rw [HWAY.out,wayDown_stop _ _ _ _ HSTOP.out];simp
   have HFIN:=zh hfin
   clear hfin
   refine (rev_owned B _ down w2 (by omega) HS2.out.own).mono ?_
   rintro e w3 ⟨rfl,hown3,hm3⟩
   have hb3:w3.heap[SB]?=some (.cells #[.int .i64 a,.int .i64 b] 170 (0,0)):=(hm3.block SB (lt_of_heap HS2.out.sb) (by have:=HBB.out;omega)).trans HS2.out.sb
   have hr3:w3.heap[R]?=some (.cells #[.int .i64 0,.int .i64 0] 170 (0,0)):=(hm3.block R (lt_of_heap HS2.out.r) (by have:=HBB.out;omega)).trans HS2.out.r
   have HB3:=zh hb3
   have HR3:=zh hr3
   have HOWN3:=zh hown3
   have HMW:Hid (Mv (fun _=>False) w w3):=zh (HS2.out.mv.trans' hm3 (fun i hi h=>by have:=HBB.out;omega))
   have q0:w3.cell? ⟨SB,0,none⟩=some (.int .i64 a):=cell_of_heap hb3 0 rfl
   have q1:w3.cell? ⟨SB,1,none⟩=some (.int .i64 b):=cell_of_heap hb3 1 rfl
   have r0:w3.cell? ⟨R,0,none⟩=some (.int .i64 0):=cell_of_heap hr3 0 rfl
   have r1:w3.cell? ⟨R,1,none⟩=some (.int .i64 0):=cell_of_heap hr3 1 rfl
   have z0:=free_of_heap hr3 0
   have z1:=free_of_heap hr3 1
   have HRB:Hid (R<B):=zh (by have:=HBB.out;omega)
   clear hb3 hr3 hown3 hm3 d0 d1
   go_wp2_with fail
   go_region
   all_goals go_wp2_with fail
   all_goals
    refine bodyPost_ret (results_tc (fn:=Tryz.f134) rfl _ _ R 170 #[.int .i64 a,.int .i64 b] (.slice sa down.length sc) _ rfl rfl ?hg Tryz.underlying170 rfl (by kernel_rfl)) rfl ?hp
    case hg=>exact (heap_setCell_same (heap_setCell_same HR3.out _) _).trans rfl
    case hp =>
     refine ⟨_,by rw [HFIN.out],?_,?_⟩
     ·rw [HFIN.out]
      have ho:=owns_setCell (owns_setCell HOWN3.out R 0 (.int .i64 a) HRB.out) R 1 (.int .i64 b) HRB.out
      exact owns_mono ho (by have:=HBB.out;omega)
     ·exact ((HMW.out.setCell (.inr (by have:=HBB.out;exact this.2.1)) _).setCell (.inr (by have:=HBB.out;exact this.2.1)) _).drew
  | false =>
   have hab:a+2≤b:=by
    unfold recStop at hstop
    have:=of_decide_eq_false hstop
    omega
   have HSTOP:=zh hstop
   have hcin:=cutN_in a b hab
   clear hstop
   go_wp2_with (first|(go_at_call 194;refine (cut_any a b hab (by omega) _).mono ?_;rintro e w3 ⟨rfl,hm3⟩;have HS3:=zh (HS2.out.still hm3);have HI3:Hid (w3.cell? ⟨I,0,none⟩=some (.int .i64 i)):=zh ((hm3.cell (p:=⟨I,0,none⟩) (Nat.lt_of_lt_of_le hIw HS2.out.mv.size) id).trans HI2.out);have e1:=cell_of_heap HS3.out.sb 1 rfl;have e0:=cell_of_heap HS3.out.sb 0 rfl;clear hm3 d0 d1))
   refine (recLeft_any i (cutN a b) I _ HI3.out).mono ?_
   rintro e w' ⟨rfl,rfl⟩
   cases hleft:(recLeft i) (cutN a b) with
   | true =>
    have HLEFT:=zh hleft
    clear hleft
    go_wp2_with fail
    refine (itself_any _ _ _ _).mono ?_
    rintro e w4 ⟨rfl,hm4⟩
    have HS4:=zh (HS3.out.still hm4)
    clear hm4 e0 e1
    go_wp2_with (first
     | (at_builtin;go_loud (refine wpList_append_own _ rfl _ _ 168 rfl B 174 i0 (.agg #[.int .i64 0,.int .i64 0,.bool false]) 3 24 Tryz.underlying168 hi0 hz0 hz1 hz2 rfl (by decide) _ _ _ rfl (HS4.out.own.alloc _) ⟨w4.heap.size,0,none⟩ 1 1 [.int .i64 (cutN a b),.int .i64 b,.bool true] rfl rfl (cell_new3 _ _ _ _ _) (by intro u hu;simp at hu;rcases hu with rfl|rfl|rfl <;> rfl) (by unfold maxLen;omega) (by omega) (by have:=HS4.out.big;simp;omega) ?_;intro v5 w5 hown5 hgrow5 hnil5;have hm5:Mv (fun g=>B≤g) w4 w5:=((Mv.refl _ _).alloc _).grown hgrow5 (fun k hk=>.inl (HS4.out.own.lt k hk).1);have HS5:=zh (HS4.out.push (s:=⟨cutN a b,b,true⟩) HBB.out hm5 hown5);have f1:=cell_of_heap HS5.out.sb 1 rfl;have ff:=free_of_heap HS5.out.sb 1;clear hown5 hgrow5 hnil5 hm5)))
    go_roundg (cutN a b - a)
    case measure=>omega
    case rel =>
     obtain ⟨j,hj1,hj2,hj3⟩:=half_left a b k hab (by omega) HK.out
     refine ⟨a,cutN a b,j,down++[⟨cutN a b,b,true⟩],by omega,by have hl:=of_decide_eq_true HLEFT.out;omega,by omega,Nat.le_refl _,hj2,by rw [List.length_append];simp;omega,?_,HS5.out.set HBB.out 1 _ a (cutN a b) rfl⟩
     rw [HWAY.out,wayDown_left _ _ a b HSTOP.out hab HLEFT.out]
     simp
   | false =>
    have HLEFT:=zh hleft
    clear hleft
    go_wp2_with fail
    refine (itself_any _ _ _ _).mono ?_
    rintro e w4 ⟨rfl,hm4⟩
    have HS4:=zh (HS3.out.still hm4)
    clear hm4 e0 e1
    go_wp2_with (first
     | (at_builtin;go_loud (refine wpList_append_own _ rfl _ _ 168 rfl B 174 i0 (.agg #[.int .i64 0,.int .i64 0,.bool false]) 3 24 Tryz.underlying168 hi0 hz0 hz1 hz2 rfl (by decide) _ _ _ rfl (HS4.out.own.alloc _) ⟨w4.heap.size,0,none⟩ 1 1 [.int .i64 a,.int .i64 (cutN a b),.bool false] rfl rfl (cell_new3 _ _ _ _ _) (by intro u hu;simp at hu;rcases hu with rfl|rfl|rfl <;> rfl) (by unfold maxLen;omega) (by omega) (by have:=HS4.out.big;simp;omega) ?_;intro v5 w5 hown5 hgrow5 hnil5;have hm5:Mv (fun g=>B≤g) w4 w5:=((Mv.refl _ _).alloc _).grown hgrow5 (fun k hk=>.inl (HS4.out.own.lt k hk).1);have HS5:=zh (HS4.out.push (s:=⟨a,cutN a b,false⟩) HBB.out hm5 hown5);have f1:=cell_of_heap HS5.out.sb 0 rfl;have ff:=free_of_heap HS5.out.sb 0;clear hown5 hgrow5 hnil5 hm5)))
    go_roundg (b - cutN a b)
    case measure=>omega
    case rel =>
     obtain ⟨j,hj1,hj2,hj3⟩:=half_left a b k hab (by omega) HK.out
     refine ⟨cutN a b,b,j,down++[⟨a,cutN a b,false⟩],by have hl:=of_decide_eq_false HLEFT.out;omega,by omega,by omega,Nat.le_refl _,hj3,by rw [List.length_append];simp;omega,?_,HS5.out.set HBB.out 0 _ (cutN a b) b rfl⟩
     rw [HWAY.out,wayDown_right _ _ a b HSTOP.out hab HLEFT.out]
     simp
set_option maxRecDepth 100000 in
set_option maxHeartbeats 1600000 in
theorem wayOf_any (n i:Nat) (w:World) (hn:n≤281474976710656) (hi:i<n) :
  Calls Tryz.prog 145 #[.int .i64 n,.int .i64 i,.func (.func 91) #[] #[]] w fun e w'=>∃ v,e=.returned v∧w'.ownsRow w.heap.size 174 3 v (wayRec n i).length (stepsV (wayRec n i))∧Mv (fun _=>False) w w':=by
 have hmf:∀ (fn:Fn) (first cap:Array Value) (w:World),(Instr.makeFunc fn first cap).run Tryz.prog w=.ok (.func fn first cap) w:=fun _ _ _ _=>rfl
 go_enter Tryz.func145,Tryz.ntmps145
 go_wp2_with fail
 have hI:(w.alloc (.cells #[.int .i64 i] 2)).cell? ⟨w.heap.size,0,none⟩=some (.int .i64 i):=cell_of_heap (heap_alloc_new _ _) 0 rfl
 have hma:Mv (fun _=>False) w (w.alloc (.cells #[.int .i64 i] 2)):=(Mv.refl _ _).alloc _
 generalize hW1:w.alloc _=W1
 rw [hW1] at hI hma
 have HM:=zh hma
 have HI:=zh hI
 clear hW1 hma hI
 refine (walkRec_any n i w.heap.size W1 hn hi HI.out).mono ?_
 rintro e w2 ⟨v,rfl,hown,hm2⟩
 have HM2:=zh (HM.out.trans hm2)
 have hl:(wayDown recStop (recLeft i) 0 n).1.length=(wayRec n i).length:=by unfold wayRec;simp
 have hown':w2.ownsRow w.heap.size 174 3 v (wayRec n i).length (stepsV (wayRec n i)):=by
  rw [hl] at hown
  exact owns_mono hown HM.out.size
 have HOWN:=zh hown'
 clear hown hm2 hl hown'
 obtain ⟨sa,hsa⟩:=zg ((wayDown recStop (recLeft i) 0 n).2.1)
 obtain ⟨sb,hsb⟩:=zg ((wayDown recStop (recLeft i) 0 n).2.2)
 rw [←hsa,←hsb]
 clear hsa hsb
 go_wp2_with fail
 go_ret
 exact ⟨v,rfl,HOWN.out.alloc _,HM2.out.alloc _⟩
inductive Nd where
 | given (h:Bs)
 | joined (l r:Nd) (h:Bs)
def Nd.sum:Nd→Bs
 | .given h=>h
 | .joined _ _ h=>h
def NodeAt (w:World):Value→Nd→Prop
 | v,.given h=>h.length=32∧v=.iface 248 (hashV h)
 | v,.joined l r h=>h.length=32∧∃ J vl vr,v=.iface 306 (.pointer (some ⟨J,0,none⟩))∧w.heap[J]?=some (.cells (#[vl,vr]++(h.map byteV).toArray) 309 (0,0))∧NodeAt w vl l∧NodeAt w vr r
theorem NodeAt.len {w:World}:∀ {v:Value} {t:Nd},NodeAt w v t→t.sum.length=32
 | _,.given _,h=>h.1
 | _,.joined _ _ _,h=>h.1
theorem NodeAt.mv {w w':World} (hm:Mv (fun _=>False) w w'):∀ {v:Value} {t:Nd},NodeAt w v t→NodeAt w' v t
 | _,.given _,h=>h
 | _,.joined _ _ _,⟨h1,J,vl,vr,h2,h3,h4,h5⟩=>⟨h1,J,vl,vr,h2,(hm.block J (lt_of_heap h3) id).trans h3,NodeAt.mv hm h4,NodeAt.mv hm h5⟩
set_option maxRecDepth 100000 in
theorem givenSum_any (h:Bs) (w:World) (hl:h.length=32):Calls Tryz.prog 361 #[hashV h] w fun e w'=>e=.returned (hashV h)∧Mv (fun _=>False) w w':=by
 obtain ⟨cs,hcs⟩:=zg ((h.map byteV).toArray)
 unfold hashV
 rw [←hcs]
 have hcsz:cs.size=32:=by rw [hcs];simp [hl]
 have HCSZ:=zh hcsz
 have HONE:Hid (cs.all (·.oneCell')=true):=zh (by rw [hcs];exact hash_one h)
 have HI34:Hid ((Tryz.prog.info? 34).map (·.size)=some cs.size):=zh (by rw [hcsz];exact info34)
 clear hcs hcsz hl
 go_enter Tryz.func361,Tryz.ntmps361
 go_upto_region 1 with fail
 obtain ⟨A,hA⟩:=zg (w.heap.size)
 generalize hZ:(#[_,_,_,_,_,_,_,_,_,_,_,_,_,_,_,_,_,_,_,_,_,_,_,_,_,_,_,_,_,_,_,_]:Array Value)=Z
 have hZs:Z.size=32:=by rw [←hZ];rfl
 have h1:((w.alloc (.cells cs 248)).alloc (.cells Z 34)).heap[w.heap.size]?=some (.cells cs 248 (0,0)):=(Below.heap_alloc _ _ _ (by simp)).trans (heap_alloc_new _ _)
 have h2:((w.alloc (.cells cs 248)).alloc (.cells Z 34)).heap[w.heap.size+1]?=some (.cells Z 34 (0,0)):=by
  rw [show w.heap.size+1=(w.alloc (.cells cs 248)).heap.size by simp];exact heap_alloc_new _ _
 have hm:Mv (fun _=>False) w ((w.alloc (.cells cs 248)).alloc (.cells Z 34)):=((Mv.refl _ _).alloc _).alloc _
 generalize hW1:(w.alloc (.cells cs 248)).alloc (.cells Z 34)=W1
 rw [hW1] at h1 h2 hm
 rw [←hA] at h1 h2 ⊢
 have H1:=zh h1
 have H2:=zh h2
 have HM:=zh hm
 have HA:=zh hA
 have HZC:Hid (Z.size=cs.size):=zh (by rw [hZs,HCSZ.out])
 clear hZ hZs hW1 h1 h2 hm hA
 go_wp2_with (first
  | (refine wpList_load_row rfl 34 _ rfl A rfl 248 cs (0,0) _ H1.out Tryz.underlying34 rfl HI34.out ?_)
  | (refine wpList_store_row rfl 34 _ _ rfl (A+1) cs rfl rfl 34 Z H2.out HI34.out HZC.out HONE.out ?_))
 refine bodyPost_ret (results_hash Tryz.f361 rfl _ _ (A+1) cs rfl (setRow_heap _ _ _ _ _ _ H2.out) HCSZ.out) rfl ?_
 exact ⟨rfl,HM.out.setRow (.inr (by have:=HA.out;omega)) _⟩
set_option maxRecDepth 100000 in
theorem joinedSum_any (h:Bs) (J:Nat) (vl vr:Value) (w:World) (hl:h.length=32) (hJ:w.heap[J]?=some (.cells (#[vl,vr]++(h.map byteV).toArray) 309 (0,0))) :
  Calls Tryz.prog 362 #[.pointer (some ⟨J,0,none⟩)] w fun e w'=>e=.returned (hashV h)∧Mv (fun _=>False) w w':=by
 obtain ⟨cs,hcs⟩:=zg (h.map byteV)
 unfold hashV
 rw [←hcs]
 have hcsz:cs.length=32:=by rw [hcs];simp [hl]
 have HCSZ:=zh hcsz
 have HONE:Hid (cs.toArray.all (·.oneCell')=true):=zh (by rw [hcs];exact hash_one h)
 have HI34:Hid ((Tryz.prog.info? 34).map (·.size)=some cs.toArray.size):=zh (by rw [List.size_toArray,hcsz];exact info34)
 have HI34L:Hid ((Tryz.prog.info? 34).map (·.size)=some cs.length):=zh (by rw [hcsz];exact info34)
 have HC:Hid (∀ (j:Nat) u,cs[j]?=some u→w.cell? ⟨J,2+j,none⟩=some u):=zh fun j u hu=>by
  rw [cell_of_row _ _ _ _ _ _ hJ,←hcs,Array.getElem?_append_right (by simp)]
  simpa using hu
 have hJw:=lt_of_heap hJ
 clear hcs hcsz hl hJ
 go_enter Tryz.func362,Tryz.ntmps362
 go_upto_region 1 with fail
 generalize hZ:(#[_,_,_,_,_,_,_,_,_,_,_,_,_,_,_,_,_,_,_,_,_,_,_,_,_,_,_,_,_,_,_,_]:Array Value)=Z
 have hZs:Z.size=32:=by rw [←hZ];rfl
 obtain ⟨A,hA⟩:=zg (w.heap.size)
 rw [←hA]
 generalize hW1:w.alloc _=W1
 have h2:W1.heap[A]?=some (.cells Z 34 (0,0)):=by rw [←hW1,hA];exact heap_alloc_new _ _
 have hm:Mv (fun _=>False) w W1:=by rw [←hW1];exact (Mv.refl _ _).alloc _
 have HC1:Hid (∀ (j:Nat) u,cs[j]?=some u→W1.cell? ⟨J,2+j,none⟩=some u):=zh fun j u hu=>(hm.cell (p:=⟨J,2+j,none⟩) hJw id).trans (HC.out j u hu)
 have H2:=zh h2
 have HM:=zh hm
 have HA:=zh hA
 have HZC:Hid (Z.size=cs.toArray.size):=zh (hZs.trans (by simp [HCSZ.out]))
 clear hZ hZs hW1 h2 hm hA
 go_wp2_with (first
  | (refine wpList_load_cellsAt rfl 34 _ rfl J 2 rfl cs _ HC1.out Tryz.underlying34 rfl HI34L.out ?_)
  | (refine wpList_store_row rfl 34 _ _ rfl A cs.toArray rfl rfl 34 Z H2.out HI34.out HZC.out HONE.out ?_))
 refine bodyPost_ret (results_hash Tryz.f362 rfl _ _ A cs.toArray rfl (setRow_heap _ _ _ _ _ _ H2.out) (by simp [HCSZ.out])) rfl ?_
 exact ⟨rfl,HM.out.setRow (.inr (by have:=HA.out;omega)) _⟩
theorem method_given (h : Bs) (w : World) : (method 565 248 (hashV h) "ledger/proof.sum").run Tryz.prog w = .ok (361, hashV h) w := by kernel_rfl
theorem method_joined (a : Addr) (w : World) : (method 565 306 (.pointer (some a)) "ledger/proof.sum").run Tryz.prog w = .ok (362, .pointer (some a)) w := by kernel_rfl
theorem fold_set (k:Nat):∀ (l:List Value) (n:Nat) (acc:Array Value),((l.zipIdx n).foldl (fun cs x=>cs.setIfInBounds (k+x.2) x.1) acc).size=acc.size ∧
  ∀ i,((l.zipIdx n).foldl (fun cs x=>cs.setIfInBounds (k+x.2) x.1) acc)[i]?=if k+n≤i∧i<k+n+l.length∧i<acc.size then l[i - (k+n)]? else acc[i]?
 | [],n,acc=>⟨rfl,fun i=>by rw [if_neg (by simp;omega)];rfl⟩
 | c :: l,n,acc=>by
  obtain ⟨h1,h2⟩:=fold_set k l (n+1) (acc.setIfInBounds (k+n) c)
  rw [List.zipIdx_cons,List.foldl_cons]
  refine ⟨by rw [h1];simp,fun i=>?_⟩
  rw [h2,Array.getElem?_setIfInBounds]
  simp only [Array.size_setIfInBounds,List.length_cons]
  by_cases ho:k+n=i
  ·by_cases hs:i<acc.size
   ·rw [if_neg (by omega),if_pos ho,if_pos (by omega),if_pos ⟨by omega,by omega,hs⟩,show i - (k+n)=0 by omega];rfl
   ·rw [if_neg (by omega),if_pos ho,if_neg (by omega),if_neg (by omega)]
    exact (Array.getElem?_eq_none (by omega)).symm
  ·by_cases hin:k+(n+1)≤i∧i<k+(n+1)+l.length∧i<acc.size
   ·rw [if_pos hin,if_pos ⟨by omega,by omega,hin.2.2⟩,show i - (k+n)=(i - (k+(n+1)))+1 by omega,List.getElem?_cons_succ]
   ·rw [if_neg hin,if_neg ho,if_neg (by omega)]
theorem build_joined (x y:Value) (cs:Array Value) (h:cs.size=32) :
  Array.foldl (fun cs x=>cs.setIfInBounds (2+x.snd) x.fst) #[x,y,.int .u8 0,.int .u8 0,.int .u8 0,.int .u8 0,.int .u8 0,.int .u8 0,.int .u8 0,.int .u8 0,.int .u8 0,.int .u8 0,.int .u8 0,.int .u8 0,.int .u8 0,.int .u8 0,.int .u8 0,.int .u8 0,.int .u8 0,.int .u8 0,.int .u8 0,.int .u8 0,.int .u8 0,.int .u8 0,.int .u8 0,.int .u8 0,.int .u8 0,.int .u8 0,.int .u8 0,.int .u8 0,.int .u8 0,.int .u8 0,.int .u8 0,.int .u8 0] (cs.zipIdx 0) 0 32=#[x,y]++cs:=by
 obtain ⟨l⟩:=cs
 have hl:l.length=32:=by simpa using h
 have hsz:32=((⟨l⟩:Array Value).zipIdx 0).size:=by simp [hl]
 rw [hsz,←Array.foldl_toList]
 have e:((⟨l⟩:Array Value).zipIdx 0).toList=l.zipIdx 0:=by simp
 rw [e]
 obtain ⟨h1,h2⟩:=fold_set 2 l 0 #[x,y,.int .u8 0,.int .u8 0,.int .u8 0,.int .u8 0,.int .u8 0,.int .u8 0,.int .u8 0,.int .u8 0,.int .u8 0,.int .u8 0,.int .u8 0,.int .u8 0,.int .u8 0,.int .u8 0,.int .u8 0,.int .u8 0,.int .u8 0,.int .u8 0,.int .u8 0,.int .u8 0,.int .u8 0,.int .u8 0,.int .u8 0,.int .u8 0,.int .u8 0,.int .u8 0,.int .u8 0,.int .u8 0,.int .u8 0,.int .u8 0,.int .u8 0,.int .u8 0]
 apply Array.ext_getElem?
 intro i
 rw [h2,Nat.add_zero,hl]
 simp only [List.size_toArray,List.length_cons,List.length_nil]
 by_cases hi:2≤i∧i<2+32∧i<0+1+1+1+1+1+1+1+1+1+1+1+1+1+1+1+1+1+1+1+1+1+1+1+1+1+1+1+1+1+1+1+1+1+1
 ·rw [if_pos hi,Array.getElem?_append_right (by simp;omega)]
  simp
 ·rw [if_neg hi]
  by_cases h3:i<2
  ·rcases (by omega:i=0∨i=1) with rfl|rfl <;> simp
  ·rw [Array.getElem?_eq_none (by simp;omega),Array.getElem?_eq_none (by simp [hl];omega)]
set_option maxRecDepth 100000 in
set_option maxHeartbeats 1600000 in
theorem join_any (k:Int) (vl vr:Value) (l r:Nd) (w:World) (hl:NodeAt w vl l) (hr:NodeAt w vr r) (he:EnvH w) :
  Calls Tryz.prog 137 #[.int .i64 k,vl,vr] w fun e w'=>∃ v,e=.returned v∧NodeAt w' v (.joined l r (nodeP k l.sum r.sum))∧Mv (fun _=>False) w w':=by
 have HL:=zh hl
 have HR:=zh hr
 have HE:=zh he
 have hmg:=method_given
 have hmj:=method_joined
 have hll:=hl.len
 have hrl:=hr.len
 have HLL:=zh hll
 have HRL:=zh hrl
 have step:∀ {vl' vr':Value},vl'=vl→vr'=vr→True:=fun _ _=>trivial
 clear step hll hrl he
 cases l with
 | given a =>
  obtain ⟨_,rfl⟩:=hl
  cases r with
  | given b =>
   obtain ⟨_,rfl⟩:=hr
   go_enter Tryz.func137,Tryz.ntmps137
   go_wp2_with fail
   refine (givenSum_any a w HLL.out).mono ?_
   rintro e w2 ⟨rfl,hm2⟩
   have HM2:=zh hm2
   clear hm2
   go_wp2_with fail
   refine (givenSum_any b w2 HRL.out).mono ?_
   rintro e w3 ⟨rfl,hm3⟩
   have HM3:=zh (HM2.out.trans hm3)
   clear hm3
   go_wp2_with fail
   refine (nodeHash_any k a b w3 HLL.out HRL.out (HE.out.mv HM3.out (fun _ h=>h.elim))).mono ?_
   rintro e w4 ⟨rfl,hm4⟩
   have HM4:=zh (HM3.out.trans hm4)
   clear hm4
   obtain ⟨cs,hcs⟩:=zg (((nodeP k a b).map byteV).toArray)
   rw [show hashV (nodeP k a b)=.agg cs by rw [hcs];rfl]
   have HCS:=zh hcs
   have hcsz:cs.size=32:=by rw [hcs];simp [nodeP_length]
   clear hcs
   go_wp2_with fail
   go_ret
   refine ⟨_,rfl,⟨nodeP_length _ _ _,w4.heap.size,.iface 248 (hashV a),.iface 248 (hashV b),rfl,?_,?_,?_⟩,HM4.out.alloc _⟩
   ·rw [build_joined _ _ cs hcsz,HCS.out];exact heap_alloc_new _ _
   ·exact NodeAt.mv (HM4.out.alloc _) HL.out
   ·exact NodeAt.mv (HM4.out.alloc _) HR.out
  | joined r1 r2 b =>
   obtain ⟨_,J2,u3,u4,rfl,hj2,_,_⟩:=hr
   have HJ2:=zh hj2
   clear hj2
   go_enter Tryz.func137,Tryz.ntmps137
   go_wp2_with fail
   refine (givenSum_any a w HLL.out).mono ?_
   rintro e w2 ⟨rfl,hm2⟩
   have HM2:=zh hm2
   clear hm2
   go_wp2_with fail
   refine (joinedSum_any b J2 u3 u4 w2 HRL.out ((HM2.out.block J2 (lt_of_heap HJ2.out) id).trans HJ2.out)).mono ?_
   rintro e w3 ⟨rfl,hm3⟩
   have HM3:=zh (HM2.out.trans hm3)
   clear hm3
   go_wp2_with fail
   refine (nodeHash_any k a b w3 HLL.out HRL.out (HE.out.mv HM3.out (fun _ h=>h.elim))).mono ?_
   rintro e w4 ⟨rfl,hm4⟩
   have HM4:=zh (HM3.out.trans hm4)
   clear hm4
   obtain ⟨cs,hcs⟩:=zg (((nodeP k a b).map byteV).toArray)
   rw [show hashV (nodeP k a b)=.agg cs by rw [hcs];rfl]
   have HCS:=zh hcs
   have hcsz:cs.size=32:=by rw [hcs];simp [nodeP_length]
   clear hcs
   go_wp2_with fail
   go_ret
   refine ⟨_,rfl,⟨nodeP_length _ _ _,w4.heap.size,.iface 248 (hashV a),.iface 306 (.pointer (some ⟨J2,0,none⟩)),rfl,?_,?_,?_⟩,HM4.out.alloc _⟩
   ·rw [build_joined _ _ cs hcsz,HCS.out];exact heap_alloc_new _ _
   ·exact NodeAt.mv (HM4.out.alloc _) HL.out
   ·exact NodeAt.mv (HM4.out.alloc _) HR.out
 | joined l1 l2 a =>
  obtain ⟨_,J1,u1,u2,rfl,hj1,_,_⟩:=hl
  have HJ1:=zh hj1
  clear hj1
  cases r with
  | given b =>
   obtain ⟨_,rfl⟩:=hr
   go_enter Tryz.func137,Tryz.ntmps137
   go_wp2_with fail
   refine (joinedSum_any a J1 u1 u2 w HLL.out HJ1.out).mono ?_
   rintro e w2 ⟨rfl,hm2⟩
   have HM2:=zh hm2
   clear hm2
   go_wp2_with fail
   refine (givenSum_any b w2 HRL.out).mono ?_
   rintro e w3 ⟨rfl,hm3⟩
   have HM3:=zh (HM2.out.trans hm3)
   clear hm3
   go_wp2_with fail
   refine (nodeHash_any k a b w3 HLL.out HRL.out (HE.out.mv HM3.out (fun _ h=>h.elim))).mono ?_
   rintro e w4 ⟨rfl,hm4⟩
   have HM4:=zh (HM3.out.trans hm4)
   clear hm4
   obtain ⟨cs,hcs⟩:=zg (((nodeP k a b).map byteV).toArray)
   rw [show hashV (nodeP k a b)=.agg cs by rw [hcs];rfl]
   have HCS:=zh hcs
   have hcsz:cs.size=32:=by rw [hcs];simp [nodeP_length]
   clear hcs
   go_wp2_with fail
   go_ret
   refine ⟨_,rfl,⟨nodeP_length _ _ _,w4.heap.size,.iface 306 (.pointer (some ⟨J1,0,none⟩)),.iface 248 (hashV b),rfl,?_,?_,?_⟩,HM4.out.alloc _⟩
   ·rw [build_joined _ _ cs hcsz,HCS.out];exact heap_alloc_new _ _
   ·exact NodeAt.mv (HM4.out.alloc _) HL.out
   ·exact NodeAt.mv (HM4.out.alloc _) HR.out
  | joined r1 r2 b =>
   obtain ⟨_,J2,u3,u4,rfl,hj2,_,_⟩:=hr
   have HJ2:=zh hj2
   clear hj2
   go_enter Tryz.func137,Tryz.ntmps137
   go_wp2_with fail
   refine (joinedSum_any a J1 u1 u2 w HLL.out HJ1.out).mono ?_
   rintro e w2 ⟨rfl,hm2⟩
   have HM2:=zh hm2
   clear hm2
   go_wp2_with fail
   refine (joinedSum_any b J2 u3 u4 w2 HRL.out ((HM2.out.block J2 (lt_of_heap HJ2.out) id).trans HJ2.out)).mono ?_
   rintro e w3 ⟨rfl,hm3⟩
   have HM3:=zh (HM2.out.trans hm3)
   clear hm3
   go_wp2_with fail
   refine (nodeHash_any k a b w3 HLL.out HRL.out (HE.out.mv HM3.out (fun _ h=>h.elim))).mono ?_
   rintro e w4 ⟨rfl,hm4⟩
   have HM4:=zh (HM3.out.trans hm4)
   clear hm4
   obtain ⟨cs,hcs⟩:=zg (((nodeP k a b).map byteV).toArray)
   rw [show hashV (nodeP k a b)=.agg cs by rw [hcs];rfl]
   have HCS:=zh hcs
   have hcsz:cs.size=32:=by rw [hcs];simp [nodeP_length]
   clear hcs
   go_wp2_with fail
   go_ret
   refine ⟨_,rfl,⟨nodeP_length _ _ _,w4.heap.size,.iface 306 (.pointer (some ⟨J1,0,none⟩)),.iface 306 (.pointer (some ⟨J2,0,none⟩)),rfl,?_,?_,?_⟩,HM4.out.alloc _⟩
   ·rw [build_joined _ _ cs hcsz,HCS.out];exact heap_alloc_new _ _
   ·exact NodeAt.mv (HM4.out.alloc _) HL.out
   ·exact NodeAt.mv (HM4.out.alloc _) HR.out
def HsAt (w:World) (g off:Nat) (p:List Bs):Prop:=∀ (j:Nat) h,p[j]?=some h→h.length=32∧∀ (t:Nat) u,(h.map byteV)[t]?=some u→w.cell? ⟨g,off+j * 32+t,none⟩=some u
def HsIn (w:World) (v:Value) (p:List Bs):Prop:=(v=.slice none 0 0∧p=[])∨∃ g off cap,v=.slice (some ⟨g,off,none⟩) p.length cap∧p.length≤cap∧HsAt w g off p∧(p≠[]→g<w.heap.size)
theorem HsIn.mv {M:Nat→Prop} {w w':World} {v:Value} {p:List Bs} (h:HsIn w v p) (hm:Mv M w w') (hM:∀ g,g<w.heap.size→¬ M g):HsIn w' v p:=by
 rcases h with h|⟨g,off,cap,h1,h2,h3,h4⟩
 ·exact .inl h
 ·refine .inr ⟨g,off,cap,h1,h2,fun j h hj=>⟨(h3 j h hj).1,fun t u hu=>?_⟩,fun hne=>Nat.lt_of_lt_of_le (h4 hne) hm.size⟩
  have hg:g<w.heap.size:=h4 (fun e=>by rw [e] at hj;simp at hj)
  exact (hm.cell (p:=⟨g,off+j * 32+t,none⟩) hg (hM g hg)).trans ((h3 j h hj).2 t u hu)
def climbStep (k:Int) (t:Nd) (s:Step) (h:Bs):Nd:=if s.right=true then .joined t (.given h) (nodeP k t.sum h) else .joined (.given h) t (nodeP k h t.sum)
def climbN (k:Int) (leaf:Bs) (way:List Step) (p:List Bs):Nat→Nd
 | 0=>.given leaf
 | j+1=>climbStep k (climbN k leaf way p j) (way.getD j ⟨0,0,false⟩) (p.getD j [])
def NodesAt (w:World) (vs:List Value) (F:Nat→Nd):Prop:=∀ (j:Nat) v,vs[j]?=some v→NodeAt w v (F j)
theorem build_given (cs:Array Value) (h:cs.size=32):Array.foldl (fun cs x=>cs.setIfInBounds x.snd x.fst) (#[.int .u8 0,.int .u8 0,.int .u8 0,.int .u8 0,.int .u8 0,.int .u8 0,.int .u8 0,.int .u8 0,.int .u8 0,.int .u8 0,.int .u8 0,.int .u8 0,.int .u8 0,.int .u8 0,.int .u8 0,.int .u8 0,.int .u8 0,.int .u8 0,.int .u8 0,.int .u8 0,.int .u8 0,.int .u8 0,.int .u8 0,.int .u8 0,.int .u8 0,.int .u8 0,.int .u8 0,.int .u8 0,.int .u8 0,.int .u8 0,.int .u8 0,.int .u8 0]:Array Value) (cs.zipIdx 0) 0 32=cs:=by
 obtain ⟨l⟩:=cs
 have hl:l.length=32:=by simpa using h
 have hsz:32=((⟨l⟩:Array Value).zipIdx 0).size:=by simp [hl]
 rw [hsz,←Array.foldl_toList]
 have e:((⟨l⟩:Array Value).zipIdx 0).toList=l.zipIdx 0:=by simp
 rw [e]
 obtain ⟨_,h2⟩:=fold_set 0 l 0 #[.int .u8 0,.int .u8 0,.int .u8 0,.int .u8 0,.int .u8 0,.int .u8 0,.int .u8 0,.int .u8 0,.int .u8 0,.int .u8 0,.int .u8 0,.int .u8 0,.int .u8 0,.int .u8 0,.int .u8 0,.int .u8 0,.int .u8 0,.int .u8 0,.int .u8 0,.int .u8 0,.int .u8 0,.int .u8 0,.int .u8 0,.int .u8 0,.int .u8 0,.int .u8 0,.int .u8 0,.int .u8 0,.int .u8 0,.int .u8 0,.int .u8 0,.int .u8 0]
 simp only [Nat.zero_add] at h2
 apply Array.ext_getElem?
 intro i
 rw [h2,hl]
 simp only [List.size_toArray,List.length_cons,List.length_nil]
 by_cases hi:i<32
 ·rw [if_pos ⟨Nat.zero_le _,hi,hi⟩];simp
 ·rw [if_neg (by omega),Array.getElem?_eq_none (by simp;omega),Array.getElem?_eq_none (by simp [hl];omega)]
theorem build_givenL (l:List Value) (hl:l.length=32):List.foldl (fun cs x=>cs.setIfInBounds x.snd x.fst) (#[.int .u8 0,.int .u8 0,.int .u8 0,.int .u8 0,.int .u8 0,.int .u8 0,.int .u8 0,.int .u8 0,.int .u8 0,.int .u8 0,.int .u8 0,.int .u8 0,.int .u8 0,.int .u8 0,.int .u8 0,.int .u8 0,.int .u8 0,.int .u8 0,.int .u8 0,.int .u8 0,.int .u8 0,.int .u8 0,.int .u8 0,.int .u8 0,.int .u8 0,.int .u8 0,.int .u8 0,.int .u8 0,.int .u8 0,.int .u8 0,.int .u8 0,.int .u8 0]:Array Value) l.zipIdx=l.toArray:=by
 have h:=build_given l.toArray (by simp [hl])
 have hsz:32=(l.toArray.zipIdx 0).size:=by simp [hl]
 rw [hsz,←Array.foldl_toList] at h
 simpa using h
theorem HsIn.shape {w:World} {v:Value} {p:List Bs} (h:HsIn w v p):∃ a c,v=.slice a p.length c:=by
 rcases h with ⟨rfl,rfl⟩|⟨g,off,cap,rfl,_⟩
 ·exact ⟨_,_,rfl⟩
 ·exact ⟨_,_,rfl⟩
theorem NodeAt.iface {w:World}:∀ {v:Value} {t:Nd},NodeAt w v t→∃ ty x,v=.iface ty x
 | _,.given _,h=>⟨_,_,h.2⟩
 | _,.joined _ _ _,⟨_,_,_,_,h,_⟩=>⟨_,_,h⟩
theorem NodesAt.mv {w w':World} {vs:List Value} {F:Nat→Nd} (h:NodesAt w vs F) (hm:Mv (fun _=>False) w w'):NodesAt w' vs F:=fun j v hv=>(h j v hv).mv hm
theorem NodeAt.mvT {F:Nat→Prop} {w w':World} (hm:Mv F w w') (hF:∀ b,F b→∀ c,w.heap[b]?≠some (.cells c 309 (0,0))):∀ {v:Value} {t:Nd},NodeAt w v t→NodeAt w' v t
 | _,.given _,h=>h
 | _,.joined _ _ _,⟨h1,J,vl,vr,h2,h3,h4,h5⟩=>⟨h1,J,vl,vr,h2,(hm.block J (lt_of_heap h3) (fun hf=>hF J hf _ h3)).trans h3,NodeAt.mvT hm hF h4,NodeAt.mvT hm hF h5⟩
theorem own_not309 {w:World} {B:Nat} {v:Value} {n:Nat} {vs:List Value} (h:w.ownsRow B 177 1 v n vs) (b:Nat) (hb:v.ownBlock=some b) (c:Array Value):w.heap[b]?≠some (.cells c 309 (0,0)):=fun e=>by
 rcases h.2 with ⟨rfl,_⟩|⟨g,cap,cur,rfl,_,hg,_⟩
 ·cases hb
 ·cases hb
  rw [hg] at e
  simp at e
theorem HsIn.at {w:World} {a:Option Addr} {c:Nat} {p:List Bs} (h:HsIn w (.slice a p.length c) p) (j:Nat) (hj:j<p.length) :
  ∃ g off,a=some ⟨g,off,none⟩∧p.length≤c∧(p.getD j []).length=32∧∀ (t:Nat) u,((p.getD j []).map byteV)[t]?=some u→w.cell? ⟨g,off+j * 32+t,none⟩=some u:=by
 rcases h with ⟨_,rfl⟩|⟨g,off,cap,hv,hc,hh,_⟩
 ·simp at hj
 ·have hx:p[j]?=some (p.getD j []):=by simp [hj]
  obtain ⟨h1,h2⟩:=hh j _ hx
  simp only [Value.slice.injEq] at hv
  exact ⟨g,off,hv.1,by rw [hv.2.2];exact hc,h1,h2⟩
theorem way_at {w:World} {B n:Nat} {a:Option Addr} {c:Nat} {way:List Step} (h:w.ownsRow B 174 3 (.slice a n c) way.length (stepsV way)) (j:Nat) (hj:j<way.length) :
  ∃ g,a=some ⟨g,0,none⟩∧w.cell? ⟨g,j * 3,none⟩=some (.int .i64 (way.getD j ⟨0,0,false⟩).a)∧w.cell? ⟨g,j * 3+1,none⟩=some (.int .i64 (way.getD j ⟨0,0,false⟩).b)∧w.cell? ⟨g,j * 3+2,none⟩=some (.bool (way.getD j ⟨0,0,false⟩).right):=by
 have hne:way.map Step.cells≠[]:=by intro e;simp at e;rw [e] at hj;simp at hj
 obtain ⟨g,cap,hv,_,_,hrow⟩:=owns_rowG (way.map Step.cells) (step_len way) (by rw [List.length_map];exact h) hne
 have hr:=hrow.range j (by rw [List.length_map];exact hj)
 have hx:(way.map Step.cells).getD j []=(way.getD j ⟨0,0,false⟩).cells:=by simp [hj]
 simp only [Value.slice.injEq] at hv
 exact ⟨g,hv.1,hr 0 _ (by rw [hx];rfl),hr 1 _ (by rw [hx];rfl),hr 2 _ (by rw [hx];rfl)⟩
theorem Tryz.info177:(Tryz.prog.info? 177).map (fun i=>(i.zero,i.size,i.bytes))=some (some .nilIface,1,16):=by kernel_rfl
set_option maxRecDepth 100000 in
set_option maxHeartbeats 3200000 in
theorem climbed_any (k:Int) (pv wv:Value) (p:List Bs) (way:List Step) (leaf:Bs) (B0:Nat) (w:World) (hp:HsIn w pv p) (hw:w.ownsRow B0 174 3 wv way.length (stepsV way)) (hlen:p.length=way.length) (hb:way.length≤64) (hl:leaf.length=32) (he:EnvH w) :
  Calls Tryz.prog 146 #[.int .i64 k,pv,wv,hashV leaf] w fun e w'=>∃ v vs,e=.returned v∧w'.ownsRow w.heap.size 177 1 v (way.length+1) vs∧NodesAt w' vs (climbN k leaf way p)∧Mv (fun _=>False) w w':=by
 obtain ⟨i0,hi0,hz0,hz1,hz2⟩:=info_parts Tryz.info177
 obtain ⟨cs,hcs⟩:=zg ((leaf.map byteV).toArray)
 unfold hashV
 rw [←hcs]
 have hcsz:cs.size=32:=by rw [hcs];simp [hl]
 have HCS:=zh hcs
 have hbg:=build_given cs hcsz
 obtain ⟨pa,pc,hpv⟩:=hp.shape
 subst hpv
 obtain ⟨wa,wc,hwv⟩:=owns_shape hw
 subst hwv
 obtain ⟨n,hn⟩:=zg (way.length)
 rw [hlen]
 rw [←hn] at hb ⊢
 have HN:=zh hn
 have HI34:Hid ((Tryz.prog.info? 34).map (·.size)=some cs.size):=zh (by rw [hcsz];exact info34)
 have HP:=zh hp
 have HW:=zh hw
 have HLN:=zh hlen
 have HL:=zh hl
 have HE:=zh he
 clear hcs hp hw hl he hlen hn
 go_enter Tryz.func146,Tryz.ntmps146
 go_wp2_with (first
  | (refine wpList_load_row rfl 34 _ rfl w.heap.size rfl 34 cs (0,0) _ (heap_alloc_new _ _) Tryz.underlying34 rfl HI34.out ?_))
 have hown1:((w.alloc (.cells cs 34)).alloc (.cells #[.iface 248 (.agg cs)] 177)).ownsRow w.heap.size 177 1 (.slice (some ⟨w.heap.size+1,0,none⟩) 1 1) 1 [.iface 248 (.agg cs)]:=by
  refine ⟨rfl,.inr ⟨w.heap.size+1,1,#[.iface 248 (.agg cs)],rfl,by omega,?_,Nat.le_refl _,by unfold maxLen;decide,rfl,rfl⟩⟩
  rw [show w.heap.size+1=(w.alloc (.cells cs 34)).heap.size by simp]
  exact heap_alloc_new _ _
 have hm1:Mv (fun _=>False) w ((w.alloc (.cells cs 34)).alloc (.cells #[.iface 248 (.agg cs)] 177)):=((Mv.refl _ _).alloc _).alloc _
 have hn0:NodeAt ((w.alloc (.cells cs 34)).alloc (.cells #[.iface 248 (.agg cs)] 177)) (.iface 248 (.agg cs)) (climbN k leaf way p 0):=⟨HL.out,by rw [HCS.out];rfl⟩
 generalize hW1:(w.alloc _).alloc _=W1
 rw [hW1] at hown1 hm1 hn0
 have HOWN1:=zh hown1
 have HM1:=zh hm1
 have HN0:=zh hn0
 clear hW1 hown1 hm1 hn0
 go_loopw [9,10,22] (fun s9 s10 i wr=>∃ (j:Nat) (vs:List Value),j≤n∧i=.int .i64 j∧wr.ownsRow w.heap.size 177 1 s9 (j+1) vs∧NodesAt wr vs (climbN k leaf way p)∧NodeAt wr s10 (climbN k leaf way p j)∧Mv (fun _=>False) w wr) (fun _ _ i _=>n - (intOf i).toNat)
 case atStart=>exact ⟨0,[.iface 248 (.agg cs)],by omega,rfl,HOWN1.out,fun j v hv=>by
  match j,hv with
  | 0,hv=>cases hv;exact HN0.out
  | j+1,hv=>simp at hv,HN0.out,HM1.out⟩
 case round =>
  obtain ⟨j,vs,hj,rfl,hown,hns,hat,hmv⟩:=hrel
  obtain ⟨na,nc,hsh⟩:=owns_shape hown
  subst hsh
  have HOWN:=zh hown
  have HNS:=zh hns
  have HAT:=zh hat
  have HMV:=zh hmv
  have hwsz:=hmv.size
  by_cases hjn:j<n
  ·obtain ⟨gw,hgw,w0,w1,w2⟩:=way_at (owns_mv HW.out hmv (fun _ _ _ h=>h)) j (by rw [←HN.out];exact hjn)
   obtain ⟨gp,op,hgp,hpc,hh32,hpcells⟩:=HsIn.at (HP.out.mv hmv (fun _ _ h=>h)) j (by rw [HLN.out,←HN.out];exact hjn)
   subst hgw hgp
   obtain ⟨s,hs⟩:=zg (way.getD j ⟨0,0,false⟩)
   rw [←hs] at w0 w1 w2
   obtain ⟨hb0,hh⟩:=zg (p.getD j [])
   rw [←hh] at hh32 hpcells
   have HSS:=zh hs
   have HHH:=zh hh
   have HH32:=zh hh32
   obtain ⟨hc,hhc⟩:=zg (hb0.map byteV)
   rw [←hhc] at hpcells
   have hhl:hc.length=32:=by rw [hhc,List.length_map];exact hh32
   have hbg2:=build_givenL hc hhl
   have HPC:Hid (∀ (o:Obj) (t:Nat) u,hc[t]?=some u→(wr.alloc o).cell? ⟨gp,op+j * 32+t,none⟩=some u):=zh fun o t u hu =>
    (World.cell?_of_block (Below.heap_alloc _ _ _ (World.block_lt_of_cell? _ _ (hpcells t u hu)))).trans (hpcells t u hu)
   have HHC:=zh hhc
   have HIL:Hid ((Tryz.prog.info? 34).map (·.size)=some hc.length):=zh (by rw [hhl];exact info34)
   have hstep:climbN k leaf way p (j+1)=climbStep k (climbN k leaf way p j) s hb0:=by rw [HSS.out,HHH.out];rfl
   have HSTEP:=zh hstep
   have hpj:(j:Int)<n:=by omega
   have hwlen:(j:Int)<n:=by omega
   have HLC:Hid (hc.length=32):=zh hhl
   have hcap:n≤pc:=by rw [HN.out,←HLN.out];exact hpc
   clear hown hns hat hmv hs hh hh32 hpcells hhc hstep hpc
   rcases hsr:s.right with _|_
   ·rw [hsr] at w2
    have HSR:=zh hsr
    clear hsr
    go_wp2_with (first
     | (refine wpList_load_cellsAt rfl 34 _ rfl gp (op+j * 32) rfl hc _ (HPC.out _) Tryz.underlying34 rfl HIL.out ?_))
    have hj:=fun o:Obj=>join_any k (.iface 248 (hashV hb0)) u10 (.given hb0) (climbN k leaf way p j) (wr.alloc o) ⟨HH32.out,rfl⟩ (HAT.out.mv ((Mv.refl _ _).alloc _)) (HE.out.mv (HMV.out.alloc _) (fun _ h=>h.elim))
    rw [show hashV hb0=.agg hc.toArray by rw [HHC.out];rfl] at hj
    refine (hj _).mono ?_
    rintro e w5 ⟨v5,rfl,hv5,hm5⟩
    have HV5:Hid (NodeAt w5 v5 (climbN k leaf way p (j+1))):=zh (by rw [HSTEP.out];unfold climbStep;rw [HSR.out];exact hv5)
    have HM5:Hid (Mv (fun _=>False) wr w5):=zh (((Mv.refl _ _).alloc _).trans hm5)
    obtain ⟨ty,x5,hx5⟩:=hv5.iface
    subst hx5
    have HOWN5:=zh (owns_mv HOWN.out HM5.out (fun _ _ _ h=>h))
    have hw5:w.heap.size≤w5.heap.size:=Nat.le_trans hwsz HM5.out.size
    clear hj hv5 hm5 w0 w1 w2 hbg hbg2 hhl
    go_wp2_with (first
     | (at_builtin;go_loud (refine wpList_append_own _ rfl _ _ 258 rfl w.heap.size 177 i0 .nilIface 1 16 Tryz.underlying258 hi0 hz0 hz1 hz2 rfl (by decide) _ _ _ rfl (HOWN5.out.alloc _) ⟨w5.heap.size,0,none⟩ 1 1 [.iface ty x5] rfl rfl (cell_one_new _ _ _) (by intro u hu;simp at hu;subst hu;rfl) (by unfold maxLen;omega) (by omega) (by simp;omega) ?_;intro v6 w6 hown6 hgrow6 hnil6;have HM6:Hid (Mv (fun g=>w.heap.size≤g) w5 w6):=zh (((Mv.refl _ _).alloc _).grown hgrow6 (fun k hk=>.inl (HOWN5.out.lt k hk).1));have HOWN6:=zh hown6;have HG6:Hid (Mv (fun b=>(Value.slice na (j+1) nc).ownBlock=some b) w5 w6):=zh (((Mv.refl _ _).alloc _).grown hgrow6 (fun k hk=>.inl hk));clear hown6 hgrow6 hnil6)))
    go_roundw
    case rel =>
      have hT:=own_not309 HOWN5.out
      refine ⟨j+1,vs++[.iface ty x5],by omega,by go_num,HOWN6.out,fun i v hv=>?_,NodeAt.mvT HG6.out hT HV5.out,(HMV.out.trans HM5.out).trans' HM6.out (fun i hi h=>by omega)⟩
      have hvl:vs.length=j+1:=by have:=HOWN5.out.1;simpa using this
      by_cases hi:i<vs.length
      ·rw [List.getElem?_append_left hi] at hv
       exact NodeAt.mvT HG6.out hT ((HNS.out i v hv).mv HM5.out)
      ·rw [List.getElem?_append_right (by omega)] at hv
       have hi2:i - vs.length=0:=by
        apply Classical.byContradiction
        intro hc
        rw [List.getElem?_eq_none (by simp;omega)] at hv;cases hv
       rw [hi2] at hv
       cases hv
       rw [show i=j+1 by omega]
       exact NodeAt.mvT HG6.out hT HV5.out
    case measure=>simp [intOf];omega
   ·rw [hsr] at w2
    have HSR:=zh hsr
    clear hsr
    go_wp2_with (first
     | (refine wpList_load_cellsAt rfl 34 _ rfl gp (op+j * 32) rfl hc _ (HPC.out _) Tryz.underlying34 rfl HIL.out ?_))
    have hj:=fun o:Obj=>join_any k u10 (.iface 248 (hashV hb0)) (climbN k leaf way p j) (.given hb0) (wr.alloc o) (HAT.out.mv ((Mv.refl _ _).alloc _)) ⟨HH32.out,rfl⟩ (HE.out.mv (HMV.out.alloc _) (fun _ h=>h.elim))
    rw [show hashV hb0=.agg hc.toArray by rw [HHC.out];rfl] at hj
    refine (hj _).mono ?_
    rintro e w5 ⟨v5,rfl,hv5,hm5⟩
    have HV5:Hid (NodeAt w5 v5 (climbN k leaf way p (j+1))):=zh (by rw [HSTEP.out];unfold climbStep;rw [HSR.out];exact hv5)
    have HM5:Hid (Mv (fun _=>False) wr w5):=zh (((Mv.refl _ _).alloc _).trans hm5)
    obtain ⟨ty,x5,hx5⟩:=hv5.iface
    subst hx5
    have HOWN5:=zh (owns_mv HOWN.out HM5.out (fun _ _ _ h=>h))
    have hw5:w.heap.size≤w5.heap.size:=Nat.le_trans hwsz HM5.out.size
    clear hj hv5 hm5 w0 w1 w2 hbg hbg2 hhl
    go_wp2_with (first
     | (at_builtin;go_loud (refine wpList_append_own _ rfl _ _ 258 rfl w.heap.size 177 i0 .nilIface 1 16 Tryz.underlying258 hi0 hz0 hz1 hz2 rfl (by decide) _ _ _ rfl (HOWN5.out.alloc _) ⟨w5.heap.size,0,none⟩ 1 1 [.iface ty x5] rfl rfl (cell_one_new _ _ _) (by intro u hu;simp at hu;subst hu;rfl) (by unfold maxLen;omega) (by omega) (by simp;omega) ?_;intro v6 w6 hown6 hgrow6 hnil6;have HM6:Hid (Mv (fun g=>w.heap.size≤g) w5 w6):=zh (((Mv.refl _ _).alloc _).grown hgrow6 (fun k hk=>.inl (HOWN5.out.lt k hk).1));have HOWN6:=zh hown6;have HG6:Hid (Mv (fun b=>(Value.slice na (j+1) nc).ownBlock=some b) w5 w6):=zh (((Mv.refl _ _).alloc _).grown hgrow6 (fun k hk=>.inl hk));clear hown6 hgrow6 hnil6)))
    go_roundw
    case rel =>
      have hT:=own_not309 HOWN5.out
      refine ⟨j+1,vs++[.iface ty x5],by omega,by go_num,HOWN6.out,fun i v hv=>?_,NodeAt.mvT HG6.out hT HV5.out,(HMV.out.trans HM5.out).trans' HM6.out (fun i hi h=>by omega)⟩
      have hvl:vs.length=j+1:=by have:=HOWN5.out.1;simpa using this
      by_cases hi:i<vs.length
      ·rw [List.getElem?_append_left hi] at hv
       exact NodeAt.mvT HG6.out hT ((HNS.out i v hv).mv HM5.out)
      ·rw [List.getElem?_append_right (by omega)] at hv
       have hi2:i - vs.length=0:=by
        apply Classical.byContradiction
        intro hc
        rw [List.getElem?_eq_none (by simp;omega)] at hv;cases hv
       rw [hi2] at hv
       cases hv
       rw [show i=j+1 by omega]
       exact NodeAt.mvT HG6.out hT HV5.out
    case measure=>simp [intOf];omega
  ·have hjn2:j=n:=by omega
   subst hjn2
   clear hbg hown hns hat hmv
   go_wp2_with fail
   go_ret
   exact ⟨_,vs,rfl,HOWN.out,HNS.out,HMV.out⟩
def sizedP (n:Int):Bool:=decide (1≤n∧n≤281474976710656)
set_option maxRecDepth 100000 in
theorem sized_any (n:Int) (w:World):Calls Tryz.prog 89 #[.int .i64 n] w fun e w'=>e=.returned (.bool (sizedP n))∧w=w':=by
 by_cases h1:1≤n
 ·by_cases h2:n≤281474976710656
  ·have e:sizedP n=true:=decide_eq_true ⟨h1,h2⟩
   rw [e]
   clear e
   go_enter Tryz.func89,Tryz.ntmps89
   go_wp2
   go_ret
   exact ⟨rfl,rfl⟩
  ·have e:sizedP n=false:=decide_eq_false (fun h=>h2 h.2)
   rw [e]
   clear e
   have h2':281474976710656<n:=by omega
   go_enter Tryz.func89,Tryz.ntmps89
   go_wp2
   go_ret
   exact ⟨rfl,rfl⟩
 ·have e:sizedP n=false:=decide_eq_false (fun h=>h1 h.1)
  rw [e]
  clear e
  have h1':n<1:=by omega
  go_enter Tryz.func89,Tryz.ntmps89
  go_wp2
  go_ret
  exact ⟨rfl,rfl⟩
def climbErr (n i:Int) (p:List Bs):Int:=if ¬ (sizedP n=true)∨i<0∨n≤i then 1 else if p.length≠(wayRec n.toNat i.toNat).length then 90 else 0
def climbRoot (k:Int) (n i:Int) (leaf:Bs) (p:List Bs):Bs:=(climbN k leaf (wayRec n.toNat i.toNat) p (wayRec n.toNat i.toNat).length).sum
def zero32:Bs:=List.replicate 32 0
theorem wayDown_len (stop:Nat→Nat→Bool) (left:Nat→Bool):∀ (k a b:Nat),b≤281474976710656→b - a≤2 ^ k→(wayDown stop left a b).1.length≤k
 | k,a,b,hb,hk=>by
  by_cases h1:stop a b=true∨b<a+2
  ·rw [wayDown,if_pos h1];exact Nat.zero_le _
  ·obtain ⟨j,hj,h2,h3⟩:=half_left a b k (by omega) hb hk
   have hc:=cutN_in a b (by omega)
   rw [wayDown,if_neg h1]
   by_cases h4:left (cutN a b)=true
   ·rw [if_pos h4]
    have:=wayDown_len stop left j a (cutN a b) (by omega) h2
    simp only [List.length_cons];omega
   ·rw [if_neg h4]
    have:=wayDown_len stop left j (cutN a b) b hb h3
    simp only [List.length_cons];omega
theorem wayRec_len (n i:Nat) (hn:n≤281474976710656) (_hi:i<n):(wayRec n i).length≤64:=by
 unfold wayRec
 rw [List.length_reverse]
 exact Nat.le_trans (wayDown_len _ _ 48 0 n hn (by omega)) (by decide)
def z32B:Array Value:=#[.int .u8 0,.int .u8 0,.int .u8 0,.int .u8 0,.int .u8 0,.int .u8 0,.int .u8 0,.int .u8 0,.int .u8 0,.int .u8 0,.int .u8 0,.int .u8 0,.int .u8 0,.int .u8 0,.int .u8 0,.int .u8 0,.int .u8 0,.int .u8 0,.int .u8 0,.int .u8 0,.int .u8 0,.int .u8 0,.int .u8 0,.int .u8 0,.int .u8 0,.int .u8 0,.int .u8 0,.int .u8 0,.int .u8 0,.int .u8 0,.int .u8 0,.int .u8 0]
theorem info34z:(Tryz.prog.info? 34).map (·.size)=some z32B.size:=by kernel_rfl
theorem z32_oneB:z32B.all (·.oneCell')=true:=by kernel_rfl
theorem zero32_V:(zero32.map byteV).toArray=z32B:=by kernel_rfl
theorem zero32_W:hashV zero32=.agg z32B:=by unfold hashV;rw [zero32_V]
theorem results_ct {fn:Func} {t p:Tmp} {ty:TypeId} (h:fn.results=#[.cell p ty,.tmp t]) (tmps:Array Value) (w:World) (b:Nat) (et:TypeId) (cs:Array Value) (u:Value) (d:TypeDesc) (ht:tmps.getD t undef=u) (hp:tmps.getD p undef=.pointer (some ⟨b,0,none⟩)) (hg:w.heap[b]?=some (.cells cs et (0,0)))
  (hu:Tryz.prog.underlying ty=some d) (hd:d.isRow=true) (hi:(Tryz.prog.info? ty).map (·.size)=some cs.size) :
  (results fn tmps).run Tryz.prog w=.ok (.tuple #[.agg cs,u]) w:=by
 have e:=run_loadVar_row w b et ty cs (0,0) d hg hu (by cases d <;> first|rfl|simp [TypeDesc.isRow] at hd) hi
 have ht':tmps[t]?.getD undef=u:=by simpa using ht
 have hp':tmps[p]?.getD undef=.pointer (some ⟨b,0,none⟩):=by simpa using hp
 simp only [results,h]
 simp [Result.andThen,asAddr,e,ht',hp']
def climbAns (k n i:Int) (leaf:Bs) (p:List Bs):Value:=.tuple #[hashV (if climbErr n i p=0 then climbRoot k n i leaf p else zero32),.int .i64 (climbErr n i p)]
theorem climbAns_bad (k n i:Int) (leaf:Bs) (p:List Bs) (c:Int) (h:climbErr n i p=c) (hc:c≠0):climbAns k n i leaf p=.tuple #[.agg z32B,.int .i64 c]:=by
 unfold climbAns
 rw [h,if_neg hc,zero32_W]
theorem climbAns_ok (k n i:Int) (leaf:Bs) (p:List Bs) (h:climbErr n i p=0):climbAns k n i leaf p=.tuple #[hashV (climbRoot k n i leaf p),.int .i64 0]:=by
 unfold climbAns
 rw [h,if_pos rfl]
set_option maxRecDepth 100000 in
set_option maxHeartbeats 3200000 in
theorem climbRecord_any (k n i:Int) (pv:Value) (p:List Bs) (leaf:Bs) (w:World) (hp:HsIn w pv p) (hl:leaf.length=32) (hpl:p.length≤1099511627776) (he:EnvH w) :
  Calls Tryz.prog 98 #[.int .i64 k,pv,.int .i64 n,.int .i64 i,hashV leaf] w fun e w' =>
   e=.returned (climbAns k n i leaf p)∧Mv (fun _=>False) w w':=by
 obtain ⟨cs,hcs⟩:=zg ((leaf.map byteV).toArray)
 rw [show hashV leaf=.agg cs by rw [hcs];rfl]
 have hcsz:cs.size=32:=by rw [hcs];simp [hl]
 have HCS:=zh hcs
 have HCSZ:=zh hcsz
 have HI34:Hid ((Tryz.prog.info? 34).map (·.size)=some cs.size):=zh (by rw [hcsz];exact info34)
 obtain ⟨pa,pc,hpv⟩:=hp.shape
 subst hpv
 have HP:=zh hp
 have HL:=zh hl
 have HE:=zh he
 have K:=sized_any n
 by_cases hs:sizedP n=true
 ·have hs1:1≤n∧n≤281474976710656:=of_decide_eq_true hs
  rw [hs] at K
  have HK:=zh K
  by_cases hi:0≤i∧i<n
  ·obtain ⟨N,hN⟩:∃ N:Nat,n=N:=⟨n.toNat,by omega⟩
   obtain ⟨I,hI⟩:∃ I:Nat,i=I:=⟨i.toNat,by omega⟩
   subst hN hI
   have hIN:I<N:=by omega
   have hN48:N≤281474976710656:=by omega
   have hce:climbErr N I p=if p.length≠(wayRec N I).length then 90 else 0:=by
    unfold climbErr
    rw [if_neg (by rw [hs];simp;omega)]
    rfl
   have HCE:=zh hce
   have hii:(I:Int)<N:=by omega
   clear hcs hcsz hp hl he hs K hce hi
   go_enter Tryz.func98,Tryz.ntmps98
   go_upto_region 1 with fail
   generalize hZ:(#[_,_,_,_,_,_,_,_,_,_,_,_,_,_,_,_,_,_,_,_,_,_,_,_,_,_,_,_,_,_,_,_]:Array Value)=Z
   have hZs:Z.size=32:=by rw [←hZ];rfl
   obtain ⟨A,hA⟩:=zg (w.heap.size)
   have h1:((w.alloc (.cells cs 34)).alloc (.cells Z 34)).heap[w.heap.size]?=some (.cells cs 34 (0,0)):=(Below.heap_alloc _ _ _ (by simp)).trans (heap_alloc_new _ _)
   have h2:((w.alloc (.cells cs 34)).alloc (.cells Z 34)).heap[w.heap.size+1]?=some (.cells Z 34 (0,0)):=by
    rw [show w.heap.size+1=(w.alloc (.cells cs 34)).heap.size by simp];exact heap_alloc_new _ _
   have hm:Mv (fun _=>False) w ((w.alloc (.cells cs 34)).alloc (.cells Z 34)):=((Mv.refl _ _).alloc _).alloc _
   generalize hW1:(w.alloc (.cells cs 34)).alloc (.cells Z 34)=W1
   rw [hW1] at h1 h2 hm
   rw [←hA] at h1 h2 ⊢
   have H1:=zh h1
   have H2:=zh h2
   have HM:=zh hm
   have HA:=zh hA
   have HZS:=zh hZs
   clear hZ hZs hW1 h1 h2 hm hA
   go_wp2_with (first
    | (go_at_call 89;refine (HK.out _).mono ?_;rintro e w1 ⟨rfl,rfl⟩))
   refine (wayOf_any N I W1 hN48 hIN).mono ?_
   rintro e w2 ⟨wv,rfl,hown,hm2⟩
   obtain ⟨wa,wc,hwv⟩:=owns_shape hown
   subst hwv
   have HOWN2:=zh hown
   have HM2:Hid (Mv (fun _=>False) w w2):=zh (HM.out.trans hm2)
   have hr2:Hid (w2.heap[A+1]?=some (.cells Z 34 (0,0))):=zbl hm2 H2
   have ha2:Hid (w2.heap[A]?=some (.cells cs 34 (0,0))):=zbl hm2 H1
   obtain ⟨L,hL⟩:=zg ((wayRec N I).length)
   rw [←hL]
   have HLL:=zh hL
   obtain ⟨pl,hpl2⟩:=zg (p.length)
   rw [←hpl2] at hpl ⊢
   have HPLL:=zh hpl2
   have hL64:=wayRec_len N I hN48 hIN
   rw [←hL] at hL64
   clear hown hm2 hL hpl2
   by_cases hq:pl=L
   ·subst hq
    have HPL:Hid (p.length=(wayRec N I).length):=zh (by rw [←HPLL.out,HLL.out])
    go_wp2_with (first
     | (refine wpList_load_row rfl 34 _ rfl A rfl 34 cs (0,0) _ ha2.out Tryz.underlying34 rfl HI34.out ?_))
    have hcl:=climbed_any k (.slice pa p.length pc) (.slice wa (wayRec N I).length wc) p (wayRec N I) leaf _ w2 (HP.out.mv HM2.out (fun _ _ h=>h)) HOWN2.out HPL.out (by rw [←HLL.out];exact hL64) HL.out (HE.out.mv HM2.out (fun _ h=>h.elim))
    rw [←HPLL.out,←HLL.out,show hashV leaf=.agg cs by rw [HCS.out];rfl] at hcl
    refine hcl.mono ?_
    rintro e w4 ⟨nv,vs,rfl,hnown,hnodes,hm4⟩
    have HM4:Hid (Mv (fun _=>False) w w4):=zh (HM2.out.trans hm4)
    have hr4:Hid (w4.heap[A+1]?=some (.cells Z 34 (0,0))):=zbl hm4 hr2
    have hvl:vs.length=pl+1:=by have:=hnown.1;simpa using this
    obtain ⟨lv,hlv⟩:∃ lv,vs[pl]?=some lv:=⟨vs[pl]'(by omega),List.getElem?_eq_getElem _⟩
    have hnode:=hnodes pl lv hlv
    obtain ⟨gn,cn,hnv,hcell⟩:∃ gn cn,nv=.slice (some ⟨gn,0,none⟩) (pl+1) cn∧w4.cell? ⟨gn,pl,none⟩=some lv:=by
     rcases hnown.2 with ⟨_,h⟩|⟨g,c,cur,rfl,hb,hg,hc,hm,hcs,htk⟩
     ·cases h
     ·refine ⟨g,c,rfl,?_⟩
      rw [cell_of_row _ _ _ _ _ _ hg]
      rw [←htk,List.getElem?_take] at hlv
      split at hlv
      ·simpa using hlv
      ·cases hlv
    subst hnv
    obtain ⟨t,ht⟩:=zg (climbN k leaf (wayRec N I) p pl)
    rw [←ht] at hnode
    have HROOT:Hid (climbRoot k N I leaf p=t.sum):=zh (by unfold climbRoot;rw [ht,HLL.out];rfl)
    have hmg:=method_given
    have hmj:=method_joined
    clear hcl hnown hnodes hm4 hvl hlv ht
    cases t with
    | given hh =>
     obtain ⟨hhl,rfl⟩:=hnode
     have HHL:=zh hhl
     clear hhl
     go_wp2_with fail
     refine (givenSum_any hh w4 HHL.out).mono ?_
     rintro e w5 ⟨rfl,hm5⟩
     have HM5:Hid (Mv (fun _=>False) w w5):=zh (HM4.out.trans hm5)
     have hr5:Hid (w5.heap[A+1]?=some (.cells Z 34 (0,0))):=zbl hm5 hr4
     obtain ⟨rs,hrs⟩:=zg ((hh.map byteV).toArray)
     have hrsz:rs.size=32:=by rw [hrs];simp [HHL.out]
     rw [show hashV hh=.agg rs by rw [hrs];rfl]
     have HRS:=zh hrs
     have HRSZ:=zh hrsz
     have HONE:Hid (rs.all (·.oneCell')=true):=zh (by rw [hrs];exact hash_one hh)
     have HIR:Hid ((Tryz.prog.info? 34).map (·.size)=some rs.size):=zh (by rw [hrsz];exact info34)
     have HZC:Hid (Z.size=rs.size):=zh (by rw [HZS.out,hrsz])
     clear hm5 hrs hrsz
     go_wp2_with (first
      | (refine wpList_store_row rfl 34 _ _ rfl (A+1) rs rfl rfl 34 Z hr5.out HIR.out HZC.out HONE.out ?_))
     refine bodyPost_ret (results_ct (fn:=Tryz.f98) rfl _ _ (A+1) 34 rs (.int .i64 0) _ rfl rfl (setRow_heap _ _ _ _ _ _ hr5.out) Tryz.underlying34 rfl HIR.out) rfl ?_
     refine ⟨?_,HM5.out.setRow (.inr (by have:=HA.out;omega)) _⟩
     rw [climbAns_ok k N I leaf p (by rw [HCE.out,if_neg (by rw [HPL.out];simp)]),HROOT.out,HRS.out]
     rfl
    | joined t1 t2 hh =>
     obtain ⟨hhl,J,ul,ur,rfl,hj,_,_⟩:=hnode
     have HHL:=zh hhl
     have HJ:=zh hj
     clear hhl hj
     go_wp2_with fail
     refine (joinedSum_any hh J ul ur w4 HHL.out HJ.out).mono ?_
     rintro e w5 ⟨rfl,hm5⟩
     have HM5:Hid (Mv (fun _=>False) w w5):=zh (HM4.out.trans hm5)
     have hr5:Hid (w5.heap[A+1]?=some (.cells Z 34 (0,0))):=zbl hm5 hr4
     obtain ⟨rs,hrs⟩:=zg ((hh.map byteV).toArray)
     have hrsz:rs.size=32:=by rw [hrs];simp [HHL.out]
     rw [show hashV hh=.agg rs by rw [hrs];rfl]
     have HRS:=zh hrs
     have HRSZ:=zh hrsz
     have HONE:Hid (rs.all (·.oneCell')=true):=zh (by rw [hrs];exact hash_one hh)
     have HIR:Hid ((Tryz.prog.info? 34).map (·.size)=some rs.size):=zh (by rw [hrsz];exact info34)
     have HZC:Hid (Z.size=rs.size):=zh (by rw [HZS.out,hrsz])
     clear hm5 hrs hrsz
     go_wp2_with (first
      | (refine wpList_store_row rfl 34 _ _ rfl (A+1) rs rfl rfl 34 Z hr5.out HIR.out HZC.out HONE.out ?_))
     refine bodyPost_ret (results_ct (fn:=Tryz.f98) rfl _ _ (A+1) 34 rs (.int .i64 0) _ rfl rfl (setRow_heap _ _ _ _ _ _ hr5.out) Tryz.underlying34 rfl HIR.out) rfl ?_
     refine ⟨?_,HM5.out.setRow (.inr (by have:=HA.out;omega)) _⟩
     rw [climbAns_ok k N I leaf p (by rw [HCE.out,if_neg (by rw [HPL.out];simp)]),HROOT.out,HRS.out]
     rfl
   ·have hqi:((pl:Int) != L)=true:=by simp;omega
    have hce90:climbErr N I p=90:=by rw [HCE.out,if_pos (by rw [←HPLL.out,←HLL.out];exact hq)]
    have HCE90:=zh hce90
    clear hce90
    go_wp2_with (first
     | (refine wpList_store_row rfl 34 _ _ rfl (A+1) z32B rfl rfl 34 Z hr2.out info34z (HZS.out.trans rfl) z32_oneB ?_))
    refine bodyPost_ret (results_ct (fn:=Tryz.f98) rfl _ _ (A+1) 34 z32B (.int .i64 90) _ rfl rfl (setRow_heap _ _ _ _ _ _ hr2.out) Tryz.underlying34 rfl info34z) rfl ?_
    exact ⟨by rw [climbAns_bad k N I leaf p 90 HCE90.out (by decide)],HM2.out.setRow (.inr (by have:=HA.out;omega)) _⟩
  ·have hce:climbErr n i p=1:=by unfold climbErr;rw [if_pos (by omega)]
   rw [climbAns_bad k n i leaf p 1 hce (by decide)]
   by_cases hi0:i<0
   ·clear hcs hcsz hp hl he hs hce K hi
    go_enter Tryz.func98,Tryz.ntmps98
    go_upto_region 1 with fail
    generalize hZ:(#[_,_,_,_,_,_,_,_,_,_,_,_,_,_,_,_,_,_,_,_,_,_,_,_,_,_,_,_,_,_,_,_]:Array Value)=Z
    have hZs:Z.size=32:=by rw [←hZ];rfl
    obtain ⟨A,hA⟩:=zg (w.heap.size)
    have h1:((w.alloc (.cells cs 34)).alloc (.cells Z 34)).heap[w.heap.size]?=some (.cells cs 34 (0,0)):=(Below.heap_alloc _ _ _ (by simp)).trans (heap_alloc_new _ _)
    have h2:((w.alloc (.cells cs 34)).alloc (.cells Z 34)).heap[w.heap.size+1]?=some (.cells Z 34 (0,0)):=by
     rw [show w.heap.size+1=(w.alloc (.cells cs 34)).heap.size by simp];exact heap_alloc_new _ _
    have hm:Mv (fun _=>False) w ((w.alloc (.cells cs 34)).alloc (.cells Z 34)):=((Mv.refl _ _).alloc _).alloc _
    generalize hW1:(w.alloc (.cells cs 34)).alloc (.cells Z 34)=W1
    rw [hW1] at h1 h2 hm
    rw [←hA] at h1 h2 ⊢
    have H1:=zh h1
    have H2:=zh h2
    have HM:=zh hm
    have HA:=zh hA
    have HZS:=zh hZs
    clear hZ hZs hW1 h1 h2 hm hA
    go_wp2_with (first
     | (go_at_call 89;refine (HK.out _).mono ?_;rintro e w1 ⟨rfl,rfl⟩)
     | (refine wpList_store_row rfl 34 _ _ rfl (A+1) z32B rfl rfl 34 Z H2.out info34z (HZS.out.trans rfl) z32_oneB ?_))
    refine bodyPost_ret (results_ct (fn:=Tryz.f98) rfl _ _ (A+1) 34 z32B (.int .i64 1) _ rfl rfl (setRow_heap _ _ _ _ _ _ H2.out) Tryz.underlying34 rfl info34z) rfl ?_
    exact ⟨rfl,HM.out.setRow (.inr (by have:=HA.out;omega)) _⟩
   ·have hin:n≤i:=by omega
    clear hcs hcsz hp hl he hs hce K hi
    go_enter Tryz.func98,Tryz.ntmps98
    go_upto_region 1 with fail
    generalize hZ:(#[_,_,_,_,_,_,_,_,_,_,_,_,_,_,_,_,_,_,_,_,_,_,_,_,_,_,_,_,_,_,_,_]:Array Value)=Z
    have hZs:Z.size=32:=by rw [←hZ];rfl
    obtain ⟨A,hA⟩:=zg (w.heap.size)
    have h1:((w.alloc (.cells cs 34)).alloc (.cells Z 34)).heap[w.heap.size]?=some (.cells cs 34 (0,0)):=(Below.heap_alloc _ _ _ (by simp)).trans (heap_alloc_new _ _)
    have h2:((w.alloc (.cells cs 34)).alloc (.cells Z 34)).heap[w.heap.size+1]?=some (.cells Z 34 (0,0)):=by
     rw [show w.heap.size+1=(w.alloc (.cells cs 34)).heap.size by simp];exact heap_alloc_new _ _
    have hm:Mv (fun _=>False) w ((w.alloc (.cells cs 34)).alloc (.cells Z 34)):=((Mv.refl _ _).alloc _).alloc _
    generalize hW1:(w.alloc (.cells cs 34)).alloc (.cells Z 34)=W1
    rw [hW1] at h1 h2 hm
    rw [←hA] at h1 h2 ⊢
    have H1:=zh h1
    have H2:=zh h2
    have HM:=zh hm
    have HA:=zh hA
    have HZS:=zh hZs
    clear hZ hZs hW1 h1 h2 hm hA
    go_wp2_with (first
     | (go_at_call 89;refine (HK.out _).mono ?_;rintro e w1 ⟨rfl,rfl⟩)
     | (refine wpList_store_row rfl 34 _ _ rfl (A+1) z32B rfl rfl 34 Z H2.out info34z (HZS.out.trans rfl) z32_oneB ?_))
    refine bodyPost_ret (results_ct (fn:=Tryz.f98) rfl _ _ (A+1) 34 z32B (.int .i64 1) _ rfl rfl (setRow_heap _ _ _ _ _ _ H2.out) Tryz.underlying34 rfl info34z) rfl ?_
    exact ⟨rfl,HM.out.setRow (.inr (by have:=HA.out;omega)) _⟩
 ·have hs0:sizedP n=false:=by simpa using hs
  have hce:climbErr n i p=1:=by unfold climbErr;rw [if_pos (.inl hs)]
  rw [climbAns_bad k n i leaf p 1 hce (by decide)]
  rw [hs0] at K
  have HK:=zh K
  clear hcs hcsz hp hl he hs hs0 hce K
  go_enter Tryz.func98,Tryz.ntmps98
  go_upto_region 1 with fail
  generalize hZ:(#[_,_,_,_,_,_,_,_,_,_,_,_,_,_,_,_,_,_,_,_,_,_,_,_,_,_,_,_,_,_,_,_]:Array Value)=Z
  have hZs:Z.size=32:=by rw [←hZ];rfl
  obtain ⟨A,hA⟩:=zg (w.heap.size)
  have h1:((w.alloc (.cells cs 34)).alloc (.cells Z 34)).heap[w.heap.size]?=some (.cells cs 34 (0,0)):=(Below.heap_alloc _ _ _ (by simp)).trans (heap_alloc_new _ _)
  have h2:((w.alloc (.cells cs 34)).alloc (.cells Z 34)).heap[w.heap.size+1]?=some (.cells Z 34 (0,0)):=by
   rw [show w.heap.size+1=(w.alloc (.cells cs 34)).heap.size by simp];exact heap_alloc_new _ _
  have hm:Mv (fun _=>False) w ((w.alloc (.cells cs 34)).alloc (.cells Z 34)):=((Mv.refl _ _).alloc _).alloc _
  generalize hW1:(w.alloc (.cells cs 34)).alloc (.cells Z 34)=W1
  rw [hW1] at h1 h2 hm
  rw [←hA] at h1 h2 ⊢
  have H1:=zh h1
  have H2:=zh h2
  have HM:=zh hm
  have HA:=zh hA
  have HZS:=zh hZs
  clear hZ hZs hW1 h1 h2 hm hA
  go_wp2_with (first
   | (go_at_call 89;refine (HK.out _).mono ?_;rintro e w1 ⟨rfl,rfl⟩)
   | (refine wpList_store_row rfl 34 _ _ rfl (A+1) z32B rfl rfl 34 Z H2.out info34z (HZS.out.trans rfl) z32_oneB ?_))
  refine bodyPost_ret (results_ct (fn:=Tryz.f98) rfl _ _ (A+1) 34 z32B (.int .i64 1) _ rfl rfl (setRow_heap _ _ _ _ _ _ H2.out) Tryz.underlying34 rfl info34z) rfl ?_
  exact ⟨rfl,HM.out.setRow (.inr (by have:=HA.out;omega)) _⟩
end Go.Proofs.YtdfdikpklddnhaaGreatDoor
