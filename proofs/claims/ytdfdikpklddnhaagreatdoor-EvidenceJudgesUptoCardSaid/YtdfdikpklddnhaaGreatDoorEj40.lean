/- Of the proof of EvidenceJudges, second form: for values of bulk at most 1048576. (Ej40) -/
import Derived.Test.YtdfdikpklddnhaaGreatDoorEj01
import Derived.Test.YtdfdikpklddnhaaGreatDoorEj29
import Derived.Test.YtdfdikpklddnhaaGreatDoorEj15
namespace Go.Proofs.YtdfdikpklddnhaaGreatDoor
open Go.RowKit
set_option linter.unusedSimpArgs false
set_option maxRecDepth 100000 in
set_option maxHeartbeats 1600000 in
theorem revHash_any (g L cap:Nat) (F:Nat→List Value) (w:World) (hL:1≤L) (hL2:L≤1099511627776) (hcap:cap≤maxLen) (hF:∀ k,k<L→∀ v∈F k,v.oneCell'=true) (hrow:RowG w g 34 32 L cap F) :
  Calls Tryz.prog 299 #[.slice (some ⟨g,0,none⟩) L cap] w fun e w'=>e=.returned (.tuple #[])∧RowG w' g 34 32 L cap (fun k=>F (L - 1 - k))∧Mv (fun b=>b=g) w w':=by
 have HF:=zh hF
 have HROW:=zh hrow
 have HCAP:=zh hcap
 have hLcap:L≤cap:=by obtain ⟨_,_,_,h,_⟩:=hrow;exact h
 have hI:Hid ((Tryz.prog.info? 34).map (·.size)=some 32):=zh (by kernel_rfl)
 clear hF hrow hcap
 go_enter Tryz.func299,Tryz.ntmps299
 go_wp2_with fail
 go_loopg [2,3] L (fun m i j wr=>∃ p q:Nat,p+q+1=L∧p≤q+1∧q+1=m∧i=.int .i64 p∧j=.int .i64 q∧RowG wr g 34 32 L cap (fun k=>if k<p∨L - p≤k then F (L - 1 - k) else F k)∧Mv (fun b=>b=g) w wr)
 case atStart =>
  exact ⟨0,L - 1,by omega,by omega,by omega,rfl,by congr 1;omega,HROW.out.congr (fun k hk=>by rw [if_neg (by omega)]),Mv.refl _ _⟩
 case round =>
  obtain ⟨p,q,hpq,hle,hm,rfl,rfl,hr,hmv⟩:=hrel
  obtain ⟨G,hG⟩:∃ G:Nat→List Value,G=fun k=>if k<p∨L - p≤k then F (L - 1 - k) else F k:=⟨_,rfl⟩
  rw [←hG] at hr
  have HG:=zh hG
  have HR:=zh hr
  have HMV:=zh hmv
  have HPQ:=zh hpq
  have HM:=zh hm
  clear hr hmv hG hm
  by_cases hlt:p<q
  ·have hp:p<L:=by omega
   have hq:q<L:=by omega
   have hpi:(p:Int)<L:=by omega
   have hqi:(q:Int)<L:=by omega
   have hone:∀ k,k<L→(G k).toArray.all (·.oneCell')=true:=fun k hk=>by
    have:∀ v∈G k,v.oneCell'=true:=by
     rw [HG.out]
     simp only
     split
     ·exact HF.out _ (by omega)
     ·exact HF.out _ hk
    rw [Array.all_eq_true]
    intro i hi
    exact this _ (by simp)
   have HONE:=zh hone
   have hlen:∀ k,k<L→(G k).length=32:=fun k hk=>by
    obtain ⟨_,_,_,_,h⟩:=HR.out
    exact (h k hk).1
   have HLEN:=zh hlen
   clear hpq hone hlen
   go_wp2_with fail
   have HR1:Hid (RowG (wr.drew.setCells g (p * 32) (G q)) g 34 32 L cap (fun i=>if i=p then G q else G i)):=zh (RowG.store (RowG.drew HR.out) p hp (G q) (HLEN.out q hq))
   have HR2:Hid (RowG ((wr.drew.setCells g (p * 32) (G q)).setCells g (q * 32) (G p)) g 34 32 L cap (fun i=>if i=q then G p else if i=p then G q else G i)):=zh (RowG.store HR1.out q hq (G p) (HLEN.out p hp))
   have HMV2:Hid (Mv (fun b=>b=g) w ((wr.drew.setCells g (p * 32) (G q)).setCells g (q * 32) (G p))):=zh (Mv.setCells (Mv.setCells (Mv.drew HMV.out) (.inl rfl) _ _) (.inl rfl) _ _)
   have HSW:Hid (∀ k,k<L→(if k=q then G p else if k=p then G q else G k)=(if k<p+1∨L - (p+1)≤k then F (L - 1 - k) else F k)):=zh (by
    intro k hk
    have hpq:=HPQ.out
    rw [HG.out]
    simp only
    by_cases h1:k=q
    ·subst h1
     rw [if_pos rfl,if_neg (by omega),if_pos (by omega)]
     congr 1;omega
    ·rw [if_neg h1]
     by_cases h2:k=p
     ·subst h2
      rw [if_pos rfl,if_neg (by omega),if_pos (by omega)]
      congr 1;omega
     ·rw [if_neg h2]
      by_cases h3:k<p∨L - p≤k
      ·rw [if_pos h3,if_pos (by omega)]
      ·rw [if_neg h3,if_neg (by omega)])
   refine wp_region_noPanic ?_
   refine wp_region_held_drew (S:=fun _=>True) (by kernel_rfl) trivial (fun hHeld=>?_)
   refine zt 0 (.slice (some ⟨g,0,none⟩) L cap) rfl (fun _ hS=>by go_simp) hHeld ?_
   try walk_nrm
   refine zt 1 (.int .i64 p) rfl (fun _ hS=>by go_simp) hHeld ?_
   try walk_nrm
   refine zt 2 (.slice (some ⟨g,0,none⟩) L cap) rfl (fun _ hS=>by go_simp) hHeld ?_
   try walk_nrm
   refine zt 3 (.int .i64 q) rfl (fun _ hS=>by go_simp) hHeld ?_
   try walk_nrm
   refine zt 4 (.slice (some ⟨g,0,none⟩) L cap) rfl (fun _ hS=>by go_simp) hHeld ?_
   try walk_nrm
   refine zt 5 (.int .i64 q) rfl (fun _ hS=>by go_simp) hHeld ?_
   try walk_nrm
   refine zt 6 (.pointer (some ⟨g,q * 32,none⟩)) rfl (fun _ hS=>by go_simp) hHeld ?_
   try walk_nrm
   refine zt 8 (.slice (some ⟨g,0,none⟩) L cap) rfl (fun _ hS=>by go_simp) hHeld ?_
   try walk_nrm
   refine zt 9 (.int .i64 p) rfl (fun _ hS=>by go_simp) hHeld ?_
   try walk_nrm
   refine zt 10 (.pointer (some ⟨g,p * 32,none⟩)) rfl (fun _ hS=>by go_simp) hHeld ?_
   try walk_nrm
   refine wpAnyH_ready (rs:=[7,11]) (by kernel_rfl) (by simp) (AllReadyH.cons rfl (fun K' hK=>?_) (AllReadyH.cons rfl (fun K' hK=>?_) AllReadyH.nil))
   ·rw [if_pos (by rfl)]
    refine wp_load_mid 34 _ rfl g (q * 32) rfl (G q) _ (HR.out.range q hq) Tryz.underlying34 rfl (by rw [HLEN.out q hq];exact hI.out) ?_
    refine hK.out _ _ trivial (fun hHeld=>?_)
    clear hK K'
    try walk_nrm
    refine zo 11 rfl fun K' hK=>?_
    refine wp_load_mid 34 _ rfl g (p * 32) rfl (G p) _ (HR.out.range p hp) Tryz.underlying34 rfl (by rw [HLEN.out p hp];exact hI.out) ?_
    refine hK.out _ _ trivial (fun hHeld=>?_)
    clear hK K'
    try walk_nrm
    refine zt 12 (.pointer (some ⟨g,p * 32,none⟩)) rfl (fun _ hS=>by go_simp) hHeld ?_
    try walk_nrm
    refine zo 13 rfl fun K' hK=>?_
    refine wp_store_mid 34 _ _ rfl g (p * 32) (G q).toArray rfl rfl (by rw [List.size_toArray,HLEN.out q hq];exact HR.out.there p hp) (by rw [List.size_toArray,HLEN.out q hq];exact hI.out) (HONE.out q hq) ?_
    refine hK.out _ _ trivial (fun hHeld=>?_)
    clear hK K'
    try walk_nrm
    refine zt 14 (.pointer (some ⟨g,q * 32,none⟩)) rfl (fun _ hS=>by go_simp) hHeld ?_
    try walk_nrm
    refine zo 15 rfl fun K' hK=>?_
    refine wp_store_mid 34 _ _ rfl g (q * 32) (G p).toArray rfl rfl (by rw [List.size_toArray,HLEN.out p hp];exact HR1.out.there q hq) (by rw [List.size_toArray,HLEN.out p hp];exact hI.out) (HONE.out p hp) ?_
    refine hK.out _ _ trivial (fun hHeld=>?_)
    clear hK K'
    try walk_nrm
    refine zd ?_
    go_wp2_with fail
    go_roundg q
    case measure=>have:=HM.out;omega
    case rel =>
     have hpq:=HPQ.out
     refine ⟨p+1,q - 1,by omega,by omega,by omega,by go_num,by congr 1;omega,?_,HMV2.out⟩
     exact HR2.out.congr (fun k hk=>HSW.out k hk)
   ·rw [if_pos (by rfl)]
    refine wp_load_mid 34 _ rfl g (p * 32) rfl (G p) _ (HR.out.range p hp) Tryz.underlying34 rfl (by rw [HLEN.out p hp];exact hI.out) ?_
    refine hK.out _ _ trivial (fun hHeld=>?_)
    clear hK K'
    try walk_nrm
    refine zo 7 rfl fun K' hK=>?_
    refine wp_load_mid 34 _ rfl g (q * 32) rfl (G q) _ (HR.out.range q hq) Tryz.underlying34 rfl (by rw [HLEN.out q hq];exact hI.out) ?_
    refine hK.out _ _ trivial (fun hHeld=>?_)
    clear hK K'
    try walk_nrm
    refine zt 12 (.pointer (some ⟨g,p * 32,none⟩)) rfl (fun _ hS=>by go_simp) hHeld ?_
    try walk_nrm
    refine zo 13 rfl fun K' hK=>?_
    refine wp_store_mid 34 _ _ rfl g (p * 32) (G q).toArray rfl rfl (by rw [List.size_toArray,HLEN.out q hq];exact HR.out.there p hp) (by rw [List.size_toArray,HLEN.out q hq];exact hI.out) (HONE.out q hq) ?_
    refine hK.out _ _ trivial (fun hHeld=>?_)
    clear hK K'
    try walk_nrm
    refine zt 14 (.pointer (some ⟨g,q * 32,none⟩)) rfl (fun _ hS=>by go_simp) hHeld ?_
    try walk_nrm
    refine zo 15 rfl fun K' hK=>?_
    refine wp_store_mid 34 _ _ rfl g (q * 32) (G p).toArray rfl rfl (by rw [List.size_toArray,HLEN.out p hp];exact HR1.out.there q hq) (by rw [List.size_toArray,HLEN.out p hp];exact hI.out) (HONE.out p hp) ?_
    refine hK.out _ _ trivial (fun hHeld=>?_)
    clear hK K'
    try walk_nrm
    refine zd ?_
    go_wp2_with fail
    go_roundg q
    case measure=>have:=HM.out;omega
    case rel =>
     have hpq:=HPQ.out
     refine ⟨p+1,q - 1,by omega,by omega,by omega,by go_num,by congr 1;omega,?_,HMV2.out⟩
     exact HR2.out.congr (fun k hk=>HSW.out k hk)
  ·clear HPQ
   go_wp2_with fail
   go_end0
   refine ⟨rfl,HR.out.congr (fun k hk=>?_),HMV.out⟩
   rw [HG.out]
   simp only
   by_cases h1:k<p∨L - p≤k
   ·rw [if_pos h1]
   ·rw [if_neg h1]
    congr 1;omega
set_option maxRecDepth 100000 in
theorem revHash_zero (a:Option Addr) (c:Nat) (w:World):Calls Tryz.prog 299 #[.slice a 0 c] w fun e w'=>e=.returned (.tuple #[])∧w=w':=by
 go_enter Tryz.func299,Tryz.ntmps299
 go_wp2_with fail
 refine wp_loop_rounds 1 ?_
 rw [rounds_succ]
 go_wp2_with fail
 go_end0
 exact ⟨rfl,rfl⟩
theorem revh_owned (B:Nat) (v:Value) (l:List Bs) (n:Nat) (hn:l.length=n) (h32:∀ x∈l,x.length=32) (w:World) (hl:n≤1099511627776) (h:w.ownsRow B 34 32 v n (hsV l)) :
  Calls Tryz.prog 299 #[v] w fun e w'=>e=.returned (.tuple #[])∧w'.ownsRow B 34 32 v n (hsV l.reverse)∧Mv (fun b=>B≤b) w w':=by
 subst hn
 by_cases h0:l=[]
 ·subst h0
  obtain ⟨a,c,rfl⟩:=owns_shape h
  refine (revHash_zero a c w).mono ?_
  rintro e w' ⟨rfl,rfl⟩
  exact ⟨rfl,h,Mv.refl _ _⟩
 ·have hls:=hs_lens h32
  obtain ⟨g,cap,hv,hBg,hcm,hrow⟩:=owns_rowG (l.map fun h=>h.map byteV) hls (by rw [List.length_map];exact h) (by simpa using h0)
  rw [List.length_map] at hv hrow
  subst hv
  refine (revHash_any g l.length cap _ w (List.length_pos_iff.2 h0) hl hcm (fun k hk u hu=>?_) hrow).mono ?_
  ·have:(l.map fun h=>h.map byteV).getD k []=(l[k]).map byteV:=by simp [hk]
   rw [this] at hu
   exact byteV_one _ u hu
  ·rintro e w' ⟨rfl,hr,hm⟩
   refine ⟨rfl,?_,hm.mono (fun i _ hi=>by omega)⟩
   have hlen:(l.reverse.map fun h=>h.map byteV).length=l.length:=by simp
   have h2:=rowG_owns (w:=w') (base:=B) (e:=34) (sz:=32) (g:=g) (cap:=cap) (l.reverse.map fun h=>h.map byteV) (hs_lens fun x hx=>h32 x (List.mem_reverse.1 hx)) hBg hcm (by decide) (by
    rw [hlen]
    refine hr.congr (fun k hk=>?_)
    have e1:l.length - 1 - k<l.length:=by omega
    simp [hk,e1])
   rw [hlen] at h2
   exact h2
theorem MapIs.lookup {w:World} {b n:Nat} {f:Nat→Nat→Bs} (h:MapIs w b n f) (p q:Nat) (hp:p≤281474976710656) (hq:q≤281474976710656) :
  (Instr.lookup 178 (.map (some b)) (spanV p q) false).run Tryz.prog w=.ok (hashV (f p q)) w∧(f p q).length=32:=by
 obtain ⟨D,_,ho,hf⟩:=h
 have hz:(zeroValue 34).run Tryz.prog w=.ok (hashV zero32) w:=by rw [zero32_W];kernel_rfl
 obtain ⟨v,ps,hrun,hR⟩:=ho.lookup spanLaw Tryz.underlying178 hz (RH_hash zero32 rfl) (keyOf_span p q hp hq)
 rw [hf p q hp hq] at hR
 obtain ⟨l,hl,rfl,hd⟩:=RH_inv hR
 simp only [DataW.lit.injEq,Lit.string.injEq] at hd
 rw [hd]
 exact ⟨hrun,hl⟩
set_option maxRecDepth 100000 in
theorem recStopH_any (a b:Nat) (h:a<b) (hb:b≤281474976710656) (w:World) :
  Calls Tryz.prog 264 #[.agg #[.int .i64 a,.int .i64 b]] w fun e w'=>e=.returned (.bool (recStop a b))∧Mv (fun _=>False) w w':=by
 go_enter Tryz.func264,Tryz.ntmps264
 go_wp2
 go_ret
 refine ⟨?_,(Mv.refl _ _).alloc _⟩
 have e:recStop a b=decide ((b:Int) - a=1):=by
  unfold recStop
  apply decide_eq_decide.2
  omega
 rw [e]
 congr 2
theorem recLeftH_any (i c I:Nat) (w:World) (hI:w.cell? ⟨I,0,none⟩=some (.int .i64 i)) :
  Calls Tryz.prog 265 #[.int .i64 c,.pointer (some ⟨I,0,none⟩)] w fun e w'=>e=.returned (.bool (recLeft i c))∧w=w':=by
 go_enter Tryz.func265,Tryz.ntmps265
 go_wp2
 go_ret
 exact ⟨rfl,rfl⟩
set_option maxRecDepth 100000 in
theorem known_any (a b:Nat) (r:Bool) (KB M c:Nat) (f:Nat→Nat→Bs) (w:World) (ha:a≤281474976710656) (hb:b≤281474976710656) (hK:w.heap[KB]?=some (.cells #[.map (some M)] 178 (0,0))) (hM:MapIs w M c f) :
  Calls Tryz.prog 206 #[.agg #[.int .i64 a,.int .i64 b,.bool r],.pointer (some ⟨KB,0,none⟩)] w fun e w'=>e=.returned (hashV (f a b))∧Mv (fun _=>False) w w':=by
 have hlen:=(hM.lookup a b ha hb).2
 obtain ⟨hc,hhc⟩:=zg (((f a b).map byteV).toArray)
 have hcsz:hc.size=32:=by rw [hhc];simp [hlen]
 have hv:hashV (f a b)=.agg hc:=by rw [hhc];rfl
 rw [hv]
 have HCSZ:=zh hcsz
 have HONE:Hid (hc.all (·.oneCell')=true):=zh (by rw [hhc];exact hash_one _)
 have HI34:Hid ((Tryz.prog.info? 34).map (·.size)=some hc.size):=zh (by rw [hcsz];exact info34)
 have HLK:Hid (∀ W,Mv (fun _=>False) w W→(Instr.lookup 178 (.map (some M)) (.agg #[.int .i64 a,.int .i64 b]) false).run Tryz.prog W=.ok (.agg hc) W):=zh fun W hm=>by
  have:=((hM.mv hm id).lookup a b ha hb).1
  rw [hv] at this
  exact this
 have HKB:Hid (∀ W,Mv (fun _=>False) w W→W.cell? ⟨KB,0,none⟩=some (.map (some M))):=zh fun W hm=>cell_of_heap ((hm.block KB (lt_of_heap hK) id).trans hK) 0 rfl
 clear hlen hhc hcsz hv hM hK
 go_enter Tryz.func206,Tryz.ntmps206
 go_upto_region 1 with fail
 generalize hZ:(#[_,_,_,_,_,_,_,_,_,_,_,_,_,_,_,_,_,_,_,_,_,_,_,_,_,_,_,_,_,_,_,_]:Array Value)=Z
 have hZs:Z.size=32:=by rw [←hZ];rfl
 have h1:((w.alloc (.cells #[.int .i64 a,.int .i64 b,.bool r] 174)).alloc (.cells Z 34)).heap[w.heap.size]?=some (.cells #[.int .i64 a,.int .i64 b,.bool r] 174 (0,0)):=(Below.heap_alloc _ _ _ (by simp)).trans (heap_alloc_new _ _)
 have h2:((w.alloc (.cells #[.int .i64 a,.int .i64 b,.bool r] 174)).alloc (.cells Z 34)).heap[w.heap.size+1]?=some (.cells Z 34 (0,0)):=by
  rw [show w.heap.size+1=(w.alloc (.cells #[.int .i64 a,.int .i64 b,.bool r] 174)).heap.size by simp];exact heap_alloc_new _ _
 have hm:Mv (fun _=>False) w ((w.alloc (.cells #[.int .i64 a,.int .i64 b,.bool r] 174)).alloc (.cells Z 34)):=((Mv.refl _ _).alloc _).alloc _
 generalize hW1:(w.alloc (.cells #[.int .i64 a,.int .i64 b,.bool r] 174)).alloc (.cells Z 34)=W1
 rw [hW1] at h1 h2 hm
 obtain ⟨A,hA⟩:=zg (w.heap.size)
 rw [←hA] at h1 h2 ⊢
 have H1:=zh h1
 have H2:=zh h2
 have HM:=zh hm
 have HA:=zh hA
 have c0:W1.cell? ⟨A,0,none⟩=some (.int .i64 a):=cell_of_heap h1 0 rfl
 have c1:W1.cell? ⟨A,1,none⟩=some (.int .i64 b):=cell_of_heap h1 1 rfl
 have ck:=HKB.out _ hm
 have hlk:=HLK.out _ hm
 have HZC:Hid (Z.size=hc.size):=zh (by rw [hZs,HCSZ.out])
 clear hZ hZs hW1 h1 h2 hm hA
 go_wp2_with (refine wpList_store_row rfl 34 _ _ rfl (A+1) hc rfl rfl 34 Z H2.out HI34.out HZC.out HONE.out ?_)
 refine bodyPost_ret (results_hash3 Tryz.f206 rfl _ _ (A+1) hc rfl (setRow_heap _ _ _ _ _ _ H2.out) HCSZ.out) rfl ?_
 exact ⟨rfl,HM.out.setRow (.inr (by have:=HA.out;omega)) _⟩
def kn (f:Nat→Nat→Bs) (l:List Step):List Bs:=l.map fun s=>f s.a s.b
theorem kn_snoc (f:Nat→Nat→Bs) (l:List Step) (s:Step):hsV (kn f (l++[s]))=hsV (kn f l)++(f s.a s.b).map byteV:=by simp [kn,hsV]
structure HSt (f:Nat→Nat→Bs) (w wr:World) (SB R B a b:Nat) (l:Value) (down:List Step):Prop where
 sb:wr.heap[SB]?=some (.cells #[.int .i64 a,.int .i64 b] 170 (0,0))
 r:wr.heap[R]?=some (.cells #[.int .i64 0,.int .i64 0] 170 (0,0))
 own:wr.ownsRow B 34 32 l down.length (hsV (kn f down))
 mv:Mv (fun _=>False) w wr
 big:B≤wr.heap.size
theorem HSt.still {f:Nat→Nat→Bs} {w wr w2:World} {SB R B a b:Nat} {l:Value} {down:List Step} (h:HSt f w wr SB R B a b l down) (hm:Mv (fun _=>False) wr w2):HSt f w w2 SB R B a b l down :=
 ⟨(hm.block SB (lt_of_heap h.sb) id).trans h.sb,(hm.block R (lt_of_heap h.r) id).trans h.r,owns_mv h.own hm (fun _ _ _ h=>h),h.mv.trans hm,Nat.le_trans h.big hm.size⟩
theorem HSt.push {f:Nat→Nat→Bs} {w wr w2:World} {SB R B a b:Nat} {l l2:Value} {down:List Step} {s:Step} (h:HSt f w wr SB R B a b l down) (hB:w.heap.size≤SB∧w.heap.size≤R∧SB<B∧R<B∧SB≠R)
  (hm:Mv (fun g=>B≤g) wr w2) (hown:w2.ownsRow B 34 32 l2 (down.length+1) (hsV (kn f down)++(f s.a s.b).map byteV)):HSt f w w2 SB R B a b l2 (down++[s]) :=
 ⟨(hm.block SB (lt_of_heap h.sb) (by omega)).trans h.sb,(hm.block R (lt_of_heap h.r) (by omega)).trans h.r,by rw [kn_snoc,List.length_append];exact hown,
  h.mv.trans' hm (fun i hi hg=>by omega),Nat.le_trans h.big hm.size⟩
theorem HSt.set {f:Nat→Nat→Bs} {w wr:World} {SB R B a b:Nat} {l:Value} {down:List Step} (h:HSt f w wr SB R B a b l down) (hB:w.heap.size≤SB∧w.heap.size≤R∧SB<B∧R<B∧SB≠R) (t:Nat) (u:Value) (a' b':Nat)
  (ht:(#[Value.int .i64 a,.int .i64 b]:Array Value).setIfInBounds t u=#[.int .i64 a',.int .i64 b']):HSt f w (wr.setCell ⟨SB,t,none⟩ u) SB R B a' b' l down :=
 ⟨(heap_setCell_same h.sb u).trans (by rw [ht]),(heap_setCell_other (fun e=>hB.2.2.2.2 e.symm) u).trans h.r,owns_setCell h.own SB t u hB.2.2.1,h.mv.setCell (.inr hB.1) u,by simpa [World.setCell] using h.big⟩
set_option maxRecDepth 100000 in
set_option maxHeartbeats 3200000 in
theorem walkHash_any (n i I KB M cn:Nat) (f:Nat→Nat→Bs) (w:World) (hn:n≤281474976710656) (hi:i<n) (hI:w.cell? ⟨I,0,none⟩=some (.int .i64 i)) (hKB:w.heap[KB]?=some (.cells #[.map (some M)] 178 (0,0))) (hM:MapIs w M cn f) :
  Calls Tryz.prog 263 #[.agg #[.int .i64 0,.int .i64 n],.func (.func 264) #[] #[],.func (.func 265) #[] #[.pointer (some ⟨I,0,none⟩)],.func (.func 206) #[] #[.pointer (some ⟨KB,0,none⟩)]] w fun e w' =>
   ∃ v,e=.returned (.tuple #[v,.agg #[.int .i64 (wayDown recStop (recLeft i) 0 n).2.1,.int .i64 (wayDown recStop (recLeft i) 0 n).2.2]]) ∧
    w'.ownsRow w.heap.size 34 32 v (wayDown recStop (recLeft i) 0 n).1.length (hsV (kn f (wayDown recStop (recLeft i) 0 n).1.reverse))∧Mv (fun _=>False) w w':=by
 obtain ⟨i0,hi0,hz0,hz1,hz2⟩:=info_parts Tryz.info34f
 have HI:=zh hI
 have HKB:=zh hKB
 have HMAP:=zh hM
 have HLEN:Hid (∀ a b,a≤281474976710656→b≤281474976710656→(f a b).length=32):=zh fun a b ha hb=>(hM.lookup a b ha hb).2
 clear hI hKB hM
 have hIw:I<w.heap.size:=World.block_lt_of_cell? _ _ HI.out
 go_enter Tryz.func263,Tryz.ntmps263
 go_wp2_with fail
 obtain ⟨SB,hSB⟩:=zg (w.heap.size)
 rw [←hSB]
 obtain ⟨R,hR⟩:=zg (SB+1)
 rw [←hR]
 obtain ⟨B,hB⟩:=zg (SB+2)
 have hst:HSt f w ((w.alloc (.cells #[.int .i64 0,.int .i64 n] 170)).alloc (.cells #[.int .i64 0,.int .i64 0] 170)) SB R B 0 n (.slice none 0 0) []:=by
  have s1:(w.alloc (.cells #[.int .i64 0,.int .i64 n] 170)).heap.size=SB+1:=by rw [hSB];simp
  refine ⟨?_,?_,World.ownsRow_nil _ _ _ _,((Mv.refl _ _).alloc _).alloc _,by rw [hB];simp;omega⟩
  ·rw [Below.heap_alloc _ _ _ (by omega),hSB];exact heap_alloc_new _ _
  ·rw [hR,←s1];exact heap_alloc_new _ _
 generalize hW1:(w.alloc _).alloc _=W1
 rw [hW1] at hst
 have HST:=zh hst
 have HBB:Hid (w.heap.size≤SB∧w.heap.size≤R∧SB<B∧R<B∧SB≠R):=zh (by omega)
 have HSBW:Hid (SB=w.heap.size∧R=SB+1):=zh ⟨hSB,hR⟩
 clear hW1 hst hSB hR hB
 go_loopg [10] n (fun m l wr=>∃ (a b k:Nat) (down:List Step),a≤i∧i<b∧b≤n∧b - a≤m∧b - a≤2 ^ k∧down.length+k≤48∧(wayDown recStop (recLeft i) 0 n=(down++(wayDown recStop (recLeft i) a b).1,(wayDown recStop (recLeft i) a b).2))∧HSt f w wr SB R B a b l down)
 case atStart=>exact ⟨0,n,48,[],by omega,by omega,Nat.le_refl _,by omega,by omega,by decide,by simp,HST.out⟩
 case round =>
  obtain ⟨a,b,k,down,ha,hb,hbn,hm,hk,hdk,hway,hs⟩:=hrel
  obtain ⟨sa,sc,hshape⟩:=owns_shape hs.own
  subst hshape
  have HS:=zh hs
  have HWAY:=zh hway
  have c0:wr.cell? ⟨SB,0,none⟩=some (.int .i64 a):=cell_of_heap hs.sb 0 rfl
  have c1:wr.cell? ⟨SB,1,none⟩=some (.int .i64 b):=cell_of_heap hs.sb 1 rfl
  have HIW:Hid (wr.cell? ⟨I,0,none⟩=some (.int .i64 i)):=zh ((hs.mv.cell (p:=⟨I,0,none⟩) hIw id).trans HI.out)
  have HK:=zh hk
  clear hs hway hk
  go_wp2_with fail
  refine (recStopH_any a b (by omega) (by omega) _).mono ?_
  rintro e w2 ⟨rfl,hm2⟩
  have HS2:=zh (HS.out.still hm2)
  have HI2:Hid (w2.cell? ⟨I,0,none⟩=some (.int .i64 i)):=zh ((hm2.cell (p:=⟨I,0,none⟩) (Nat.lt_of_lt_of_le hIw HS.out.mv.size) id).trans HIW.out)
  have d0:w2.cell? ⟨SB,0,none⟩=some (.int .i64 a):=cell_of_heap HS2.out.sb 0 rfl
  have d1:w2.cell? ⟨SB,1,none⟩=some (.int .i64 b):=cell_of_heap HS2.out.sb 1 rfl
  clear hm2 c0 c1
  cases hstop:recStop a b with
  | true =>
   have HSTOP:=zh hstop
   clear hstop
   go_wp2_with fail
   have HD:=zh hdk
   have hfin:wayDown recStop (recLeft i) 0 n=(down,a,b):=by rw [HWAY.out,wayDown_stop _ _ _ _ HSTOP.out];simp
   have HFIN:=zh hfin
   clear hfin
   refine (revh_owned B _ (kn f down) down.length (by simp [kn]) (fun x hx=>by obtain ⟨s,hs,rfl⟩:=List.mem_map.1 hx;exact HLEN.out _ _ (by have:=(wayDown_bound recStop (recLeft i) 0 n n (Nat.zero_le _) (Nat.le_refl _)).1 s (by rw [HFIN.out];exact hs);omega) (by have:=(wayDown_bound recStop (recLeft i) 0 n n (Nat.zero_le _) (Nat.le_refl _)).1 s (by rw [HFIN.out];exact hs);omega)) w2 (by omega) HS2.out.own).mono ?_
   rintro e w3 ⟨rfl,hown3,hm3⟩
   have hb3:w3.heap[SB]?=some (.cells #[.int .i64 a,.int .i64 b] 170 (0,0)):=(hm3.block SB (lt_of_heap HS2.out.sb) (by have:=HBB.out;omega)).trans HS2.out.sb
   have hr3:w3.heap[R]?=some (.cells #[.int .i64 0,.int .i64 0] 170 (0,0)):=(hm3.block R (lt_of_heap HS2.out.r) (by have:=HBB.out;omega)).trans HS2.out.r
   have HB3:=zh hb3
   have HR3:=zh hr3
   have HOWN3:=zh hown3
   have HMW:Hid (Mv (fun _=>False) w w3):=zh (HS2.out.mv.trans' hm3 (fun i hi h=>by have:=HBB.out;omega))
   have q0:w3.cell? ⟨SB,0,none⟩=some (.int .i64 a):=cell_of_heap hb3 0 rfl
   have q1:w3.cell? ⟨SB,1,none⟩=some (.int .i64 b):=cell_of_heap hb3 1 rfl
   have r0:w3.cell? ⟨R,0,none⟩=some (.int .i64 0):=cell_of_heap hr3 0 rfl
   have r1:w3.cell? ⟨R,1,none⟩=some (.int .i64 0):=cell_of_heap hr3 1 rfl
   have z0:=free_of_heap hr3 0
   have z1:=free_of_heap hr3 1
   have HRB:Hid (R<B):=zh (by have:=HBB.out;omega)
   clear hb3 hr3 hown3 hm3 d0 d1
   go_wp2_with fail
   go_region
   all_goals go_wp2_with fail
   all_goals
    refine bodyPost_ret (results_tc (fn:=Tryz.f263) rfl _ _ R 170 #[.int .i64 a,.int .i64 b] (.slice sa down.length sc) _ rfl rfl ?hg Tryz.underlying170 rfl (by kernel_rfl)) rfl ?hp
    case hg=>exact (heap_setCell_same (heap_setCell_same HR3.out _) _).trans rfl
    case hp =>
     refine ⟨_,by rw [HFIN.out],?_,?_⟩
     ·rw [HFIN.out]
      have ho:=owns_setCell (owns_setCell HOWN3.out R 0 (.int .i64 a) HRB.out) R 1 (.int .i64 b) HRB.out
      have e:(kn f down).reverse=kn f down.reverse:=by simp [kn]
      rw [e] at ho
      exact owns_mono ho (by have:=HBB.out;omega)
     ·exact ((HMW.out.setCell (.inr (by have:=HBB.out;exact this.2.1)) _).setCell (.inr (by have:=HBB.out;exact this.2.1)) _).drew
  | false =>
   have hab:a+2≤b:=by
    unfold recStop at hstop
    have:=of_decide_eq_false hstop
    omega
   have HSTOP:=zh hstop
   have hcin:=cutN_in a b hab
   clear hstop
   go_wp2_with (first|(go_at_call 194;refine (cut_any a b hab (by omega) _).mono ?_;rintro e w3 ⟨rfl,hm3⟩;have HS3:=zh (HS2.out.still hm3);have HI3:Hid (w3.cell? ⟨I,0,none⟩=some (.int .i64 i)):=zh ((hm3.cell (p:=⟨I,0,none⟩) (Nat.lt_of_lt_of_le hIw HS2.out.mv.size) id).trans HI2.out);have e1:=cell_of_heap HS3.out.sb 1 rfl;have e0:=cell_of_heap HS3.out.sb 0 rfl;clear hm3 d0 d1))
   refine (recLeftH_any i (cutN a b) I _ HI3.out).mono ?_
   rintro e w' ⟨rfl,rfl⟩
   cases hleft:(recLeft i) (cutN a b) with
   | true =>
    have HLEFT:=zh hleft
    clear hleft
    go_wp2_with fail
    refine (known_any (cutN a b) b true KB M cn f _ (by omega) (by omega) ((HS3.out.mv.block KB (lt_of_heap HKB.out) id).trans HKB.out) (HMAP.out.mv HS3.out.mv id)).mono ?_
    rintro e w4 ⟨rfl,hm4⟩
    have HS4:=zh (HS3.out.still hm4)
    obtain ⟨hc,hhc⟩:=zg ((f (cutN a b) b).map byteV)
    have hhl:hc.length=32:=by rw [hhc,List.length_map];exact HLEN.out (cutN a b) b (by omega) (by omega)
    have hvv:hashV (f (cutN a b) b)=.agg hc.toArray:=by rw [hhc];rfl
    rw [hvv]
    have HHL:=zh hhl
    have HHC:=zh hhc
    have HONE:Hid (∀ u∈hc,u.oneCell'=true):=zh (by rw [hhc];exact byteV_one _)
    have HBS:Hid (hc.toArray.size=32):=zh (by rw [List.size_toArray,hhl])
    have hbg:=build_givenL hc hhl
    have HNW:Hid (∀ (E:TypeId) (t:Nat) u,hc[t]?=some u→(w4.alloc (.cells hc.toArray E)).cell? ((⟨w4.heap.size,0,none⟩:Addr).add t)=some u):=zh fun E t u hu=>by
     rw [addr_add,Nat.zero_add,cell_of_row _ _ _ _ _ _ (heap_alloc_new w4 (.cells hc.toArray E))];simpa using hu
    clear hm4 e0 e1 hhc hvv
    go_wp2_with (first
     | (at_builtin;go_loud (refine wpList_append_own _ rfl _ _ 37 rfl B 34 i0 (.agg z32B) 32 32 Tryz.underlying37 hi0 hz0 hz1 hz2 rfl (by decide) _ _ _ rfl (HS4.out.own.alloc _) ⟨w4.heap.size,0,none⟩ 1 1 hc rfl HHL.out (HNW.out _) HONE.out (by unfold maxLen;omega) (by omega) (by have:=HS4.out.big;simp;omega) ?_;intro v5 w5 hown5 hgrow5 hnil5;have hm5:Mv (fun g=>B≤g) w4 w5:=((Mv.refl _ _).alloc _).grown hgrow5 (fun k hk=>.inl (HS4.out.own.lt k hk).1);have HS5:=zh (HS4.out.push (s:=⟨cutN a b,b,true⟩) HBB.out hm5 (by rw [HHC.out] at hown5;exact hown5));have f1:=cell_of_heap HS5.out.sb 1 rfl;have ff:=free_of_heap HS5.out.sb 1;clear hown5 hgrow5 hnil5 hm5)))
    go_roundg (cutN a b - a)
    case measure=>omega
    case rel =>
     obtain ⟨j,hj1,hj2,hj3⟩:=half_left a b k hab (by omega) HK.out
     refine ⟨a,cutN a b,j,down++[⟨cutN a b,b,true⟩],by omega,by have hl:=of_decide_eq_true HLEFT.out;omega,by omega,Nat.le_refl _,hj2,by rw [List.length_append];simp;omega,?_,HS5.out.set HBB.out 1 _ a (cutN a b) rfl⟩
     rw [HWAY.out,wayDown_left _ _ a b HSTOP.out hab HLEFT.out]
     simp
   | false =>
    have HLEFT:=zh hleft
    clear hleft
    go_wp2_with fail
    refine (known_any a (cutN a b) false KB M cn f _ (by omega) (by omega) ((HS3.out.mv.block KB (lt_of_heap HKB.out) id).trans HKB.out) (HMAP.out.mv HS3.out.mv id)).mono ?_
    rintro e w4 ⟨rfl,hm4⟩
    have HS4:=zh (HS3.out.still hm4)
    obtain ⟨hc,hhc⟩:=zg ((f a (cutN a b)).map byteV)
    have hhl:hc.length=32:=by rw [hhc,List.length_map];exact HLEN.out a (cutN a b) (by omega) (by omega)
    have hvv:hashV (f a (cutN a b))=.agg hc.toArray:=by rw [hhc];rfl
    rw [hvv]
    have HHL:=zh hhl
    have HHC:=zh hhc
    have HONE:Hid (∀ u∈hc,u.oneCell'=true):=zh (by rw [hhc];exact byteV_one _)
    have HBS:Hid (hc.toArray.size=32):=zh (by rw [List.size_toArray,hhl])
    have hbg:=build_givenL hc hhl
    have HNW:Hid (∀ (E:TypeId) (t:Nat) u,hc[t]?=some u→(w4.alloc (.cells hc.toArray E)).cell? ((⟨w4.heap.size,0,none⟩:Addr).add t)=some u):=zh fun E t u hu=>by
     rw [addr_add,Nat.zero_add,cell_of_row _ _ _ _ _ _ (heap_alloc_new w4 (.cells hc.toArray E))];simpa using hu
    clear hm4 e0 e1 hhc hvv
    go_wp2_with (first
     | (at_builtin;go_loud (refine wpList_append_own _ rfl _ _ 37 rfl B 34 i0 (.agg z32B) 32 32 Tryz.underlying37 hi0 hz0 hz1 hz2 rfl (by decide) _ _ _ rfl (HS4.out.own.alloc _) ⟨w4.heap.size,0,none⟩ 1 1 hc rfl HHL.out (HNW.out _) HONE.out (by unfold maxLen;omega) (by omega) (by have:=HS4.out.big;simp;omega) ?_;intro v5 w5 hown5 hgrow5 hnil5;have hm5:Mv (fun g=>B≤g) w4 w5:=((Mv.refl _ _).alloc _).grown hgrow5 (fun k hk=>.inl (HS4.out.own.lt k hk).1);have HS5:=zh (HS4.out.push (s:=⟨a,cutN a b,false⟩) HBB.out hm5 (by rw [HHC.out] at hown5;exact hown5));have f1:=cell_of_heap HS5.out.sb 0 rfl;have ff:=free_of_heap HS5.out.sb 0;clear hown5 hgrow5 hnil5 hm5)))
    go_roundg (b - cutN a b)
    case measure=>omega
    case rel =>
     obtain ⟨j,hj1,hj2,hj3⟩:=half_left a b k hab (by omega) HK.out
     refine ⟨cutN a b,b,j,down++[⟨a,cutN a b,false⟩],by have hl:=of_decide_eq_false HLEFT.out;omega,by omega,by omega,Nat.le_refl _,hj3,by rw [List.length_append];simp;omega,?_,HS5.out.set HBB.out 0 _ (cutN a b) b rfl⟩
     rw [HWAY.out,wayDown_right _ _ a b HSTOP.out hab HLEFT.out]
     simp
set_option maxRecDepth 100000 in
set_option maxHeartbeats 1600000 in
theorem wayOfHash_any (n i KB M cn:Nat) (f:Nat→Nat→Bs) (w:World) (hn:n≤281474976710656) (hi:i<n) (hKB:w.heap[KB]?=some (.cells #[.map (some M)] 178 (0,0))) (hM:MapIs w M cn f) :
  Calls Tryz.prog 205 #[.int .i64 n,.int .i64 i,.func (.func 206) #[] #[.pointer (some ⟨KB,0,none⟩)]] w fun e w'=>∃ v,e=.returned v∧w'.ownsRow w.heap.size 34 32 v (wayRec n i).length (hsV (kn f (wayRec n i)))∧Mv (fun _=>False) w w':=by
 have hmf:∀ (fn:Fn) (first cap:Array Value) (w:World),(Instr.makeFunc fn first cap).run Tryz.prog w=.ok (.func fn first cap) w:=fun _ _ _ _=>rfl
 have HKB:=zh hKB
 have HMAP:=zh hM
 clear hKB hM
 go_enter Tryz.func205,Tryz.ntmps205
 go_wp2_with fail
 have hI:(w.alloc (.cells #[.int .i64 i] 2)).cell? ⟨w.heap.size,0,none⟩=some (.int .i64 i):=cell_of_heap (heap_alloc_new _ _) 0 rfl
 have hma:Mv (fun _=>False) w (w.alloc (.cells #[.int .i64 i] 2)):=(Mv.refl _ _).alloc _
 generalize hW1:w.alloc _=W1
 rw [hW1] at hI hma
 have HM:=zh hma
 have HI:=zh hI
 clear hW1 hma hI
 refine (walkHash_any n i w.heap.size KB M cn f W1 hn hi HI.out ((HM.out.block KB (lt_of_heap HKB.out) id).trans HKB.out) (HMAP.out.mv HM.out id)).mono ?_
 rintro e w2 ⟨v,rfl,hown,hm2⟩
 have HM2:=zh (HM.out.trans hm2)
 have hl:(wayDown recStop (recLeft i) 0 n).1.length=(wayRec n i).length:=by unfold wayRec;simp
 have hown':w2.ownsRow w.heap.size 34 32 v (wayRec n i).length (hsV (kn f (wayRec n i))):=by
  rw [hl] at hown
  exact owns_mono hown HM.out.size
 have HOWN:=zh hown'
 clear hown hm2 hl hown'
 obtain ⟨sa,hsa⟩:=zg ((wayDown recStop (recLeft i) 0 n).2.1)
 obtain ⟨sb,hsb⟩:=zg ((wayDown recStop (recLeft i) 0 n).2.2)
 rw [←hsa,←hsb]
 clear hsa hsb
 go_wp2_with fail
 go_ret
 exact ⟨v,rfl,HOWN.out.alloc _,HM2.out.alloc _⟩
end Go.Proofs.YtdfdikpklddnhaaGreatDoor
