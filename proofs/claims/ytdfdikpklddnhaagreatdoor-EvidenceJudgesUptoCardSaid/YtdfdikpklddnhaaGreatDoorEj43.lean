/- Of the proof of EvidenceJudges, second form: for values of bulk at most 1048576. (Ej43) -/
import Derived.Test.YtdfdikpklddnhaaGreatDoorEj01
import Derived.Test.YtdfdikpklddnhaaGreatDoorEj41
import Derived.Test.YtdfdikpklddnhaaGreatDoorEj42
namespace Go.Proofs.YtdfdikpklddnhaaGreatDoor
open Go.RowKit
set_option linter.unusedSimpArgs false
theorem nodes_cell {w:World} {B n:Nat} {v:Value} {vs:List Value} {F:Nat→Nd} (h:w.ownsRow B 177 1 v (n+1) vs) (hn:NodesAt w vs F) :
  ∃ g cap,v=.slice (some ⟨g,0,none⟩) (n+1) cap∧n+1≤cap∧∀ j,j≤n→∃ u,w.cell? ⟨g,j,none⟩=some u∧NodeAt w u (F j):=by
 obtain ⟨g,cap,u,hv,hc,_,_,_⟩:=climbed_last h hn 0 (Nat.zero_le _)
 refine ⟨g,cap,hv,hc,fun j hj=>?_⟩
 obtain ⟨g',cap',u',hv',_,h1,h2,_⟩:=climbed_last h hn j hj
 rw [hv] at hv'
 simp only [Value.slice.injEq,Option.some.injEq,Addr.mk.injEq] at hv'
 obtain ⟨⟨rfl,_,_⟩,_,rfl⟩:=hv'
 exact ⟨u',h1,h2⟩
theorem climbErr_ok (n i:Nat) (p:List Bs) (hn:n≤281474976710656) (hi:i<n) (hp:p.length=(wayRec n i).length):climbErr n i p=0:=by
 unfold climbErr sizedP
 rw [if_neg (by simp;omega),if_neg (by simpa using hp)]
theorem climbRoot_nat (k:Int) (n i:Nat) (leaf:Bs) (p:List Bs):climbRoot k n i leaf p=(climbN k leaf (wayRec n i) p (wayRec n i).length).sum:=by
 unfold climbRoot
 simp
set_option maxRecDepth 100000 in
set_option maxHeartbeats 6400000 in
theorem collide_any (k:Int) (n i:Nat) (av bv pav pbv:Value) (a b:Bs) (pa pb:List Bs) (w:World) (ha:SlIn w av a) (hb:SlIn w bv b) (hpa:HsIn w pav pa) (hpb:HsIn w pbv pb) (hal:a.length≤1024) (hbl:b.length≤1024) (hab:a≠b)
  (hn:n≤281474976710656) (hin:i<n) (hla:pa.length=(wayRec n i).length) (hlb:pb.length=(wayRec n i).length) (ha32:∀ h∈pa,h.length=32) (hb32:∀ h∈pb,h.length=32)
  (heq:(climbN k (leafP k a) (wayRec n i) pa (wayRec n i).length).sum=(climbN k (leafP k b) (wayRec n i) pb (wayRec n i).length).sum) (he:EnvH w) :
  Calls Tryz.prog 101 #[.int .i64 k,.int .i64 n,.int .i64 i,av,pav,bv,pbv] w fun e w' =>
   ∃ pv x y,e=.returned (.tuple #[.agg pv,.int .i64 0])∧Mv (fun _=>False) w w'∧PairOwn w' w.heap.size pv x y∧Alike k x y∧colPair a b (climbN k (leafP k a) (wayRec n i) pa) (climbN k (leafP k b) (wayRec n i) pb) (wayRec n i).length=some (x,y):=by
 obtain ⟨J,X,Y,hJ,hJL,hpair,halike⟩:=col_law k a b (wayRec n i) pa pb hab hla hlb ha32 hb32 heq
 have hpair0:=hpair
 obtain ⟨_,_,hJe,hJn⟩:=colJ_some _ _ _ _ _ hJ
 unfold colPair at hpair
 rw [hJ] at hpair
 have HPAIR:=zh hpair
 have HAL:Hid (Alike k X Y∧colPair a b (climbN k (leafP k a) (wayRec n i) pa) (climbN k (leafP k b) (wayRec n i) pb) (wayRec n i).length=some (X,Y)):=zh ⟨halike,hpair0⟩
 have HJE:=zh hJe
 have HJN:=zh hJn
 clear hpair hpair0 halike hJ hJe hJn
 obtain ⟨aa,ac,hav⟩:=ha.shape0
 subst hav
 obtain ⟨ba,bc,hbv⟩:=hb.shape0
 subst hbv
 obtain ⟨qa,qc,hqa⟩:=hpa.shape
 subst hqa
 obtain ⟨qb,qd,hqb⟩:=hpb.shape
 subst hqb
 have HEA:=zh (climbErr_ok n i pa hn hin hla)
 have HEB:=zh (climbErr_ok n i pb hn hin hlb)
 have HRA:=zh (climbRoot_nat k n i (leafP k a) pa)
 have HRB:=zh (climbRoot_nat k n i (leafP k b) pb)
 obtain ⟨rt,hrt⟩:=zg ((climbN k (leafP k a) (wayRec n i) pa (wayRec n i).length).sum)
 rw [←hrt] at HRA heq
 rw [←heq] at HRB
 have hrl:rt.length=32:=by rw [hrt];exact climbN_len _ _ _ _ (leafP_length _ _) _
 obtain ⟨rc,hrc⟩:=zg ((rt.map byteV).toArray)
 have hnr:=neq_self rt rc hrl hrc
 have HVR:Hid (hashV rt=.agg rc):=zh (by rw [hrc];rfl)
 have HIR:Hid ((Tryz.prog.info? 34).map (·.size)=some rc.size):=zh (by rw [show rc.size=32 by rw [hrc];simp [hrl]];exact info34)
 have HRZ:Hid (32=rc.size):=zh (by rw [hrc];simp [hrl])
 have HRO:Hid (rc.all (·.oneCell')=true):=zh (by rw [hrc];exact hash_one _)
 have HAB:Hid ((a == b)=false):=zh (by simpa using hab)
 obtain ⟨la,hLA⟩:=zg (a.length)
 obtain ⟨lb,hLB⟩:=zg (b.length)
 obtain ⟨lp,hLP⟩:=zg (pa.length)
 obtain ⟨lq,hLQ⟩:=zg (pb.length)
 have HAV:=zh ha
 have HBV:=zh hb
 have HPA:=zh hpa
 have HPB:=zh hpb
 have HE:=zh he
 have HLA:=zh hla
 have HLB:=zh hlb
 rw [←hLA,←hLB,←hLP,←hLQ]
 rw [←hLA] at hal
 rw [←hLB] at hbl
 have KLA:=zh hLA
 have KLB:=zh hLB
 have KLP:=zh hLP
 have KLQ:=zh hLQ
 rw [←hLA] at HAV
 rw [←hLB] at HBV
 rw [←hLP] at HPA
 rw [←hLQ] at HPB
 have HW48:Hid ((wayRec n i).length≤48):=zh (by unfold wayRec;rw [List.length_reverse];exact wayDown_len _ _ 48 0 n hn (by omega))
 have hna:¬ ((1024:Int)<la):=by omega
 have hnb:¬ ((1024:Int)<lb):=by omega
 clear ha hb hpa hpb he hla hlb ha32 hb32 heq hrt hrl hrc hLA hLB hLP hLQ hab
 go_enter Tryz.func101,Tryz.ntmps101
 go_upto_region 1 with fail
 obtain ⟨R,hR⟩:=zg (w.heap.size)
 have hm1:Mv (fun _=>False) w (w.alloc (.cells #[.slice none 0 0,.slice none 0 0] 33)):=(Mv.refl _ _).alloc _
 have hr1:(w.alloc (.cells #[.slice none 0 0,.slice none 0 0] 33)).heap[R]?=some (.cells #[.slice none 0 0,.slice none 0 0] 33 (0,0)):=by rw [hR];exact heap_alloc_new _ _
 rw [←hR]
 generalize w.alloc (.cells #[.slice none 0 0,.slice none 0 0] 33)=w1 at hm1 hr1 ⊢
 have M1:=zh hm1
 have R1:=zh hr1
 have HR:=zh hR
 clear hR hm1 hr1
 go_upto_region 3 with fail
 go_upto_region 4 with (first|(go_at_call 51;have hlf:=leafHash_any k (.slice aa la ac) a w1 (HAV.out.mv M1.out (fun _ _ h=>h)) (by rw [←KLA.out];omega) (HE.out.mv M1.out (fun _ h=>h.elim));refine hlf.mono ?_;rintro e w2 ⟨rfl,hm⟩;have M2:=zh (M1.out.trans hm);have R2:=zh ((hm.block R (lt_of_heap R1.out) id).trans R1.out);clear hlf hm)|(go_at_call 98;have hcl:=climbRecord_any k n i (.slice qa lp qc) pa (leafP k a) w2 (HPA.out.mv M2.out (fun _ _ h=>h)) (leafP_length _ _) (by have:=HW48.out;rw [HLA.out];omega) (HE.out.mv M2.out (fun _ h=>h.elim));rw [climbAns_ok k n i _ _ HEA.out,HRA.out,HVR.out] at hcl;refine hcl.mono ?_;rintro e w3 ⟨rfl,hm⟩;have M3:=zh (M2.out.trans hm);have R3:=zh ((hm.block R (lt_of_heap R2.out) id).trans R2.out);clear hcl hm)|((with_reducible refine wpList_store_row ?_ 34 (.tmp 16) (.tmp 43) ?_ w3.heap.size rc ?_ ?_ 34 _ (heap_alloc_new _ _) HIR.out ?_ HRO.out ?_);rfl;rfl;rfl;rfl;exact HRZ.out))
 obtain ⟨X1,hX1⟩:=zg (w3.heap.size)
 have HW:Hid (∀ Z:Array Value,Mv (fun _=>False) w3 ((w3.alloc (.cells Z 34)).setRow w3.heap.size rc)∧((w3.alloc (.cells Z 34)).setRow w3.heap.size rc).heap[X1]?=some (.cells rc 34 (0,0))):=zh fun Z=>⟨((Mv.refl _ _).alloc _).setRow (.inr (Nat.le_refl _)) _,by rw [hX1];exact setRow_heap _ _ _ _ _ _ (heap_alloc_new _ _)⟩
 rw [←hX1]
 generalize hWn:World.setRow _ _ _=w4
 obtain ⟨hmn,hpn⟩:=HW.out _
 rw [←hX1,hWn] at hmn hpn
 have M4:=zh (M3.out.trans hmn)
 have XA4:=zh hpn
 have R4:=zh ((hmn.block R (lt_of_heap R3.out) id).trans R3.out)
 clear hWn hmn hpn HW hX1
 go_upto_region 6 with fail
 go_upto_region 7 with (first|(go_at_call 51;have hlf:=leafHash_any k (.slice ba lb bc) b w4 (HBV.out.mv M4.out (fun _ _ h=>h)) (by rw [←KLB.out];omega) (HE.out.mv M4.out (fun _ h=>h.elim));refine hlf.mono ?_;rintro e w5 ⟨rfl,hm⟩;have M5:=zh (M4.out.trans hm);have R5:=zh ((hm.block R (lt_of_heap R4.out) id).trans R4.out);have XA5:=zh ((hm.block X1 (lt_of_heap XA4.out) id).trans XA4.out);clear hlf hm)|(go_at_call 98;have hcl:=climbRecord_any k n i (.slice qb lq qd) pb (leafP k b) w5 (HPB.out.mv M5.out (fun _ _ h=>h)) (leafP_length _ _) (by have:=HW48.out;rw [HLB.out];omega) (HE.out.mv M5.out (fun _ h=>h.elim));rw [climbAns_ok k n i _ _ HEB.out,HRB.out,HVR.out] at hcl;refine hcl.mono ?_;rintro e w6 ⟨rfl,hm⟩;have M6:=zh (M5.out.trans hm);have R6:=zh ((hm.block R (lt_of_heap R5.out) id).trans R5.out);have XA6:=zh ((hm.block X1 (lt_of_heap XA5.out) id).trans XA5.out);clear hcl hm)|((with_reducible refine wpList_store_row ?_ 34 (.tmp 18) (.tmp 58) ?_ w6.heap.size rc ?_ ?_ 34 _ (heap_alloc_new _ _) HIR.out ?_ HRO.out ?_);rfl;rfl;rfl;rfl;exact HRZ.out))
 obtain ⟨X2,hX2⟩:=zg (w6.heap.size)
 have HW:Hid (∀ Z:Array Value,Mv (fun _=>False) w6 ((w6.alloc (.cells Z 34)).setRow w6.heap.size rc)∧((w6.alloc (.cells Z 34)).setRow w6.heap.size rc).heap[X2]?=some (.cells rc 34 (0,0))):=zh fun Z=>⟨((Mv.refl _ _).alloc _).setRow (.inr (Nat.le_refl _)) _,by rw [hX2];exact setRow_heap _ _ _ _ _ _ (heap_alloc_new _ _)⟩
 rw [←hX2]
 generalize hWn:World.setRow _ _ _=w7
 obtain ⟨hmn,hpn⟩:=HW.out _
 rw [←hX2,hWn] at hmn hpn
 have M7:=zh (M6.out.trans hmn)
 have XB7:=zh hpn
 have R7:=zh ((hmn.block R (lt_of_heap R6.out) id).trans R6.out)
 have XA7:=zh ((hmn.block X1 (lt_of_heap XA6.out) id).trans XA6.out)
 clear hWn hmn hpn HW hX2
 go_upto_region 9 with fail
 go_upto_region 11 with (first|((with_reducible refine wpList_load_row ?_ 34 (.tmp 16) ?_ X1 ?_ 34 rc (0,0) _ XA7.out Tryz.underlying34 ?_ HIR.out ?_);rfl;rfl;rfl;rfl)|((with_reducible refine wpList_load_row ?_ 34 (.tmp 18) ?_ X2 ?_ 34 rc (0,0) _ XB7.out Tryz.underlying34 ?_ HIR.out ?_);rfl;rfl;rfl;rfl))
 go_upto_region 13 with (first|(go_at_call 78;refine (equal_any (.slice aa la ac) (.slice ba lb bc) a b w7 (HAV.out.mv M7.out (fun _ _ h=>h)) (HBV.out.mv M7.out (fun _ _ h=>h))).mono ?_;rintro e w' ⟨rfl,rfl⟩;rw [HAB.out]))
 go_upto_region 14 with (first|(go_at_call 145;refine (wayOf_any n i w7 hn hin).mono ?_;rintro e w8 ⟨v19,rfl,hown,hm⟩;have M8:=zh (M7.out.trans hm);have R8:=zh ((hm.block R (lt_of_heap R7.out) id).trans R7.out);have XA8:=zh ((hm.block X1 (lt_of_heap XA7.out) id).trans XA7.out);have XB8:=zh ((hm.block X2 (lt_of_heap XB7.out) id).trans XB7.out);have O19:=zh hown;clear hown hm))
 obtain ⟨wa,wcp,hsh⟩:=owns_shape O19.out
 subst hsh
 have K8:=zh (Mv.refl (fun _=>False) w8)
 go_upto_region 15 with ((go_at_call 51;have hlf:=leafHash_any k (.slice aa la ac) a w8 (HAV.out.mv M8.out (fun _ _ h=>h)) (by rw [←KLA.out];omega) (HE.out.mv M8.out (fun _ h=>h.elim));refine hlf.mono ?_;rintro e w9 ⟨rfl,hm⟩;have M9:=zh (M8.out.trans hm);have R9:=zh ((hm.block R (lt_of_heap R8.out) id).trans R8.out);have XA9:=zh ((hm.block X1 (lt_of_heap XA8.out) id).trans XA8.out);have XB9:=zh ((hm.block X2 (lt_of_heap XB8.out) id).trans XB8.out);have K9:=zh (K8.out.trans hm);clear hlf hm);go_upto_region 15 with ((go_at_call 146;have hcl:=climbed_any k (.slice qa lp qc) (.slice wa (wayRec n i).length wcp) pa (wayRec n i) (leafP k a) w7.heap.size w9 (HPA.out.mv M9.out (fun _ _ h=>h)) (owns_mv O19.out K9.out (fun _ _ _ h=>h)) HLA.out (by have:=HW48.out;omega) (leafP_length _ _) (HE.out.mv M9.out (fun _ h=>h.elim));refine hcl.mono ?_;rintro e w10 ⟨nav,navs,rfl,hown,hnd,hm⟩;have M10:=zh (M9.out.trans hm);have R10:=zh ((hm.block R (lt_of_heap R9.out) id).trans R9.out);have XA10:=zh ((hm.block X1 (lt_of_heap XA9.out) id).trans XA9.out);have XB10:=zh ((hm.block X2 (lt_of_heap XB9.out) id).trans XB9.out);have K10:=zh (K9.out.trans hm);have naO:=zh hown;have naN:=zh hnd;clear hcl hown hnd hm);go_upto_region 15 with ((go_at_call 51;have hlf:=leafHash_any k (.slice ba lb bc) b w10 (HBV.out.mv M10.out (fun _ _ h=>h)) (by rw [←KLB.out];omega) (HE.out.mv M10.out (fun _ h=>h.elim));refine hlf.mono ?_;rintro e w11 ⟨rfl,hm⟩;have M11:=zh (M10.out.trans hm);have R11:=zh ((hm.block R (lt_of_heap R10.out) id).trans R10.out);have XA11:=zh ((hm.block X1 (lt_of_heap XA10.out) id).trans XA10.out);have XB11:=zh ((hm.block X2 (lt_of_heap XB10.out) id).trans XB10.out);have K11:=zh (K10.out.trans hm);have P11:=zh hm;clear hlf hm);go_upto_region 15 with ((go_at_call 146;have hcl:=climbed_any k (.slice qb lq qd) (.slice wa (wayRec n i).length wcp) pb (wayRec n i) (leafP k b) w7.heap.size w11 (HPB.out.mv M11.out (fun _ _ h=>h)) (owns_mv O19.out K11.out (fun _ _ _ h=>h)) HLB.out (by have:=HW48.out;omega) (leafP_length _ _) (HE.out.mv M11.out (fun _ h=>h.elim));refine hcl.mono ?_;rintro e w12 ⟨nbv,nbvs,rfl,hown,hnd,hm⟩;have M12:=zh (M11.out.trans hm);have R12:=zh ((hm.block R (lt_of_heap R11.out) id).trans R11.out);have XA12:=zh ((hm.block X1 (lt_of_heap XA11.out) id).trans XA11.out);have XB12:=zh ((hm.block X2 (lt_of_heap XB11.out) id).trans XB11.out);have K12:=zh (K11.out.trans hm);have nbO:=zh hown;have nbN:=zh hnd;have P12:=zh (P11.out.trans hm);clear hcl hown hnd hm);go_upto_region 15 with fail))))
 obtain ⟨ga,ca,hsh,hca,hna⟩:=nodes_cell naO.out naN.out
 subst hsh
 obtain ⟨gb,cb,hsh,hcb,hnb2⟩:=nodes_cell nbO.out nbN.out
 subst hsh
 obtain ⟨L,hL⟩:=zg ((wayRec n i).length)
 have HNA12:Hid (∀ j,j≤L→∃ u,w12.cell? ⟨ga,j,none⟩=some u∧NodeAt w12 u (climbN k (leafP k a) (wayRec n i) pa j)):=zh fun j hj=>by
  obtain ⟨u,h1,h2⟩:=hna j (by rw [←hL];exact hj)
  exact ⟨u,(P12.out.cell (p:=⟨ga,j,none⟩) (World.block_lt_of_cell? _ _ h1) id).trans h1,h2.mv P12.out⟩
 have HNB12:Hid (∀ j,j≤L→∃ u,w12.cell? ⟨gb,j,none⟩=some u∧NodeAt w12 u (climbN k (leafP k b) (wayRec n i) pb j)):=zh fun j hj=>hnb2 j (by rw [←hL];exact hj)
 rw [←hL] at hca hcb hJL ⊢
 have HL:=zh hL
 have HL48:L≤48:=by rw [hL];exact HW48.out
 obtain ⟨N,hN⟩:=zg (L+1)
 rw [←hN] at hca hcb ⊢
 have HN:=zh hN
 have hN49:N≤49:=by omega
 clear hna hnb2 hL hN
 go_wp2_with fail
 go_loopg [91] N (fun q ix wr=>∃ (j:Nat),j≤N∧N - j≤q∧ix=.int .i64 j∧(∀ t,t<j→(climbN k (leafP k a) (wayRec n i) pa t).sum≠(climbN k (leafP k b) (wayRec n i) pb t).sum)∧Mv (fun _=>False) w12 wr)
 case atStart=>exact ⟨0,Nat.zero_le _,by omega,rfl,fun t ht=>by omega,Mv.refl _ _⟩
 case round =>
  obtain ⟨j,hj,hjq,rfl,hne,hmv⟩:=hrel
  have HNEQ:=zh hne
  have HMV:=zh hmv
  have hjL:j<N:=by
   apply Classical.byContradiction
   intro hc
   exact hne J (by have:=HN.out;omega) HJE.out
  obtain ⟨ua,hua,hda⟩:=HNA12.out j (by have:=HN.out;omega)
  obtain ⟨ub,hub,hdb⟩:=HNB12.out j (by have:=HN.out;omega)
  obtain ⟨uta,uxa,e1⟩:=hda.iface
  subst e1
  obtain ⟨utb,uxb,e2⟩:=hdb.iface
  subst e2
  obtain ⟨NA,hNA⟩:=zg (climbN k (leafP k a) (wayRec n i) pa j)
  obtain ⟨NB,hNB⟩:=zg (climbN k (leafP k b) (wayRec n i) pb j)
  rw [←hNA] at hda
  rw [←hNB] at hdb
  have HDA:=zh (hda.mv hmv)
  have HDB:=zh (hdb.mv hmv)
  have HUA:=zh ((hmv.cell (p:=⟨ga,j,none⟩) (World.block_lt_of_cell? _ _ hua) id).trans hua)
  have HUB:=zh ((hmv.cell (p:=⟨gb,j,none⟩) (World.block_lt_of_cell? _ _ hub) id).trans hub)
  have hal32:=hda.len
  have hbl32:=hdb.len
  obtain ⟨sa,hsa⟩:=zg ((NA.sum.map byteV).toArray)
  obtain ⟨sb,hsb⟩:=zg ((NB.sum.map byteV).toArray)
  have HVA:Hid (hashV NA.sum=.agg sa):=zh (by rw [hsa];rfl)
  have HVB:Hid (hashV NB.sum=.agg sb):=zh (by rw [hsb];rfl)
  have hq:=hash_neq NA.sum NB.sum hal32 hbl32
  rw [←hsa,←hsb] at hq
  have HNA:=zh hNA
  have HNB:=zh hNB
  have hjc:(j:Int)<N:=by omega
  have hjb:¬ ((N:Int)≤j):=by omega
  clear hne hmv hua hub hda hdb hal32 hbl32 hsa hsb hNA hNB
  go_upto_region 18 with fail
  refine wp_region_noPanic ?_
  refine wp_region_held_drew (S:=(fun w'=>Mv (fun _=>False) wr w')) (by kernel_rfl) ((Mv.refl _ _).drew) (fun hHeld=>?_)
  refine zt 0 (.slice (some ⟨ga,0,none⟩) N ca) rfl (fun _ hS=>by go_simp) hHeld ?_
  try walk_nrm
  refine zt 1 (.int .i64 j) rfl (fun _ hS=>by go_simp) hHeld ?_
  try walk_nrm
  refine zt 2 (.pointer (some ⟨ga,j,none⟩)) rfl (fun _ hS=>by go_simp) hHeld ?_
  try walk_nrm
  refine zt 3 (.iface uta uxa) rfl (fun _ hS=>by have q:=(Mv.cell (p:=⟨ga,j,none⟩) hS (World.block_lt_of_cell? _ _ HUA.out) id).trans HUA.out;go_simp) hHeld ?_
  try walk_nrm
  refine zt 5 (.slice (some ⟨gb,0,none⟩) N cb) rfl (fun _ hS=>by go_simp) hHeld ?_
  try walk_nrm
  refine zt 6 (.int .i64 j) rfl (fun _ hS=>by go_simp) hHeld ?_
  try walk_nrm
  refine zt 7 (.pointer (some ⟨gb,j,none⟩)) rfl (fun _ hS=>by go_simp) hHeld ?_
  try walk_nrm
  refine zt 8 (.iface utb uxb) rfl (fun _ hS=>by have q:=(Mv.cell (p:=⟨gb,j,none⟩) hS (World.block_lt_of_cell? _ _ HUB.out) id).trans HUB.out;go_simp) hHeld ?_
  try walk_nrm
  refine zo 4 rfl fun K' hK=>?_
  refine wp_sum 97 rfl _ NA rfl (HDA.out.mv hHeld) (fun w13 hm=>?_)
  rw [HVA.out]
  have hs:=hHeld.trans hm
  clear hm
  refine hK.out _ _ hs (fun hHeld=>?_)
  clear hK K'
  try walk_nrm
  clear hs
  refine zo 9 rfl fun K' hK=>?_
  refine wp_sum 102 rfl _ NB rfl (HDB.out.mv hHeld) (fun w14 hm=>?_)
  rw [HVB.out]
  have hs:=hHeld.trans hm
  clear hm
  refine hK.out _ _ hs (fun hHeld=>?_)
  clear hK K'
  try walk_nrm
  clear hs
  refine zt 10 (.bool (!(NA.sum == NB.sum))) rfl (fun _ hS=>by have q:=hq;go_simp) hHeld ?_
  try walk_nrm
  refine zd ?_
  have M14:=zh hHeld
  have MV14:=zh (HMV.out.trans hHeld)
  clear hHeld hq
  cases hbe:(NA.sum == NB.sum) with
  | false =>
   have hne:NA.sum≠NB.sum:=by simpa using hbe
   have HNE2:=zh hne
   clear hne hbe
   go_wp2_with fail
   go_roundg (N - (j+1))
   case measure=>omega
   case rel=>exact ⟨j+1,by omega,Nat.le_refl _,by go_num,fun t ht=>if e:t=j then (by subst e;rw [←HNA.out,←HNB.out];exact HNE2.out) else HNEQ.out t (by omega),MV14.out⟩
  | true =>
   have heq:NA.sum=NB.sum:=by simpa using hbe
   have hjJ:j=J:=by
    rw [HNA.out,HNB.out] at heq
    rcases Nat.lt_trichotomy j J with h|h|h
    ·exact absurd heq (HJN.out j (Nat.zero_le _) h)
    ·exact h
    ·exact absurd HJE.out (HNEQ.out J h)
   subst hjJ
   clear heq hbe
   cases j with
   | zero =>
    have hp:=HPAIR.out
    simp only [Option.some.injEq,Prod.mk.injEq] at hp
    obtain ⟨rfl,rfl⟩:=hp
    have R14:=zh ((MV14.out.block R (lt_of_heap R12.out) id).trans R12.out)
    have M14w:=zh (M12.out.trans MV14.out)
    go_wp2_with ((go_at_call 148;have hlb:=leafBytes_any (.slice aa la ac) a w14 (HAV.out.mv M14w.out (fun _ _ h=>h)) (by rw [←KLA.out];omega);refine hlb.mono ?_;rintro e w15 ⟨la1v,rfl,hown,hm⟩;obtain ⟨la1a,la1c,hsh⟩:=owns_shape hown;subst hsh;have la1O:=zh hown;have la1M:=zh hm;have la1W:=zh (M14w.out.trans hm);clear hlb hown hm);go_wp2_with ((go_at_call 148;have hlb:=leafBytes_any (.slice ba lb bc) b w15 (HBV.out.mv la1W.out (fun _ _ h=>h)) (by rw [←KLB.out];omega);refine hlb.mono ?_;rintro e w16 ⟨lb1v,rfl,hown,hm⟩;obtain ⟨lb1a,lb1c,hsh⟩:=owns_shape hown;subst hsh;have lb1O:=zh hown;have lb1M:=zh hm;have lb1W:=zh (la1W.out.trans hm);have R16:=zh (((la1M.out.trans hm).block R (lt_of_heap R14.out) id).trans R14.out);clear hlb hown hm);go_wp2_with ((refine wpList_store_row rfl 33 (.tmp 14) (.tmp 111) rfl R #[.slice la1a (leafB a).length la1c,.slice lb1a (leafB b).length lb1c] rfl rfl 33 _ R16.out info33 rfl (two_slices _ _ _ _ _ _) ?_);go_wp2_with fail)))
    refine bodyPost_ret (results_ct (fn:=Tryz.f101) rfl _ _ R 33 #[.slice la1a (leafB a).length la1c,.slice lb1a (leafB b).length lb1c] (.int .i64 0) _ rfl rfl (setRow_heap _ _ _ _ _ _ R16.out) Tryz.underlying33 rfl info33) rfl ?_
    have hset:Mv (fun k=>k=R) w16 (w16.setRow R #[.slice la1a (leafB a).length la1c,.slice lb1a (leafB b).length lb1c]):=(Mv.refl (fun k=>k=R) _).setRow (.inl rfl) _
    have hF:∀ b,b=R→b<w16.heap.size→∃ C,w16.heap[b]?=some (.cells C 33 (0,0)):=fun b e _=>⟨_,(congrArg (fun z=>w16.heap[z]?) e).trans R16.out⟩
    have s14:w.heap.size≤w14.heap.size:=M14w.out.size
    have s15:w.heap.size≤w15.heap.size:=la1W.out.size
    exact ⟨_,_,_,rfl,lb1W.out.setRow (.inr (by rw [HR.out];exact Nat.le_refl _)) _,⟨_,_,rfl,owns_mono (owns_mvE (owns_mv la1O.out lb1M.out (fun _ _ _ h=>h)) hset hF (by decide)) s14,owns_mono (owns_mvE lb1O.out hset hF (by decide)) s15⟩,HAL.out⟩
   | succ t =>
    have hp:partsP (climbN k (leafP k a) (wayRec n i) pa (t+1)) (climbN k (leafP k b) (wayRec n i) pb (t+1))=some (X,Y):=HPAIR.out
    rw [←HNA.out,←HNB.out] at hp
    have HP:=zh hp
    cases NA with
    | given x=>unfold partsP at hp;cases hp
    | joined al ar ha =>
    cases NB with
    | given x=>unfold partsP at hp;cases hp
    | joined bl br hb =>
    clear hp
    have R14:=zh ((MV14.out.block R (lt_of_heap R12.out) id).trans R12.out)
    have M14w:=zh (M12.out.trans MV14.out)
    have NA14:=zh (HDA.out.mv M14.out)
    have NB14:=zh (HDB.out.mv M14.out)
    have UA14:=zh ((M14.out.cell (p:=⟨ga,t+1,none⟩) (World.block_lt_of_cell? _ _ HUA.out) id).trans HUA.out)
    have UB14:=zh ((M14.out.cell (p:=⟨gb,t+1,none⟩) (World.block_lt_of_cell? _ _ HUB.out) id).trans HUB.out)
    have hjc2:((t+1:Nat):Int)<N:=by omega
    have hjz:¬ (((t+1:Nat):Int)=0):=by omega
    have hpj:=parts_joined al ar bl br ha hb (.iface uta uxa) (.iface utb uxb)
    have HPJ:Hid (∀ W,Mv (fun _=>False) w14 W→Calls Tryz.prog 149 #[.iface uta uxa,.iface utb uxb] W fun e w'=>∃ p q pc qc,e=.returned (.tuple #[.agg #[.slice p X.length pc,.slice q Y.length qc],.bool true])∧Mv (fun _=>False) W w'∧w'.ownsRow W.heap.size 5 1 (.slice p X.length pc) X.length (X.map byteV)∧w'.ownsRow W.heap.size 5 1 (.slice q Y.length qc) Y.length (Y.map byteV)):=zh fun W hm=>by
     refine (hpj W (NA14.out.mv hm) (NB14.out.mv hm)).mono ?_
     rintro e w' ⟨pv,ok,rfl,hm2,⟨hn,_,_⟩|⟨x,y,hs,rfl,p,q,rfl,h1,h2⟩⟩
     ·rw [HP.out] at hn;cases hn
     ·rw [HP.out] at hs
      simp only [Option.some.injEq,Prod.mk.injEq] at hs
      obtain ⟨rfl,rfl⟩:=hs
      obtain ⟨a1,a2,rfl⟩:=owns_shape h1
      obtain ⟨a3,a4,rfl⟩:=owns_shape h2
      exact ⟨_,_,_,_,rfl,hm2,h1,h2⟩
    clear hpj
    go_upto_region 21 with fail
    refine wp_region_noPanic ?_
    refine wp_region_held_drew (S:=(fun w'=>Mv (fun _=>False) w14 w')) (by kernel_rfl) ((Mv.refl _ _).drew) (fun hHeld=>?_)
    refine zt 0 (.slice (some ⟨ga,0,none⟩) N ca) rfl (fun _ hS=>by go_simp) hHeld ?_
    try walk_nrm
    refine zt 1 (.int .i64 (t+1:Nat)) rfl (fun _ hS=>by go_simp) hHeld ?_
    try walk_nrm
    refine zt 2 (.pointer (some ⟨ga,t+1,none⟩)) rfl (fun _ hS=>by have hb:¬ (0≤(t:Int)+1→(N:Int)≤(t:Int)+1):=(by omega);go_simp) hHeld ?_
    try walk_nrm
    refine zt 3 (.iface uta uxa) rfl (fun _ hS=>by have q:=(Mv.cell (p:=⟨ga,t+1,none⟩) hS (World.block_lt_of_cell? _ _ UA14.out) id).trans UA14.out;go_simp) hHeld ?_
    try walk_nrm
    refine zt 4 (.slice (some ⟨gb,0,none⟩) N cb) rfl (fun _ hS=>by go_simp) hHeld ?_
    try walk_nrm
    refine zt 5 (.int .i64 (t+1:Nat)) rfl (fun _ hS=>by go_simp) hHeld ?_
    try walk_nrm
    refine zt 6 (.pointer (some ⟨gb,t+1,none⟩)) rfl (fun _ hS=>by have hb:¬ (0≤(t:Int)+1→(N:Int)≤(t:Int)+1):=(by omega);go_simp) hHeld ?_
    try walk_nrm
    refine zt 7 (.iface utb uxb) rfl (fun _ hS=>by have q:=(Mv.cell (p:=⟨gb,t+1,none⟩) hS (World.block_lt_of_cell? _ _ UB14.out) id).trans UB14.out;go_simp) hHeld ?_
    try walk_nrm
    refine wpAnyH_ready (rs:=[8,12]) (by kernel_rfl) (by simp) (AllReadyH.cons rfl (fun K' hK=>?r8) (AllReadyH.cons rfl (fun K' hK=>?r12) AllReadyH.nil))
    case r8 =>
     rw [if_pos (by rfl)]
     unfold Oper.wp execOp
     go_simp
     refine (HPJ.out w14.drew hHeld).mono ?_
     rintro e w15 ⟨pu,pq,pc,qc,rfl,hm,h1,h2⟩
     have HO1:=zh h1
     have HO2:=zh h2
     have HMC:=zh hm
     clear h1 h2
     have hs:=hHeld.trans hm
     have N15:=zh hs
     clear hm
     refine hK.out _ _ hs (fun hHeld=>?_)
     clear hK K'
     try walk_nrm
     clear hs
     refine zt 9 (.tuple #[.agg #[.slice pu X.length pc,.slice pq Y.length qc],.bool true]) rfl (fun _ hS=>by go_simp) hHeld ?_
     try walk_nrm
     refine zt 10 (.agg #[.slice pu X.length pc,.slice pq Y.length qc]) rfl (fun _ hS=>by go_simp) hHeld ?_
     try walk_nrm
     refine zt 11 (.bool true) rfl (fun _ hS=>by go_simp) hHeld ?_
     try walk_nrm
     refine zo 12 rfl fun K' hK=>?_
     unfold Oper.wp execOp
     go_simp
     have hm:Mv (fun _=>False) w15 (w15.alloc (.cells #[.slice none 0 0,.slice none 0 0] 33)):=(Mv.refl _ _).alloc _
     have hb:(w15.alloc (.cells #[.slice none 0 0,.slice none 0 0] 33)).heap[w15.heap.size]?=some (.cells #[.slice none 0 0,.slice none 0 0] 33 (0,0)):=heap_alloc_new _ _
     obtain ⟨PB,hPB⟩:=zg (w15.heap.size)
     rw [show w15.heap.size=PB from hPB.symm] at hb ⊢
     have HPB:=zh (show w14.heap.size≤PB by rw [hPB];exact (hHeld).size)
     generalize w15.alloc (.cells #[.slice none 0 0,.slice none 0 0] 33)=w16 at hm hb ⊢
     have HB:=zh hb
     clear hb hPB
     have hs:=hHeld.trans hm
     have O1:=zh (owns_mv HO1.out hm (fun _ _ _ h=>h))
     have O2:=zh (owns_mv HO2.out hm (fun _ _ _ h=>h))
     have HBS:=HB
     clear hm
     refine hK.out _ _ hs (fun hHeld=>?_)
     clear hK K'
     try walk_nrm
     clear hs
     refine zo 13 rfl fun K' hK=>?_
     have p0:=cell_of_heap HBS.out 0 rfl
     have p1:=cell_of_heap HBS.out 1 rfl
     have z0:=free_of_heap HBS.out 0
     have z1:=free_of_heap HBS.out 1
     have s14:=hHeld.size
     unfold Oper.wp execOp
     go_simp
     have hs:Mv (fun _=>False) w14 ((w16.setCell ⟨PB,0,none⟩ (.slice pu X.length pc)).setCell ⟨PB,1,none⟩ (.slice pq Y.length qc)):=(hHeld.setCell (.inr HPB.out) _).setCell (.inr HPB.out) _
     have hb:((w16.setCell ⟨PB,0,none⟩ (.slice pu X.length pc)).setCell ⟨PB,1,none⟩ (.slice pq Y.length qc)).heap[PB]?=some (.cells #[.slice pu X.length pc,.slice pq Y.length qc] 33 (0,0)):=(heap_setCell_same (heap_setCell_same HBS.out _) _).trans rfl
     have hmv:Mv (fun k=>k=PB) w16 ((w16.setCell ⟨PB,0,none⟩ (.slice pu X.length pc)).setCell ⟨PB,1,none⟩ (.slice pq Y.length qc)):=((Mv.refl (fun k=>k=PB) _).setCell (.inl rfl) _).setCell (.inl rfl) _
     have hF:∀ b,b=PB→b<w16.heap.size→∃ C,w16.heap[b]?=some (.cells C 33 (0,0)):=fun b e _=>⟨_,(congrArg (fun z=>w16.heap[z]?) e).trans HBS.out⟩
     have Q1:=zh (owns_mvE O1.out hmv hF (by decide))
     have Q2:=zh (owns_mvE O2.out hmv hF (by decide))
     generalize (w16.setCell ⟨PB,0,none⟩ (.slice pu X.length pc)).setCell ⟨PB,1,none⟩ (.slice pq Y.length qc)=w17 at hs hb hmv Q1 Q2 ⊢
     have B17:=zh hb
     have S17:=zh hs
     clear p0 p1 z0 z1 s14 hb hmv hF
     refine hK.out _ _ hs (fun hHeld=>?_)
     clear hK K'
     try walk_nrm
     clear hs
     refine zt 14 (.bool true) rfl (fun _ hS=>by go_simp) hHeld ?_
     try walk_nrm
     clear hHeld
     refine zd ?_
     have R17:=zh ((S17.out.block R (lt_of_heap R14.out) id).trans R14.out)
     have b0:=cell_of_heap B17.out 0 rfl
     have b1:=cell_of_heap B17.out 1 rfl
     have r0:=cell_of_heap R17.out 0 rfl
     have r1:=cell_of_heap R17.out 1 rfl
     have z0:=free_of_heap R17.out 0
     have z1:=free_of_heap R17.out 1
     go_wp2_with fail
     refine bodyPost_ret (results_ct (fn:=Tryz.f101) rfl _ _ R 33 #[.slice pu X.length pc,.slice pq Y.length qc] (.int .i64 0) _ rfl rfl ((heap_setCell_same (heap_setCell_same R17.out _) _).trans rfl) Tryz.underlying33 rfl info33) rfl ?_
     have sR:w.heap.size≤R:=by rw [HR.out];exact Nat.le_refl _
     have s14:w.heap.size≤w14.heap.size:=M14w.out.size
     have hset:Mv (fun k=>k=R) w17 ((w17.setCell ⟨R,0,none⟩ (.slice pu X.length pc)).setCell ⟨R,1,none⟩ (.slice pq Y.length qc)):=((Mv.refl (fun k=>k=R) _).setCell (.inl rfl) _).setCell (.inl rfl) _
     have hF:∀ b,b=R→b<w17.heap.size→∃ C,w17.heap[b]?=some (.cells C 33 (0,0)):=fun b e _=>⟨_,(congrArg (fun z=>w17.heap[z]?) e).trans R17.out⟩
     have sB:w.heap.size≤w14.drew.heap.size:=s14
     exact ⟨_,rfl,((M14w.out.trans S17.out).setCell (.inr sR) _).setCell (.inr sR) _,_,_,⟨_,_,rfl,owns_mono (owns_mvE Q1.out hset hF (by decide)) sB,owns_mono (owns_mvE Q2.out hset hF (by decide)) sB⟩,HAL.out⟩
    case r12 =>
     rw [if_pos (by rfl)]
     unfold Oper.wp execOp
     go_simp
     have hm:Mv (fun _=>False) w14 (w14.alloc (.cells #[.slice none 0 0,.slice none 0 0] 33)).drew:=((Mv.refl _ _).alloc _).drew
     have hb:(w14.alloc (.cells #[.slice none 0 0,.slice none 0 0] 33)).drew.heap[w14.heap.size]?=some (.cells #[.slice none 0 0,.slice none 0 0] 33 (0,0)):=heap_alloc_new w14 _
     obtain ⟨PB,hPB⟩:=zg (w14.heap.size)
     rw [←hPB] at hb ⊢
     have HPB:=zh (show w14.heap.size≤PB by rw [hPB];exact Nat.le_refl _)
     generalize (w14.alloc (.cells #[.slice none 0 0,.slice none 0 0] 33)).drew=w15 at hm hb ⊢
     have HB:=zh hb
     clear hb hPB
     have hs:=hm
     have N15:=zh hs
     clear hm
     refine hK.out _ _ hs (fun hHeld=>?_)
     clear hK K'
     try walk_nrm
     clear hs
     refine zo 8 rfl fun K' hK=>?_
     unfold Oper.wp execOp
     go_simp
     refine (HPJ.out w15 hHeld).mono ?_
     rintro e w16 ⟨pu,pq,pc,qc,rfl,hm,h1,h2⟩
     have HO1:=zh h1
     have HO2:=zh h2
     have HMC:=zh hm
     clear h1 h2
     have hs:=hHeld.trans hm
     have O1:=HO1
     have O2:=HO2
     have HBS:=zh ((hm.block PB (lt_of_heap HB.out) id).trans HB.out)
     clear hm
     refine hK.out _ _ hs (fun hHeld=>?_)
     clear hK K'
     try walk_nrm
     clear hs
     refine zt 9 (.tuple #[.agg #[.slice pu X.length pc,.slice pq Y.length qc],.bool true]) rfl (fun _ hS=>by go_simp) hHeld ?_
     try walk_nrm
     refine zt 10 (.agg #[.slice pu X.length pc,.slice pq Y.length qc]) rfl (fun _ hS=>by go_simp) hHeld ?_
     try walk_nrm
     refine zt 11 (.bool true) rfl (fun _ hS=>by go_simp) hHeld ?_
     try walk_nrm
     refine zo 13 rfl fun K' hK=>?_
     have p0:=cell_of_heap HBS.out 0 rfl
     have p1:=cell_of_heap HBS.out 1 rfl
     have z0:=free_of_heap HBS.out 0
     have z1:=free_of_heap HBS.out 1
     have s14:=hHeld.size
     unfold Oper.wp execOp
     go_simp
     have hs:Mv (fun _=>False) w14 ((w16.setCell ⟨PB,0,none⟩ (.slice pu X.length pc)).setCell ⟨PB,1,none⟩ (.slice pq Y.length qc)):=(hHeld.setCell (.inr HPB.out) _).setCell (.inr HPB.out) _
     have hb:((w16.setCell ⟨PB,0,none⟩ (.slice pu X.length pc)).setCell ⟨PB,1,none⟩ (.slice pq Y.length qc)).heap[PB]?=some (.cells #[.slice pu X.length pc,.slice pq Y.length qc] 33 (0,0)):=(heap_setCell_same (heap_setCell_same HBS.out _) _).trans rfl
     have hmv:Mv (fun k=>k=PB) w16 ((w16.setCell ⟨PB,0,none⟩ (.slice pu X.length pc)).setCell ⟨PB,1,none⟩ (.slice pq Y.length qc)):=((Mv.refl (fun k=>k=PB) _).setCell (.inl rfl) _).setCell (.inl rfl) _
     have hF:∀ b,b=PB→b<w16.heap.size→∃ C,w16.heap[b]?=some (.cells C 33 (0,0)):=fun b e _=>⟨_,(congrArg (fun z=>w16.heap[z]?) e).trans HBS.out⟩
     have Q1:=zh (owns_mvE O1.out hmv hF (by decide))
     have Q2:=zh (owns_mvE O2.out hmv hF (by decide))
     generalize (w16.setCell ⟨PB,0,none⟩ (.slice pu X.length pc)).setCell ⟨PB,1,none⟩ (.slice pq Y.length qc)=w17 at hs hb hmv Q1 Q2 ⊢
     have B17:=zh hb
     have S17:=zh hs
     clear p0 p1 z0 z1 s14 hb hmv hF
     refine hK.out _ _ hs (fun hHeld=>?_)
     clear hK K'
     try walk_nrm
     clear hs
     refine zt 14 (.bool true) rfl (fun _ hS=>by go_simp) hHeld ?_
     try walk_nrm
     clear hHeld
     refine zd ?_
     have R17:=zh ((S17.out.block R (lt_of_heap R14.out) id).trans R14.out)
     have b0:=cell_of_heap B17.out 0 rfl
     have b1:=cell_of_heap B17.out 1 rfl
     have r0:=cell_of_heap R17.out 0 rfl
     have r1:=cell_of_heap R17.out 1 rfl
     have z0:=free_of_heap R17.out 0
     have z1:=free_of_heap R17.out 1
     go_wp2_with fail
     refine bodyPost_ret (results_ct (fn:=Tryz.f101) rfl _ _ R 33 #[.slice pu X.length pc,.slice pq Y.length qc] (.int .i64 0) _ rfl rfl ((heap_setCell_same (heap_setCell_same R17.out _) _).trans rfl) Tryz.underlying33 rfl info33) rfl ?_
     have sR:w.heap.size≤R:=by rw [HR.out];exact Nat.le_refl _
     have s14:w.heap.size≤w14.heap.size:=M14w.out.size
     have hset:Mv (fun k=>k=R) w17 ((w17.setCell ⟨R,0,none⟩ (.slice pu X.length pc)).setCell ⟨R,1,none⟩ (.slice pq Y.length qc)):=((Mv.refl (fun k=>k=R) _).setCell (.inl rfl) _).setCell (.inl rfl) _
     have hF:∀ b,b=R→b<w17.heap.size→∃ C,w17.heap[b]?=some (.cells C 33 (0,0)):=fun b e _=>⟨_,(congrArg (fun z=>w17.heap[z]?) e).trans R17.out⟩
     have sB:w.heap.size≤w15.heap.size:=by have:=N15.out.size;omega
     exact ⟨_,rfl,((M14w.out.trans S17.out).setCell (.inr sR) _).setCell (.inr sR) _,_,_,⟨_,_,rfl,owns_mono (owns_mvE Q1.out hset hF (by decide)) sB,owns_mono (owns_mvE Q2.out hset hF (by decide)) sB⟩,HAL.out⟩
end Go.Proofs.YtdfdikpklddnhaaGreatDoor
