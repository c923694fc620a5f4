/- Of the proof of EvidenceJudges, second form: for values of bulk at most 1048576. (Ej39) -/
import Derived.Test.YtdfdikpklddnhaaGreatDoorEj01
import Derived.Test.YtdfdikpklddnhaaGreatDoorEj36
import Derived.Test.YtdfdikpklddnhaaGreatDoorEj37
import Derived.Test.YtdfdikpklddnhaaGreatDoorEj15
import Derived.Test.YtdfdikpklddnhaaGreatDoorEj38
import Derived.Deep.QuietTactic
import Derived.BigQuiet
import Derived.OwnWalk
namespace Go.Proofs.YtdfdikpklddnhaaGreatDoor
open Go.RowKit
set_option linter.unusedSimpArgs false
theorem wpList_sumG {ops : Array Oper} {rest : List Oper} {o : Oper} {a : Act} {w : World} {Q : Exit → Act → World → Prop} (s : Nat) (ho : o.op = .call { callee := .invoke (.tmp s) "ledger/proof.sum", args := #[], argTypes := #[] }) (v : Value) (t : Nd) (hx : a.tmps[s]?.getD undef = v) (hn : NodeAt w v t)
  (hwd:Region.wanted o (yielded ops a.tmps)=true) (h:∀ w',Mv (fun _=>False) w w'→wpList Tryz.prog ops Q rest (a.put o.dst (hashV t.sum)) w'):wpList Tryz.prog ops Q (o :: rest) a w :=
 wpList_step fun K hK=>by rw [if_pos hwd];exact wp_sum s ho v t hx hn fun w' hm=>hK _ _ (h w' hm)
theorem as_joined (v:Value) (W:World):(Instr.typeAssert (.iface 306 v) 177 306 true).run Tryz.prog W=.ok (.tuple #[v,.bool true]) W:=by kernel_rfl
set_option maxRecDepth 100000 in
theorem children_joined (l r:Nd) (h:Bs) (v:Value) (w:World) (hn:NodeAt w v (.joined l r h)):Calls Tryz.prog 204 #[v] w fun e w'=>∃ vl vr,e=.returned (.tuple #[vl,vr,.bool true])∧Mv (fun _=>False) w w'∧NodeAt w' vl l∧NodeAt w' vr r:=by
 obtain ⟨_,J,vl,vr,rfl,hJ,hl,hr⟩:=hn
 have has:=as_joined (.pointer (some ⟨J,0,none⟩))
 have c0:w.cell? ⟨J,0,none⟩=some vl:=cell_of_heap hJ 0 (by simp)
 have c1:w.cell? ⟨J,1,none⟩=some vr:=cell_of_heap hJ 1 (by simp)
 have HL:=zh hl
 have HR:=zh hr
 clear hl hr hJ
 go_enter Tryz.func204,Tryz.ntmps204
 go_upto_region 4 with fail
 go_quiet (fail)
 go_wp2_with fail
 refine bodyPost_ret (results_tmp3 (fn:=Tryz.f204) rfl _ _ _) rfl ?_
 exact ⟨vl,vr,rfl,Mv.drewN' (Mv.refl _ _) _,HL.out.mv (Mv.drewN' (Mv.refl _ _) _),HR.out.mv (Mv.drewN' (Mv.refl _ _) _)⟩
set_option maxRecDepth 100000 in
theorem leafBytes_any (v:Value) (l:Bs) (w:World) (hv:SlIn w v l) (hl:l.length≤1048576) :
  Calls Tryz.prog 148 #[v] w fun e w'=>∃ v',e=.returned v'∧w'.ownsRow w.heap.size 5 1 v' (leafB l).length ((leafB l).map byteV)∧Mv (fun _=>False) w w':=by
 have HV:=zh hv
 have HL:=zh hl
 have HO:Hid ((w.alloc (.cells #[.int .u8 0] 5)).ownsRow w.heap.size 5 1 (.slice (some ⟨w.heap.size,0,none⟩) 1 1) ([0]:Bs).length (([0]:Bs).map byteV)):=zh
  ⟨rfl,.inr ⟨w.heap.size,1,#[.int .u8 0],rfl,Nat.le_refl _,heap_alloc_new _ _,Nat.le_refl _,by unfold maxLen;decide,rfl,rfl⟩⟩
 have HM:Hid (Mv (fun _=>False) w (w.alloc (.cells #[.int .u8 0] 5))):=zh ((Mv.refl _ _).alloc _)
 clear hv hl
 go_enter Tryz.func148,Tryz.ntmps148
 go_wp2_with (at_builtin;go_loud (refine wpList_append_slin rfl _ _ rfl w.heap.size _ [0] rfl HO.out v l rfl (HV.out.mv HM.out (fun _ _ h=>h)) (by have:=HL.out;simp;omega) (by have:=HM.out.size;exact this) ?_);intro v5 w5 hown5 hm5;have HOWN5:=zh hown5;have HM5:=zh hm5;clear hown5 hm5)
 go_ret
 exact ⟨_,rfl,HOWN5.out,HM.out.trans' HM5.out (fun i hi h=>by omega)⟩
set_option maxRecDepth 100000 in
set_option maxHeartbeats 1600000 in
theorem nodeBytes_any (a b:Bs) (w:World) (ha:a.length=32) (hb:b.length=32) :
  Calls Tryz.prog 207 #[hashV a,hashV b] w fun e w'=>∃ v',e=.returned v'∧w'.ownsRow w.heap.size 5 1 v' (nodeB a b).length ((nodeB a b).map byteV)∧Mv (fun _=>False) w w':=by
 obtain ⟨ca,hca⟩:=zg ((a.map byteV).toArray)
 obtain ⟨cb,hcb⟩:=zg ((b.map byteV).toArray)
 unfold hashV
 rw [←hca,←hcb]
 have HCA:=zh hca
 have HCB:=zh hcb
 have HA:=zh ha
 have HB:=zh hb
 clear hca hcb ha hb
 have hsl:∀ H (W:World),(Instr.sliceAt 34 (.pointer (some ⟨H,0,none⟩)) none none none).run Tryz.prog W=.ok (.slice (some ⟨H,0,none⟩) 32 32) W:=fun _ _=>by kernel_rfl
 go_enter Tryz.func207,Tryz.ntmps207
 go_upto_region 1 with fail
 obtain ⟨LA,hLA⟩:=zg (w.heap.size)
 obtain ⟨LB,hLB⟩:=zg (LA+1)
 have h1:((w.alloc (.cells ca 34)).alloc (.cells cb 34)).heap[LA]?=some (.cells ca 34 (0,0)):=by rw [hLA];exact (Below.heap_alloc _ _ _ (by simp)).trans (heap_alloc_new _ _)
 have h2:((w.alloc (.cells ca 34)).alloc (.cells cb 34)).heap[LB]?=some (.cells cb 34 (0,0)):=by
  rw [hLB,hLA,show w.heap.size+1=(w.alloc (.cells ca 34)).heap.size by simp];exact heap_alloc_new _ _
 have hm:Mv (fun _=>False) w ((w.alloc (.cells ca 34)).alloc (.cells cb 34)):=((Mv.refl _ _).alloc _).alloc _
 generalize hW1:(w.alloc (.cells ca 34)).alloc (.cells cb 34)=w1
 rw [hW1] at h1 h2 hm
 have H1:=zh h1
 have H2:=zh h2
 have HM:=zh hm
 rw [←hLA,←hLB]
 clear hW1 h1 h2 hm hLA hLB
 refine wp_region_noPanic ?_
 refine wp_region_held_drew (S:=(fun w'=>w'.heap[LA]?=some (.cells ca 34 (0,0))∧w'.heap[LB]?=some (.cells cb 34 (0,0)))) (by kernel_rfl) (⟨H1.out,H2.out⟩) (fun hHeld=>?_)
 refine zt 1 (.slice (some ⟨LA,0,none⟩) 32 32) rfl (fun _ hS=>by have:=hsl LA;go_simp) hHeld ?_
 try walk_nrm
 refine zt 2 (.slice (some ⟨LB,0,none⟩) 32 32) rfl (fun _ hS=>by have:=hsl LB;go_simp) hHeld ?_
 try walk_nrm
 refine zo 0 rfl fun K' hK=>?_
 unfold Oper.wp execOp
 go_simp
 have hm2:Mv (fun _=>False) w1 (w1.alloc (.cells #[.int .u8 1] 5)).drew:=((Mv.refl _ _).alloc _).drew
 have hn2:(w1.alloc (.cells #[.int .u8 1] 5)).drew.heap[w1.heap.size]?=some (.cells #[.int .u8 1] 5 (0,0)):=heap_alloc_new w1 _
 have hs2:=And.intro ((hm2.block LA (lt_of_heap H1.out) id).trans H1.out) ((hm2.block LB (lt_of_heap H2.out) id).trans H2.out)
 obtain ⟨X,hX⟩:=zg (w1.heap.size)
 rw [←hX] at hn2 ⊢
 generalize (w1.alloc (.cells #[.int .u8 1] 5)).drew=w2 at hm2 hn2 hs2 ⊢
 have M2:=zh hm2
 have N2:=zh hn2
 clear hm2 hn2 hX
 refine hK.out _ _ hs2 (fun hHeld=>?_)
 clear hK K'
 try walk_nrm
 clear hs2
 refine zo 3 rfl fun K' hK=>?_
 unfold Oper.wp execOp
 go_simp
 have hm3:Mv (fun _=>False) w2 (w2.alloc (.cells #[.slice (some ⟨X,0,none⟩) 1 1,.slice (some ⟨LA,0,none⟩) 32 32,.slice (some ⟨LB,0,none⟩) 32 32] 26)):=(Mv.refl _ _).alloc _
 have hn3:=heap_alloc_new w2 (.cells #[.slice (some ⟨X,0,none⟩) 1 1,.slice (some ⟨LA,0,none⟩) 32 32,.slice (some ⟨LB,0,none⟩) 32 32] 26)
 have hs3:=And.intro ((hm3.block LA (lt_of_heap hHeld.1) id).trans hHeld.1) ((hm3.block LB (lt_of_heap hHeld.2) id).trans hHeld.2)
 have hx3:=(hm3.block X (lt_of_heap N2.out) id).trans N2.out
 obtain ⟨Y,hY⟩:=zg (w2.heap.size)
 rw [←hY] at hn3 ⊢
 generalize w2.alloc (.cells #[.slice (some ⟨X,0,none⟩) 1 1,.slice (some ⟨LA,0,none⟩) 32 32,.slice (some ⟨LB,0,none⟩) 32 32] 26)=w3 at hm3 hn3 hs3 hx3 ⊢
 have M3:=zh (M2.out.trans hm3)
 have N3:=zh hn3
 have HSL:Hid (∀ (j:Nat) v l,[Value.slice (some ⟨X,0,none⟩) 1 1,.slice (some ⟨LA,0,none⟩) 32 32,.slice (some ⟨LB,0,none⟩) 32 32][j]?=some v→[([1]:Bs),a,b][j]?=some l→SlIn w3 v l):=zh fun j v l hv hl=>by
  match j,hv,hl with
  | 0,hv,hl=>cases hv;cases hl;exact .inr ⟨X,0,1,rfl,Nat.le_refl _,fun j b hj=>by
    have hj0:j=0:=by have:=(List.getElem?_eq_some_iff.1 hj).1;simpa using this
    subst hj0;cases hj;exact cell_of_heap hx3 0 rfl,lt_of_heap hx3⟩
  | 1,hv,hl=>cases hv;cases hl;exact hash_slin HA.out (by rw [←HCA.out];exact hs3.1)
  | 2,hv,hl=>cases hv;cases hl;exact hash_slin HB.out (by rw [←HCB.out];exact hs3.2)
  | j+3,hv,_=>simp at hv
 clear hm3 hn3 hx3 hY
 refine hK.out _ _ hs3 (fun hHeld=>?_)
 clear hK K'
 try walk_nrm
 clear hs3
 refine zo 4 rfl fun K' hK=>?_
 unfold Oper.wp execOp
 go_simp
 refine (concat_any Y _ [([1]:Bs),a,b] w3 N3.out rfl (by simp) (by simp) HSL.out (by intro l hl;simp at hl;rcases hl with rfl|rfl|rfl <;> simp [HA.out,HB.out])).mono ?_
 rintro e w4 ⟨v4,rfl,hown,hm4⟩
 have hs4:=And.intro ((hm4.block LA (lt_of_heap hHeld.1) id).trans hHeld.1) ((hm4.block LB (lt_of_heap hHeld.2) id).trans hHeld.2)
 have O4:=zh hown
 have M4:=zh (M3.out.trans hm4)
 have M3b:=zh M3.out
 clear hown hm4
 refine hK.out _ _ hs4 (fun hHeld=>?_)
 clear hK K'
 try walk_nrm
 clear hs4
 refine zo 5 rfl fun K' hK=>?_
 unfold Oper.wp execOp
 go_simp
 refine hK.out _ _ hHeld (fun hHeld=>?_)
 clear hK K'
 try walk_nrm
 clear hHeld
 refine zd ?_
 go_wp2_with fail
 go_ret
 refine ⟨v4,rfl,?_,HM.out.trans M4.out⟩
 have h:=owns_mono O4.out (show w.heap.size≤w3.heap.size by have:=HM.out.size;have:=M3.out.size;omega)
 have e:([([1]:Bs),a,b]).flatten=nodeB a b:=by simp [nodeB]
 rw [e] at h
 exact h
theorem owns_mvE {F:Nat→Prop} {w w':World} {base:Nat} {e E:TypeId} {sz:Nat} {v:Value} {n:Nat} {xs:List Value} (h:w.ownsRow base e sz v n xs) (hm:Mv F w w') (hF:∀ b,F b→b<w.heap.size→∃ C,w.heap[b]?=some (.cells C E (0,0))) (hE:e≠E):w'.ownsRow base e sz v n xs:=by
 refine ⟨h.1,?_⟩
 rcases h.2 with ⟨rfl,h0⟩|⟨g,c,cur,rfl,hb,hg,hr⟩
 ·exact .inl ⟨rfl,h0⟩
 ·refine .inr ⟨g,c,cur,rfl,hb,(hm.block g (lt_of_heap hg) (fun hf=>?_)).trans hg,hr⟩
  obtain ⟨C,hC⟩:=hF g hf (lt_of_heap hg)
  rw [hC] at hg
  simp at hg
  exact hE hg.2.symm
theorem info33:(Tryz.prog.info? 33).map (·.size)=some 2:=by kernel_rfl
theorem two_slices (a b:Option Addr) (n m c d:Nat):(#[.slice a n c,.slice b m d]:Array Value).all (·.oneCell')=true:=by simp [Value.oneCell']
def PairOwn (w:World) (B:Nat) (pv:Array Value) (x y:Bs):Prop:=∃ p q,pv=#[p,q]∧w.ownsRow B 5 1 p x.length (x.map byteV)∧w.ownsRow B 5 1 q y.length (y.map byteV)
def noPair:Array Value:=#[.slice none 0 0,.slice none 0 0]
set_option maxRecDepth 100000 in
set_option maxHeartbeats 3200000 in
theorem parts_joined (al ar bl br:Nd) (ha hb:Bs) (va vb:Value) (w:World) (hA:NodeAt w va (.joined al ar ha)) (hB:NodeAt w vb (.joined bl br hb)) :
  Calls Tryz.prog 149 #[va,vb] w fun e w'=>∃ pv ok,e=.returned (.tuple #[.agg pv,.bool ok])∧Mv (fun _=>False) w w' ∧
   ((partsP (.joined al ar ha) (.joined bl br hb)=none∧ok=false∧pv=noPair)∨∃ x y,partsP (.joined al ar ha) (.joined bl br hb)=some (x,y)∧ok=true∧PairOwn w' w.heap.size pv x y):=by
 have hla:al.sum.length=32:=by obtain ⟨_,J,vl,vr,_,_,h,_⟩:=hA;exact h.len
 have hra:ar.sum.length=32:=by obtain ⟨_,J,vl,vr,_,_,_,h⟩:=hA;exact h.len
 have hlb:bl.sum.length=32:=by obtain ⟨_,J,vl,vr,_,_,h,_⟩:=hB;exact h.len
 have hrb:br.sum.length=32:=by obtain ⟨_,J,vl,vr,_,_,_,h⟩:=hB;exact h.len
 obtain ⟨ta,xa,hva⟩:=hA.iface
 obtain ⟨tb,xb,hvb⟩:=hB.iface
 subst hva hvb
 have HA:=zh hA
 have HB:=zh hB
 have HLA:=zh hla
 have HRA:=zh hra
 have HLB:=zh hlb
 have HRB:=zh hrb
 have HEQ:Hid (∀ (x y:Bs) (cx cy:Array Value),x.length=32→y.length=32→cx=(x.map byteV).toArray→cy=(y.map byteV).toArray→∀ W,(binOp .eql 34 (.agg cx) (.agg cy)).run Tryz.prog W=.ok (.bool (x == y)) W):=zh fun x y cx cy hx hy e1 e2 W=>by subst e1 e2;exact hash_eql x y hx hy W
 obtain ⟨cla,hcla⟩:=zg ((al.sum.map byteV).toArray)
 obtain ⟨cra,hcra⟩:=zg ((ar.sum.map byteV).toArray)
 obtain ⟨clb,hclb⟩:=zg ((bl.sum.map byteV).toArray)
 obtain ⟨crb,hcrb⟩:=zg ((br.sum.map byteV).toArray)
 have vla:hashV al.sum=.agg cla:=by rw [hcla];rfl
 have vra:hashV ar.sum=.agg cra:=by rw [hcra];rfl
 have vlb:hashV bl.sum=.agg clb:=by rw [hclb];rfl
 have vrb:hashV br.sum=.agg crb:=by rw [hcrb];rfl
 have e1:=HEQ.out al.sum bl.sum cla clb hla hlb hcla hclb
 have e2:=HEQ.out ar.sum br.sum cra crb hra hrb hcra hcrb
 have VLA:=zh vla
 have VRA:=zh vra
 have VLB:=zh vlb
 have VRB:=zh vrb
 obtain ⟨b1,hb1⟩:=zg ((al.sum == bl.sum))
 obtain ⟨b2,hb2⟩:=zg ((ar.sum == br.sum))
 rw [←hb1] at e1
 rw [←hb2] at e2
 have HB1:=zh hb1
 have HB2:=zh hb2
 obtain ⟨R,hR⟩:=zg (w.heap.size)
 have HR:=zh hR
 clear hA hB hla hra hlb hrb HEQ hcla hcra hclb hcrb vla vra vlb vrb hb1 hb2
 go_enter Tryz.func149,Tryz.ntmps149
 go_upto_region 1 with fail
 have hm1:Mv (fun _=>False) w (w.alloc (.cells #[.slice none 0 0,.slice none 0 0] 33)):=(Mv.refl _ _).alloc _
 have hr1:(w.alloc (.cells #[.slice none 0 0,.slice none 0 0] 33)).heap[R]?=some (.cells #[.slice none 0 0,.slice none 0 0] 33 (0,0)):=by rw [hR];exact heap_alloc_new _ _
 rw [←hR]
 generalize w.alloc (.cells #[.slice none 0 0,.slice none 0 0] 33)=w1 at hm1 hr1 ⊢
 have M1:=zh hm1
 have R1:=zh hr1
 clear hR hm1 hr1
 go_upto_region 2 with (first
  | (go_at_call 204;refine (children_joined al ar ha _ w1 (HA.out.mv M1.out)).mono ?_;rintro e w2 ⟨vl,vr,rfl,hm2,hn1,hn2⟩;have M2:=zh (M1.out.trans hm2);have R2:=zh ((hm2.block R (lt_of_heap R1.out) id).trans R1.out);have NL2:=zh hn1;have NR2:=zh hn2;clear hm2 hn1 hn2))
 go_upto_region 3 with (first
  | (go_at_call 204;refine (children_joined bl br hb _ w2 (HB.out.mv M2.out)).mono ?_;rintro e w3 ⟨ul,ur,rfl,hm3,hn1,hn2⟩;have M3:=zh (M2.out.trans hm3);have R3:=zh ((hm3.block R (lt_of_heap R2.out) id).trans R2.out);have NL3:=zh (NL2.out.mv hm3);have NR3:=zh (NR2.out.mv hm3);have UL3:=zh hn1;have UR3:=zh hn2;clear hm3 hn1 hn2))
 obtain ⟨tl,xl,hsh⟩:=NL3.out.iface
 subst hsh
 obtain ⟨tr,xr,hsh⟩:=NR3.out.iface
 subst hsh
 obtain ⟨sl,yl,hsh⟩:=UL3.out.iface
 subst hsh
 obtain ⟨sr,yr,hsh⟩:=UR3.out.iface
 subst hsh
 have K3:=zh (Mv.refl (fun _=>False) w3)
 cases b1 with
 | false =>
  have hsome:partsP (.joined al ar ha) (.joined bl br hb)=some (nodeB al.sum ar.sum,nodeB bl.sum br.sum):=by
   exact if_neg (fun e=>by have:=HB1.out;rw [e.1] at this;simp at this)
  have HSO:=zh hsome
  clear hsome
  go_wp2_with (((with_reducible refine wpList_sumG 31 ?_ _ al ?_ (NL3.out.mv K3.out) ?_ ?_);rfl;rfl;rfl;rw [VLA.out];intro w4 hm4;have K4:=zh (K3.out.trans hm4);clear hm4);go_wp2_with (((with_reducible refine wpList_sumG 33 ?_ _ bl ?_ (UL3.out.mv K4.out) ?_ ?_);rfl;rfl;rfl;rw [VLB.out];intro w5 hm5;have K5:=zh (K4.out.trans hm5);clear hm5);go_wp2_with (((with_reducible refine wpList_sumG 45 ?_ _ al ?_ (NL3.out.mv K5.out) ?_ ?_);rfl;rfl;rfl;rw [VLA.out];intro w6 hm6;have K6:=zh (K5.out.trans hm6);clear hm6);go_wp2_with (((with_reducible refine wpList_sumG 47 ?_ _ ar ?_ (NR3.out.mv K6.out) ?_ ?_);rfl;rfl;rfl;rw [VRA.out];intro w7 hm7;have K7:=zh (K6.out.trans hm7);clear hm7);go_wp2_with ((go_at_call 207;have hnb:=nodeBytes_any al.sum ar.sum w7 HLA.out HRA.out;rw [VLA.out,VRA.out] at hnb;refine hnb.mono ?_;rintro e w8 ⟨pv,rfl,hown,hm8⟩;obtain ⟨pa,pc,hsh⟩:=owns_shape hown;subst hsh;have Op:=zh hown;have Ep:=zh (show w.heap.size≤w7.heap.size by have:=M3.out.size;have:=K7.out.size;omega);have K8:=zh (K7.out.trans hm8);have P8:=zh (Mv.refl (fun _=>False) w8);clear hnb hown hm8);go_wp2_with (((with_reducible refine wpList_sumG 50 ?_ _ bl ?_ (UL3.out.mv K8.out) ?_ ?_);rfl;rfl;rfl;rw [VLB.out];intro w9 hm9;have K9:=zh (K8.out.trans hm9);have P9:=zh (P8.out.trans hm9);clear hm9);go_wp2_with (((with_reducible refine wpList_sumG 52 ?_ _ br ?_ (UR3.out.mv K9.out) ?_ ?_);rfl;rfl;rfl;rw [VRB.out];intro w10 hm10;have K10:=zh (K9.out.trans hm10);have P10:=zh (P9.out.trans hm10);clear hm10);go_wp2_with ((go_at_call 207;have hnb:=nodeBytes_any bl.sum br.sum w10 HLB.out HRB.out;rw [VLB.out,VRB.out] at hnb;refine hnb.mono ?_;rintro e w11 ⟨qv,rfl,hown,hm11⟩;obtain ⟨qa,qc,hsh⟩:=owns_shape hown;subst hsh;have Oq:=zh hown;have Eq:=zh (show w.heap.size≤w10.heap.size by have:=M3.out.size;have:=K10.out.size;omega);have K11:=zh (K10.out.trans hm11);have P11:=zh (P10.out.trans hm11);clear hnb hown hm11);go_wp2_with ((refine wpList_store_row rfl 33 (.tmp 4) (.tmp 55) rfl R #[.slice pa (nodeB al.sum ar.sum).length pc,.slice qa (nodeB bl.sum br.sum).length qc] rfl rfl 33 _ ((K11.out.block R (lt_of_heap R3.out) id).trans R3.out) info33 rfl (two_slices _ _ _ _ _ _) ?_);go_wp2_with fail)))))))))
  refine bodyPost_ret (results_ct (fn:=Tryz.f149) rfl _ _ R 33 #[.slice pa (nodeB al.sum ar.sum).length pc,.slice qa (nodeB bl.sum br.sum).length qc] (.bool true) _ rfl rfl (setRow_heap _ _ _ _ _ _ ((K11.out.block R (lt_of_heap R3.out) id).trans R3.out)) Tryz.underlying33 rfl info33) rfl ?_
  have hset:Mv (fun k=>k=R) w11 (w11.setRow R #[.slice pa (nodeB al.sum ar.sum).length pc,.slice qa (nodeB bl.sum br.sum).length qc]):=(Mv.refl (fun k=>k=R) _).setRow (.inl rfl) _
  have hF:∀ b,b=R→b<w11.heap.size→∃ C,w11.heap[b]?=some (.cells C 33 (0,0)):=fun b e _=>⟨_,(congrArg (fun z=>w11.heap[z]?) e).trans ((K11.out.block R (lt_of_heap R3.out) id).trans R3.out)⟩
  exact ⟨_,true,rfl,(M3.out.trans K11.out).setRow (.inr (by rw [HR.out];exact Nat.le_refl _)) _,.inr ⟨_,_,HSO.out,rfl,_,_,rfl,owns_mono (owns_mvE (owns_mv Op.out P11.out (fun _ _ _ h=>h)) hset hF (by decide)) Ep.out,owns_mono (owns_mvE Oq.out hset hF (by decide)) Eq.out⟩⟩
 | true =>
  cases b2 with
  | false =>
   have hsome:partsP (.joined al ar ha) (.joined bl br hb)=some (nodeB al.sum ar.sum,nodeB bl.sum br.sum):=by
    exact if_neg (fun e=>by have:=HB2.out;rw [e.2] at this;simp at this)
   have HSO:=zh hsome
   clear hsome
   go_wp2_with (((with_reducible refine wpList_sumG 31 ?_ _ al ?_ (NL3.out.mv K3.out) ?_ ?_);rfl;rfl;rfl;rw [VLA.out];intro w4 hm4;have K4:=zh (K3.out.trans hm4);clear hm4);go_wp2_with (((with_reducible refine wpList_sumG 33 ?_ _ bl ?_ (UL3.out.mv K4.out) ?_ ?_);rfl;rfl;rfl;rw [VLB.out];intro w5 hm5;have K5:=zh (K4.out.trans hm5);clear hm5);go_wp2_with (((with_reducible refine wpList_sumG 37 ?_ _ ar ?_ (NR3.out.mv K5.out) ?_ ?_);rfl;rfl;rfl;rw [VRA.out];intro w6 hm6;have K6:=zh (K5.out.trans hm6);clear hm6);go_wp2_with (((with_reducible refine wpList_sumG 39 ?_ _ br ?_ (UR3.out.mv K6.out) ?_ ?_);rfl;rfl;rfl;rw [VRB.out];intro w7 hm7;have K7:=zh (K6.out.trans hm7);clear hm7);go_wp2_with (((with_reducible refine wpList_sumG 45 ?_ _ al ?_ (NL3.out.mv K7.out) ?_ ?_);rfl;rfl;rfl;rw [VLA.out];intro w8 hm8;have K8:=zh (K7.out.trans hm8);clear hm8);go_wp2_with (((with_reducible refine wpList_sumG 47 ?_ _ ar ?_ (NR3.out.mv K8.out) ?_ ?_);rfl;rfl;rfl;rw [VRA.out];intro w9 hm9;have K9:=zh (K8.out.trans hm9);clear hm9);go_wp2_with ((go_at_call 207;have hnb:=nodeBytes_any al.sum ar.sum w9 HLA.out HRA.out;rw [VLA.out,VRA.out] at hnb;refine hnb.mono ?_;rintro e w10 ⟨pv,rfl,hown,hm10⟩;obtain ⟨pa,pc,hsh⟩:=owns_shape hown;subst hsh;have Op:=zh hown;have Ep:=zh (show w.heap.size≤w9.heap.size by have:=M3.out.size;have:=K9.out.size;omega);have K10:=zh (K9.out.trans hm10);have P10:=zh (Mv.refl (fun _=>False) w10);clear hnb hown hm10);go_wp2_with (((with_reducible refine wpList_sumG 50 ?_ _ bl ?_ (UL3.out.mv K10.out) ?_ ?_);rfl;rfl;rfl;rw [VLB.out];intro w11 hm11;have K11:=zh (K10.out.trans hm11);have P11:=zh (P10.out.trans hm11);clear hm11);go_wp2_with (((with_reducible refine wpList_sumG 52 ?_ _ br ?_ (UR3.out.mv K11.out) ?_ ?_);rfl;rfl;rfl;rw [VRB.out];intro w12 hm12;have K12:=zh (K11.out.trans hm12);have P12:=zh (P11.out.trans hm12);clear hm12);go_wp2_with ((go_at_call 207;have hnb:=nodeBytes_any bl.sum br.sum w12 HLB.out HRB.out;rw [VLB.out,VRB.out] at hnb;refine hnb.mono ?_;rintro e w13 ⟨qv,rfl,hown,hm13⟩;obtain ⟨qa,qc,hsh⟩:=owns_shape hown;subst hsh;have Oq:=zh hown;have Eq:=zh (show w.heap.size≤w12.heap.size by have:=M3.out.size;have:=K12.out.size;omega);have K13:=zh (K12.out.trans hm13);have P13:=zh (P12.out.trans hm13);clear hnb hown hm13);go_wp2_with ((refine wpList_store_row rfl 33 (.tmp 4) (.tmp 55) rfl R #[.slice pa (nodeB al.sum ar.sum).length pc,.slice qa (nodeB bl.sum br.sum).length qc] rfl rfl 33 _ ((K13.out.block R (lt_of_heap R3.out) id).trans R3.out) info33 rfl (two_slices _ _ _ _ _ _) ?_);go_wp2_with fail)))))))))))
   refine bodyPost_ret (results_ct (fn:=Tryz.f149) rfl _ _ R 33 #[.slice pa (nodeB al.sum ar.sum).length pc,.slice qa (nodeB bl.sum br.sum).length qc] (.bool true) _ rfl rfl (setRow_heap _ _ _ _ _ _ ((K13.out.block R (lt_of_heap R3.out) id).trans R3.out)) Tryz.underlying33 rfl info33) rfl ?_
   have hset:Mv (fun k=>k=R) w13 (w13.setRow R #[.slice pa (nodeB al.sum ar.sum).length pc,.slice qa (nodeB bl.sum br.sum).length qc]):=(Mv.refl (fun k=>k=R) _).setRow (.inl rfl) _
   have hF:∀ b,b=R→b<w13.heap.size→∃ C,w13.heap[b]?=some (.cells C 33 (0,0)):=fun b e _=>⟨_,(congrArg (fun z=>w13.heap[z]?) e).trans ((K13.out.block R (lt_of_heap R3.out) id).trans R3.out)⟩
   exact ⟨_,true,rfl,(M3.out.trans K13.out).setRow (.inr (by rw [HR.out];exact Nat.le_refl _)) _,.inr ⟨_,_,HSO.out,rfl,_,_,rfl,owns_mono (owns_mvE (owns_mv Op.out P13.out (fun _ _ _ h=>h)) hset hF (by decide)) Ep.out,owns_mono (owns_mvE Oq.out hset hF (by decide)) Eq.out⟩⟩
  | true =>
   have hnone:partsP (.joined al ar ha) (.joined bl br hb)=none:=by
    exact if_pos ⟨by simpa using HB1.out.symm,by simpa using HB2.out.symm⟩
   have HNO:=zh hnone
   clear hnone
   go_wp2_with (((with_reducible refine wpList_sumG 31 ?_ _ al ?_ (NL3.out.mv K3.out) ?_ ?_);rfl;rfl;rfl;rw [VLA.out];intro w4 hm4;have K4:=zh (K3.out.trans hm4);clear hm4);go_wp2_with (((with_reducible refine wpList_sumG 33 ?_ _ bl ?_ (UL3.out.mv K4.out) ?_ ?_);rfl;rfl;rfl;rw [VLB.out];intro w5 hm5;have K5:=zh (K4.out.trans hm5);clear hm5);go_wp2_with (((with_reducible refine wpList_sumG 37 ?_ _ ar ?_ (NR3.out.mv K5.out) ?_ ?_);rfl;rfl;rfl;rw [VRA.out];intro w6 hm6;have K6:=zh (K5.out.trans hm6);clear hm6);go_wp2_with (((with_reducible refine wpList_sumG 39 ?_ _ br ?_ (UR3.out.mv K6.out) ?_ ?_);rfl;rfl;rfl;rw [VRB.out];intro w7 hm7;have K7:=zh (K6.out.trans hm7);clear hm7);go_wp2_with ((refine wpList_store_row rfl 33 (.tmp 4) (.tmp 44) rfl R #[.slice none 0 0,.slice none 0 0] rfl rfl 33 _ ((K7.out.block R (lt_of_heap R3.out) id).trans R3.out) info33 rfl (two_slices _ _ _ _ _ _) ?_);go_wp2_with fail)))))
   refine bodyPost_ret (results_ct (fn:=Tryz.f149) rfl _ _ R 33 #[.slice none 0 0,.slice none 0 0] (.bool false) _ rfl rfl (setRow_heap _ _ _ _ _ _ ((K7.out.block R (lt_of_heap R3.out) id).trans R3.out)) Tryz.underlying33 rfl info33) rfl ?_
   exact ⟨noPair,false,rfl,(M3.out.trans K7.out).setRow (.inr (by rw [HR.out];exact Nat.le_refl _)) _,.inl ⟨HNO.out,rfl,rfl⟩⟩
end Go.Proofs.YtdfdikpklddnhaaGreatDoor
