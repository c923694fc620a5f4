/- Of the proof of EvidenceJudges, second form: for values of bulk at most 1048576. (Ej41) -/
import Derived.Test.YtdfdikpklddnhaaGreatDoorEj01
import Derived.Test.YtdfdikpklddnhaaGreatDoorEj39
import Derived.Test.YtdfdikpklddnhaaGreatDoorEj40
import Derived.Test.YtdfdikpklddnhaaGreatDoorEj15
import Derived.Deep.DeepCutAuto
namespace Go.Proofs.YtdfdikpklddnhaaGreatDoor
open Go.RowKit
set_option linter.unusedSimpArgs false
def LiftRes (k:Int) (n m i:Nat) (old leaf:Bs) (rec tree:List Bs) (w w':World) (lv:Value) (pv:Array Value) (c:Int):Prop :=
 match liftD k n m i old leaf rec tree with
 | none=>c=0∧pv=noPair∧w'.ownsRow w.heap.size 34 32 lv (wayRec n i).length (hsV (liftL k n m i old rec tree))
 | some (x,y)=>c=93∧lv=.slice none 0 0∧PairOwn w' w.heap.size pv x y
theorem neq_self (x:Bs) (cx:Array Value) (hx:x.length=32) (e:cx=(x.map byteV).toArray) (W:World):(binOp .neq 34 (.agg cx) (.agg cx)).run Tryz.prog W=.ok (.bool false) W:=by
 subst e
 rw [hash_neq x x hx hx W]
 simp
theorem climbed_last {w:World} {B n:Nat} {v:Value} {vs:List Value} {F:Nat→Nd} (h:w.ownsRow B 177 1 v (n+1) vs) (hn:NodesAt w vs F) (j:Nat) (hj:j≤n) :
  ∃ g cap u,v=.slice (some ⟨g,0,none⟩) (n+1) cap∧n+1≤cap∧w.cell? ⟨g,j,none⟩=some u∧NodeAt w u (F j)∧B≤g:=by
 obtain ⟨hl,h0|⟨g,cap,cur,hv,hb,hg,hc,_,_,ht⟩⟩:=h
 ·omega
 ·have hlen:vs.length=n+1:=by rw [hl,Nat.mul_one]
  obtain ⟨u,hu⟩:∃ u,vs[j]?=some u:=⟨vs[j]'(by omega),List.getElem?_eq_getElem _⟩
  refine ⟨g,cap,u,hv,hc,?_,hn j u hu,hb⟩
  rw [cell_of_row _ _ _ _ _ _ hg,←Array.getElem?_toList]
  rw [←ht,Nat.mul_one,List.getElem?_take_of_lt (by omega)] at hu
  exact hu
theorem results_tct {fn:Func} {t p t2:Tmp} {ty:TypeId} (h:fn.results=#[.tmp t,.cell p ty,.tmp t2]) (tmps:Array Value) (w:World) (b:Nat) (et:TypeId) (cs:Array Value) (u u2:Value) (d:TypeDesc) (ht:tmps.getD t undef=u) (ht2:tmps.getD t2 undef=u2) (hp:tmps.getD p undef=.pointer (some ⟨b,0,none⟩)) (hg:w.heap[b]?=some (.cells cs et (0,0)))
  (hu:Tryz.prog.underlying ty=some d) (hd:d.isRow=true) (hi:(Tryz.prog.info? ty).map (·.size)=some cs.size) :
  (results fn tmps).run Tryz.prog w=.ok (.tuple #[u,.agg cs,u2]) w:=by
 have e:=run_loadVar_row w b et ty cs (0,0) d hg hu (by cases d <;> first|rfl|simp [TypeDesc.isRow] at hd) hi
 have ht':tmps[t]?.getD undef=u:=by simpa using ht
 have ht2':tmps[t2]?.getD undef=u2:=by simpa using ht2
 have hp':tmps[p]?.getD undef=.pointer (some ⟨b,0,none⟩):=by simpa using hp
 simp only [results,h]
 simp [Result.andThen,asAddr,e,ht',ht2',hp']
theorem pair_info {p:Option (Bs × Bs)} {ok:Bool} {pv:Array Value} {w:World} {B:Nat} (h:(p=none∧ok=false∧pv=noPair)∨∃ x y,p=some (x,y)∧ok=true∧PairOwn w B pv x y):(Tryz.prog.info? 33).map (·.size)=some pv.size∧2=pv.size∧pv.all (·.oneCell')=true:=by
 rcases h with ⟨_,_,rfl⟩|⟨x,y,_,_,pu,pq,rfl,ho1,ho2⟩
 ·exact ⟨info33,rfl,two_slices _ _ _ _ _ _⟩
 ·obtain ⟨a1,a2,rfl⟩:=owns_shape ho1
  obtain ⟨a3,a4,rfl⟩:=owns_shape ho2
  exact ⟨info33,rfl,two_slices _ _ _ _ _ _⟩
theorem fillP_snoc:∀ (l:List (Step × Bs)) (f:Nat→Nat→Bs) (x:Step × Bs),fillP f (l++[x])=mput (fillP f l) x.1.a x.1.b x.2
 | [],_,_=>rfl
 | y :: l,f,x=>fillP_snoc l (mput f y.1.a y.1.b y.2) x
theorem zip_take (way:List Step) (p:List Bs) (j:Nat) (h1:j<way.length) (h2:p.length=way.length):(way.zip p).take (j+1)=(way.zip p).take j++[(way.getD j ⟨0,0,false⟩,p.getD j [])]:=by
 have hz:j<(way.zip p).length:=by rw [List.length_zip];omega
 rw [List.take_succ_eq_append_getElem hz]
 simp [List.getElem_zip,List.getD_eq_getElem?_getD,List.getElem?_eq_getElem h1,List.getElem?_eq_getElem (show j<p.length by omega)]
theorem MapIs.apart {w wr:World} {b n:Nat} {f:Nat→Nat→Bs} (h:MapIs w b n f) (hm:Mv (fun k=>k=b) w wr) {g o:Nat} {v:Value} (hc:w.cell? ⟨g,o,none⟩=some v):wr.cell? ⟨g,o,none⟩=some v:=by
 refine (hm.cell (p:=⟨g,o,none⟩) (World.block_lt_of_cell? _ _ hc) (fun e=>?_)).trans hc
 obtain ⟨D,_,⟨es,c,hb,_⟩,_⟩:=h
 have e':g=b:=e
 subst e'
 unfold World.cell? at hc
 simp [hb] at hc
theorem info174s:(Tryz.prog.info? 174).map (·.size)=some 3:=by kernel_rfl
theorem info170s:(Tryz.prog.info? 170).map (·.size)=some 2:=by kernel_rfl
theorem WayIn.at {w:World} {a:Option Addr} {c:Nat} {way:List Step} {n:Nat} (h:WayIn w (.slice a n c) way) (j:Nat) (hj:j<way.length) :
  ∃ g off,a=some ⟨g,off,none⟩∧w.cell? ⟨g,off+j * 3,none⟩=some (.int .i64 (way.getD j ⟨0,0,false⟩).a)∧w.cell? ⟨g,off+j * 3+1,none⟩=some (.int .i64 (way.getD j ⟨0,0,false⟩).b)∧w.cell? ⟨g,off+j * 3+2,none⟩=some (.bool (way.getD j ⟨0,0,false⟩).right):=by
 obtain ⟨a',c',hv,_,h⟩:=h
 simp only [Value.slice.injEq] at hv
 obtain ⟨rfl,_,_⟩:=hv
 exact h j hj
theorem wayTree_bound (n m:Nat):∀ s∈wayTree n m,s.a≤n∧s.b≤n:=fun s hs=>by
 have hb:=wayDown_bound (treeStop m) (treeLeft m) 0 n n (Nat.zero_le _) (Nat.le_refl _)
 unfold wayTree at hs
 rcases List.mem_append.1 hs with h|h
 ·split at h
  ·rw [List.mem_singleton.1 h];exact hb.2
  ·cases h
 ·exact hb.1 s (List.mem_reverse.1 h)
theorem wayRec_bound (n i:Nat):∀ s∈wayRec n i,s.a≤n∧s.b≤n:=fun s hs =>
 (wayDown_bound recStop (recLeft i) 0 n n (Nat.zero_le _) (Nat.le_refl _)).1 s (List.mem_reverse.1 hs)
theorem MapIs.apartB {w wr:World} {b n:Nat} {f:Nat→Nat→Bs} (h:MapIs w b n f) (hm:Mv (fun k=>k=b) w wr) {g:Nat} {cs:Array Value} {t:TypeId} (hc:w.heap[g]?=some (.cells cs t (0,0))):wr.heap[g]?=some (.cells cs t (0,0)):=by
 refine (hm.block g (lt_of_heap hc) (fun e=>?_)).trans hc
 obtain ⟨D,_,⟨es,c,hb,_⟩,_⟩:=h
 have e':g=b:=e
 subst e'
 rw [hb] at hc
 cases hc
theorem wf_pos (i m:Nat) (h:i<m):¬ ((i:Int)<0)∧¬ ((m:Int)≤i):=by omega
set_option maxRecDepth 100000 in
set_option maxHeartbeats 6400000 in
theorem lift_any (k:Int) (rv tv:Value) (rec tree:List Bs) (m i n:Nat) (old leaf root:Bs) (w:World) (hr:HsIn w rv rec) (ht:HsIn w tv tree) (hn:n≤281474976710656) (him:i<m) (hmn:m≤n)
  (hlo:old.length=32) (hll:leaf.length=32) (hlr:root.length=32) (hrl:rec.length=(wayRec m i).length) (htl:tree.length=(wayTree n m).length) (hr32:∀ h∈rec,h.length=32) (ht32:∀ h∈tree,h.length=32)
  (hA:(liftA k m i leaf rec).sum=old) (hF:(tEnd k n m old tree).fresh.sum=root) (hO:(tEnd k n m old tree).old.sum=old) (he:EnvH w) :
  Calls Tryz.prog 147 #[.int .i64 k,.int .i64 m,hashV old,.int .i64 i,hashV leaf,rv,.int .i64 n,hashV root,tv] w fun e w' =>
   ∃ lv pv c,e=.returned (.tuple #[lv,.agg pv,.int .i64 c])∧Mv (fun _=>False) w w'∧LiftRes k n m i old leaf rec tree w w' lv pv c:=by
 have hlaw:=lift_law k n m i leaf old root rec tree hn him hmn hll hlo hrl htl hr32 ht32 hA hF hO
 have HCHAIN:=zh hlaw.1
 clear hlaw
 obtain ⟨rva,rvc,hrv⟩:=hr.shape
 subst hrv
 obtain ⟨tva,tvc,htv⟩:=ht.shape
 subst htv
 obtain ⟨oc,hoc⟩:=zg ((old.map byteV).toArray)
 obtain ⟨lc,hlc⟩:=zg ((leaf.map byteV).toArray)
 obtain ⟨rc,hrc⟩:=zg ((root.map byteV).toArray)
 rw [show hashV old=.agg oc by rw [hoc];rfl,show hashV leaf=.agg lc by rw [hlc];rfl,show hashV root=.agg rc by rw [hrc];rfl]
 have hno:=neq_self old oc hlo hoc
 have hnr:=neq_self root rc hlr hrc
 have HIO:Hid ((Tryz.prog.info? 34).map (·.size)=some oc.size):=zh (by rw [show oc.size=32 by rw [hoc];simp [hlo]];exact info34)
 have HIL:Hid ((Tryz.prog.info? 34).map (·.size)=some lc.size):=zh (by rw [show lc.size=32 by rw [hlc];simp [hll]];exact info34)
 have HIR:Hid ((Tryz.prog.info? 34).map (·.size)=some rc.size):=zh (by rw [show rc.size=32 by rw [hrc];simp [hlr]];exact info34)
 have hsz:sizedP m=true:=by unfold sizedP;exact decide_eq_true (by omega)
 have HRL:=zh hrl
 have HTL:=zh htl
 obtain ⟨L,hL⟩:=zg ((wayRec m i).length)
 obtain ⟨L2,hL2⟩:=zg ((wayTree n m).length)
 have hrl2:rec.length=L:=by rw [hrl,hL]
 have htl2:tree.length=L2:=by rw [htl,hL2]
 rw [hrl2,htl2]
 have hL48:L≤48:=by rw [hL];unfold wayRec;rw [List.length_reverse];exact wayDown_len _ _ 48 0 m (by omega) (by omega)
 have hL49:L2≤49:=by rw [hL2];exact wayTree_len n m hn
 have HL:=zh hL
 have HL2:=zh hL2
 have HRLL:=zh hrl2
 have HTLL:=zh htl2
 have HR:=zh hr
 have HT:=zh ht
 have HE:=zh he
 have HSA:=zh hA
 have HSF:=zh hF
 have HSO:=zh hO
 have HOC:=zh hoc
 have HLC:=zh hlc
 have HRC:=zh hrc
 have HLO:=zh hlo
 have HLL:=zh hll
 have HR32:=zh hr32
 have HT32:=zh ht32
 obtain ⟨w1',w2'⟩:=wf_pos i m him
 have hnm:¬ ((n:Int)<m):=by omega
 have hnx:¬ ((281474976710656:Int)<n):=by omega
 clear hrl htl hL hL2 hrl2 htl2 hr ht he hA hF hO hoc hlc hrc hlo hll hlr hr32 ht32
 go_enter Tryz.func147,Tryz.ntmps147
 go_upto_region 1 with fail
 obtain ⟨A,hAA⟩:=zg (w.heap.size)
 obtain ⟨A1,hA1⟩:=zg (A+1)
 obtain ⟨A2,hA2⟩:=zg (A1+1)
 obtain ⟨A3,hA3⟩:=zg (A2+1)
 have s1:(w.alloc (.cells oc 34)).heap.size=A1:=by rw [hA1,hAA];simp
 have s2:((w.alloc (.cells oc 34)).alloc (.cells lc 34)).heap.size=A2:=by rw [hA2,hA1,hAA];simp
 have s3:(((w.alloc (.cells oc 34)).alloc (.cells lc 34)).alloc (.cells rc 34)).heap.size=A3:=by rw [hA3,hA2,hA1,hAA];simp
 have b0:((((w.alloc (.cells oc 34)).alloc (.cells lc 34)).alloc (.cells rc 34)).alloc (.cells #[.slice none 0 0,.slice none 0 0] 33)).heap[A]?=some (.cells oc 34 (0,0)):=by
  rw [Below.heap_alloc _ _ _ (by omega),Below.heap_alloc _ _ _ (by omega),Below.heap_alloc _ _ _ (by omega),hAA];exact heap_alloc_new _ _
 have b1:((((w.alloc (.cells oc 34)).alloc (.cells lc 34)).alloc (.cells rc 34)).alloc (.cells #[.slice none 0 0,.slice none 0 0] 33)).heap[A1]?=some (.cells lc 34 (0,0)):=by
  rw [Below.heap_alloc _ _ _ (by omega),Below.heap_alloc _ _ _ (by omega),←s1];exact heap_alloc_new _ _
 have b2:((((w.alloc (.cells oc 34)).alloc (.cells lc 34)).alloc (.cells rc 34)).alloc (.cells #[.slice none 0 0,.slice none 0 0] 33)).heap[A2]?=some (.cells rc 34 (0,0)):=by
  rw [Below.heap_alloc _ _ _ (by omega),←s2];exact heap_alloc_new _ _
 have b3:((((w.alloc (.cells oc 34)).alloc (.cells lc 34)).alloc (.cells rc 34)).alloc (.cells #[.slice none 0 0,.slice none 0 0] 33)).heap[A3]?=some (.cells #[.slice none 0 0,.slice none 0 0] 33 (0,0)):=by
  rw [←s3];exact heap_alloc_new _ _
 have hm:Mv (fun _=>False) w ((((w.alloc (.cells oc 34)).alloc (.cells lc 34)).alloc (.cells rc 34)).alloc (.cells #[.slice none 0 0,.slice none 0 0] 33)):=((((Mv.refl _ _).alloc _).alloc _).alloc _).alloc _
 generalize hW1:(((w.alloc (.cells oc 34)).alloc (.cells lc 34)).alloc (.cells rc 34)).alloc (.cells #[.slice none 0 0,.slice none 0 0] 33)=w1
 rw [hW1] at b0 b1 b2 b3 hm
 rw [←hAA,←hA1,←hA2,←hA3]
 have B0:=zh b0
 have B1:=zh b1
 have B2:=zh b2
 have B3:=zh b3
 have M1:=zh hm
 have HAA:=zh (show A=w.heap.size∧A1=A+1∧A2=A+2∧A3=A+3 by omega)
 clear hW1 s1 s2 s3 b0 b1 b2 b3 hm hAA hA1 hA2 hA3
 go_upto_region 3 with (first|(go_at_call 89;refine (sized_any m w1).mono ?_;rintro e w' ⟨rfl,rfl⟩;rw [hsz]))
 go_upto_region 4 with (first|(go_at_call 145;refine (wayOf_any m i w1 (by omega) him).mono ?_;rintro e w2 ⟨v21,rfl,hown,hm2⟩;have M2:=zh (M1.out.trans hm2);have K2:=zh hm2;have O21:=zh hown;obtain ⟨wa,wcp,hsh⟩:=owns_shape hown;subst hsh;rw [←HL.out];clear hown hm2))
 go_upto_region 5 with (first|(go_at_call 90;refine (wayFrom_any n m w2 hn ⟨by omega,hmn⟩).mono ?_;rintro e w3 ⟨v22,rfl,hown,hm3⟩;have M3:=zh (M2.out.trans hm3);have K3:=zh (K2.out.trans hm3);have O22:=zh hown;have O21b:=zh (owns_mv O21.out hm3 (fun _ _ _ h=>h));obtain ⟨fa,fc,hsh⟩:=owns_shape hown;subst hsh;rw [←HL2.out];clear hown hm3))
 obtain ⟨SD,hSD⟩:=zg (w3.heap.size)
 obtain ⟨ta,hta⟩:=zg ((treeSeed n m).1)
 have htb:(treeSeed n m).2=m:=down_m m 0 n (by omega) hmn
 rw [←hta,htb,←hSD]
 have hma:Mv (fun _=>False) w3 (w3.alloc (.cells #[.int .i64 ta,.int .i64 m] 170)):=(Mv.refl _ _).alloc _
 have hsd:(w3.alloc (.cells #[.int .i64 ta,.int .i64 m] 170)).heap[SD]?=some (.cells #[.int .i64 ta,.int .i64 m] 170 (0,0)):=by rw [hSD];exact heap_alloc_new _ _
 generalize w3.alloc (.cells #[.int .i64 ta,.int .i64 m] 170)=w4 at hma hsd ⊢
 have M4:=zh (M3.out.trans hma)
 have K4:=zh (K3.out.trans hma)
 have SD4:=zh hsd
 have HTA:=zh hta
 have HTB:=zh htb
 have O21c:=zh (owns_mv O21b.out hma (fun _ _ _ h=>h))
 have O22b:=zh (owns_mv O22.out hma (fun _ _ _ h=>h))
 clear hma hsd hta htb hSD
 go_upto_region 7 with fail
 go_upto_region 8 with (first|(refine wpList_load_row rfl 34 (.tmp 13) rfl A1 rfl 34 lc (0,0) _ ((K4.out.block A1 (lt_of_heap B1.out) id).trans B1.out) Tryz.underlying34 rfl HIL.out ?_)|(go_at_call 146;have hcl:=climbed_any k (.slice rva L rvc) (.slice wa L wcp) rec (wayRec m i) leaf w1.heap.size w4 (by rw [HRLL.out] at HR;exact HR.out.mv M4.out (fun _ _ h=>h)) (by have:=O21c.out;rw [HL.out] at *;exact this) HRL.out (by rw [←HL.out];omega) HLL.out (HE.out.mv M4.out (fun _ h=>h.elim));rw [show hashV leaf=.agg lc by rw [HLC.out];rfl,←HL.out] at hcl;refine hcl.mono ?_;rintro e w5 ⟨v24,vs,rfl,hown,hnd,hm5⟩;have M5:=zh (M4.out.trans hm5);have K5:=zh (K4.out.trans hm5);have SD5:=zh ((hm5.block SD (lt_of_heap SD4.out) id).trans SD4.out);have O21d:=zh (owns_mv O21c.out hm5 (fun _ _ _ h=>h));have O22c:=zh (owns_mv O22b.out hm5 (fun _ _ _ h=>h));obtain ⟨ng,nc,nu,hsh,hncap,hcell,hnode,hng⟩:=climbed_last hown hnd L (Nat.le_refl _);subst hsh;have NC5:=zh hcell;have NU5:=zh (show NodeAt w5 nu (liftA k m i leaf rec) by unfold liftA;rw [←HL.out];exact hnode);have HNG:=zh hng;clear hcl hown hnd hm5 hcell hnode hng))
 go_upto_region 9 with (first|(refine wpList_load_row rfl 34 (.tmp 11) rfl A rfl 34 oc (0,0) _ ((K5.out.block A (lt_of_heap B0.out) id).trans B0.out) Tryz.underlying34 rfl HIO.out ?_)|(go_at_call 92;have hcl:=climbedTree_any k (.slice tva L2 tvc) tree n m old w5 (by rw [HTLL.out] at HT;exact HT.out.mv M5.out (fun _ _ h=>h)) hn ⟨by omega,hmn⟩ HTL.out HLO.out (HE.out.mv M5.out (fun _ h=>h.elim));rw [show hashV old=.agg oc by rw [HOC.out];rfl] at hcl;refine hcl.mono ?_;rintro e w6 ⟨fv,ov,MB,mc,rfl,hfv,hov,hMB,hmc,hmap,hm6⟩;obtain ⟨fty,fx,hfx⟩:=hfv.iface;subst hfx;obtain ⟨oty,ox,hox⟩:=hov.iface;subst hox;have M6:=zh (M5.out.trans hm6);have K6:=zh (K5.out.trans hm6);have SD6:=zh ((hm6.block SD (lt_of_heap SD5.out) id).trans SD5.out);have O21e:=zh (owns_mv O21d.out hm6 (fun _ _ _ h=>h));have O22d:=zh (owns_mv O22c.out hm6 (fun _ _ _ h=>h));have NC6:=zh ((hm6.cell (p:=⟨ng,L,none⟩) (World.block_lt_of_cell? _ _ NC5.out) id).trans NC5.out);have NU6:=zh (NU5.out.mv hm6);have FV6:=zh hfv;have OV6:=zh hov;have HMB:=zh hMB;have HMC:=zh hmc;have MP6:=zh hmap;clear hcl hfv hov hMB hmc hmap hm6))
 obtain ⟨T,hT⟩:=zg (w6.heap.size)
 have hma:Mv (fun _=>False) w6 (w6.alloc (.cells #[.iface fty fx,.iface oty ox,.map (some MB)] 180)):=(Mv.refl _ _).alloc _
 have hT6:(w6.alloc (.cells #[.iface fty fx,.iface oty ox,.map (some MB)] 180)).heap[T]?=some (.cells #[.iface fty fx,.iface oty ox,.map (some MB)] 180 (0,0)):=by rw [hT];exact heap_alloc_new _ _
 rw [←hT]
 generalize w6.alloc (.cells #[.iface fty fx,.iface oty ox,.map (some MB)] 180)=w7 at hma hT6 ⊢
 have M7:=zh (M6.out.trans hma)
 have K7:=zh (K6.out.trans hma)
 have T7:=zh hT6
 have SD7:=zh ((hma.block SD (lt_of_heap SD6.out) id).trans SD6.out)
 have O21f:=zh (owns_mv O21e.out hma (fun _ _ _ h=>h))
 have O22e:=zh (owns_mv O22d.out hma (fun _ _ _ h=>h))
 have NC7:=zh ((hma.cell (p:=⟨ng,L,none⟩) (World.block_lt_of_cell? _ _ NC6.out) id).trans NC6.out)
 have NU7:=zh (NU6.out.mv hma)
 have FV7:=zh (FV6.out.mv hma)
 have OV7:=zh (OV6.out.mv hma)
 have MP7:=zh (MP6.out.mv hma id)
 have B0g:=zh ((K7.out.block A (lt_of_heap B0.out) id).trans B0.out)
 have B2g:=zh ((K7.out.block A2 (lt_of_heap B2.out) id).trans B2.out)
 clear hma hT6 hT
 obtain ⟨nty,nx,hnx⟩:=NU7.out.iface
 subst hnx
 have HL1:Hid (∀ j v,oc.toList[j]?=some v→∀ W:World,W.heap[A]?=some (.cells oc 34 (0,0))→W.cell? ⟨A,0+j,none⟩=some v):=zh fun j v hv W hW=>by rw [cell_of_row _ _ _ _ _ _ hW,Nat.zero_add];simpa using hv
 have HL3:Hid (∀ j v,rc.toList[j]?=some v→∀ W:World,W.heap[A2]?=some (.cells rc 34 (0,0))→W.cell? ⟨A2,0+j,none⟩=some v):=zh fun j v hv W hW=>by rw [cell_of_row _ _ _ _ _ _ hW,Nat.zero_add];simpa using hv
 have HIOl:Hid ((Tryz.prog.info? 34).map (·.size)=some oc.toList.length):=zh HIO.out
 have HIRl:Hid ((Tryz.prog.info? 34).map (·.size)=some rc.toList.length):=zh HIR.out
 refine wp_region_noPanic ?_
 refine wp_region_held_drew (S:=(fun w'=>w'.heap[T]?=some (.cells #[.iface fty fx,.iface oty ox,.map (some MB)] 180 (0,0))∧w'.heap[A]?=some (.cells oc 34 (0,0))∧w'.heap[A2]?=some (.cells rc 34 (0,0))∧w'.cell? ⟨ng,L,none⟩=some (.iface nty nx))) (by kernel_rfl) (⟨T7.out,B0g.out,B2g.out,NC7.out⟩) (fun hHeld=>?_)
 refine zt 0 (.slice (some ⟨ng,0,none⟩) (L+1) nc) rfl (fun _ hS=>by go_simp) hHeld ?_
 try walk_nrm
 refine zt 1 (.slice (some ⟨ng,0,none⟩) (L+1) nc) rfl (fun _ hS=>by go_simp) hHeld ?_
 try walk_nrm
 refine zt 2 (.int .i64 (L+1:Nat)) rfl (fun _ hS=>by go_simp) hHeld ?_
 try walk_nrm
 refine zt 3 (.int .i64 L) rfl (fun _ hS=>by go_simp;exact IntWalk.i64_in _ (by omega)) hHeld ?_
 try walk_nrm
 refine zt 4 (.pointer (some ⟨ng,L,none⟩)) rfl (fun _ hS=>by have hb:¬ ((L:Int)+1≤L):=(by omega);go_simp) hHeld ?_
 try walk_nrm
 refine zt 5 (.iface nty nx) rfl (fun _ hS=>by have h4:=hS.2.2.2;go_simp) hHeld ?_
 try walk_nrm
 refine zj 7 (.agg oc) rfl (yieldsIf_load_mid (by rfl) 34 _ rfl A 0 rfl oc.toList _ (fun _ h=>fun j v hj=>HL1.out j v hj _ h.2.1) Tryz.underlying34 rfl HIOl.out) hHeld ?_
 try walk_nrm
 refine zo 6 rfl fun K' hK=>?_
 refine wp_sum 96 rfl _ (liftA k m i leaf rec) rfl (NU7.out.mv ((Mv.refl _ _).drew)) (fun w8 hm8=>?_)
 rw [HSA.out,show hashV old=.agg oc by rw [HOC.out];rfl]
 have Q8:=zh (((Mv.refl (fun _=>False) w7).drew).trans hm8)
 have hs:=And.intro ((hm8.block T (lt_of_heap hHeld.1) id).trans hHeld.1) (And.intro ((hm8.block A (lt_of_heap hHeld.2.1) id).trans hHeld.2.1) (And.intro ((hm8.block A2 (lt_of_heap hHeld.2.2.1) id).trans hHeld.2.2.1) ((hm8.cell (p:=⟨ng,L,none⟩) (World.block_lt_of_cell? _ _ hHeld.2.2.2) id).trans hHeld.2.2.2)))
 clear hm8
 refine hK.out _ _ hs (fun hHeld=>?_)
 clear hK K'
 try walk_nrm
 clear hs
 refine zt 8 (.bool false) rfl (fun _ hS=>by go_simp) hHeld ?_
 try walk_nrm
 refine zt 9 (.bool false) rfl (fun _ hS=>by go_simp) hHeld ?_
 try walk_nrm
 refine zt 10 (.pointer (some ⟨T,0,none⟩)) rfl (fun _ hS=>by go_simp) hHeld ?_
 try walk_nrm
 refine zt 11 (.iface fty fx) rfl (fun _ hS=>by have t0:=cell_of_heap hS.1 0 rfl;have t1:=cell_of_heap hS.1 1 rfl;go_simp) hHeld ?_
 try walk_nrm
 refine zj 13 (.agg rc) rfl (yieldsIf_load_mid (by rfl) 34 _ rfl A2 0 rfl rc.toList _ (fun _ h=>fun j v hj=>HL3.out j v hj _ h.2.2.1) Tryz.underlying34 rfl HIRl.out) hHeld ?_
 try walk_nrm
 refine zo 12 rfl fun K' hK=>?_
 refine wp_sum 102 rfl _ (tEnd k n m old tree).fresh rfl (FV7.out.mv Q8.out) (fun w9 hm9=>?_)
 rw [HSF.out,show hashV root=.agg rc by rw [HRC.out];rfl]
 have Q9:=zh (Q8.out.trans hm9)
 have hs:=And.intro ((hm9.block T (lt_of_heap hHeld.1) id).trans hHeld.1) (And.intro ((hm9.block A (lt_of_heap hHeld.2.1) id).trans hHeld.2.1) (And.intro ((hm9.block A2 (lt_of_heap hHeld.2.2.1) id).trans hHeld.2.2.1) ((hm9.cell (p:=⟨ng,L,none⟩) (World.block_lt_of_cell? _ _ hHeld.2.2.2) id).trans hHeld.2.2.2)))
 clear hm9
 refine hK.out _ _ hs (fun hHeld=>?_)
 clear hK K'
 try walk_nrm
 clear hs
 refine zt 14 (.bool false) rfl (fun _ hS=>by go_simp) hHeld ?_
 try walk_nrm
 refine zt 15 (.bool false) rfl (fun _ hS=>by go_simp) hHeld ?_
 try walk_nrm
 refine zt 16 (.bool false) rfl (fun _ hS=>by go_simp) hHeld ?_
 try walk_nrm
 refine zt 17 (.pointer (some ⟨T,1,none⟩)) rfl (fun _ hS=>by go_simp) hHeld ?_
 try walk_nrm
 refine zt 18 (.iface oty ox) rfl (fun _ hS=>by have t0:=cell_of_heap hS.1 0 rfl;have t1:=cell_of_heap hS.1 1 rfl;go_simp) hHeld ?_
 try walk_nrm
 refine zj 20 (.agg oc) rfl (yieldsIf_load_mid (by rfl) 34 _ rfl A 0 rfl oc.toList _ (fun _ h=>fun j v hj=>HL1.out j v hj _ h.2.1) Tryz.underlying34 rfl HIOl.out) hHeld ?_
 try walk_nrm
 refine zo 19 rfl fun K' hK=>?_
 refine wp_sum 109 rfl _ (tEnd k n m old tree).old rfl (OV7.out.mv Q9.out) (fun w10 hm10=>?_)
 rw [HSO.out,show hashV old=.agg oc by rw [HOC.out];rfl]
 have Q10:=zh (Q9.out.trans hm10)
 have hs:=And.intro ((hm10.block T (lt_of_heap hHeld.1) id).trans hHeld.1) (And.intro ((hm10.block A (lt_of_heap hHeld.2.1) id).trans hHeld.2.1) (And.intro ((hm10.block A2 (lt_of_heap hHeld.2.2.1) id).trans hHeld.2.2.1) ((hm10.cell (p:=⟨ng,L,none⟩) (World.block_lt_of_cell? _ _ hHeld.2.2.2) id).trans hHeld.2.2.2)))
 clear hm10
 refine hK.out _ _ hs (fun hHeld=>?_)
 clear hK K'
 try walk_nrm
 clear hs
 refine zt 21 (.bool false) rfl (fun _ hS=>by go_simp) hHeld ?_
 try walk_nrm
 refine zt 22 (.bool false) rfl (fun _ hS=>by go_simp) hHeld ?_
 try walk_nrm
 refine zd ?_
 have M10:=zh (M7.out.trans Q10.out)
 have K10:=zh (K7.out.trans Q10.out)
 have T10:=zh hHeld.1
 have SD10:=zh ((Q10.out.block SD (lt_of_heap SD7.out) id).trans SD7.out)
 have O21g:=zh (owns_mv O21f.out Q10.out (fun _ _ _ h=>h))
 have O22f:=zh (owns_mv O22e.out Q10.out (fun _ _ _ h=>h))
 have NC10:=zh hHeld.2.2.2
 have NU10:=zh (NU7.out.mv Q10.out)
 have OV10:=zh (OV7.out.mv Q10.out)
 have MP10:=zh (MP7.out.mv Q10.out id)
 clear hHeld
 go_upto_region 11 with fail
 have hncell:=NC10.out
 have ht1:=cell_of_heap T10.out 1 rfl
 have hb11:¬ ((L:Int)+1≤L):=by omega
 go_quiet (fail)
 rename_i nq
 have hq11:Mv (fun _=>False) w10 (w10.drewN nq):=Mv.drewN' (Mv.refl _ _) nq
 generalize w10.drewN nq=w11 at hq11 ⊢
 have M11:=zh (M10.out.trans hq11)
 have K11:=zh (K10.out.trans hq11)
 have T11:=zh ((hq11.block T (lt_of_heap T10.out) id).trans T10.out)
 have SD11:=zh ((hq11.block SD (lt_of_heap SD10.out) id).trans SD10.out)
 have O21h:=zh (owns_mv O21g.out hq11 (fun _ _ _ h=>h))
 have O22g:=zh (owns_mv O22f.out hq11 (fun _ _ _ h=>h))
 have NU11:=zh (NU10.out.mv hq11)
 have OV11:=zh (OV10.out.mv hq11)
 have MP11:=zh (MP10.out.mv hq11 id)
 clear hncell ht1 hq11
 go_step
 go_step
 go_step
 go_cut [] (fun wx=>liftD k n m i old leaf rec tree=none∧Mv (fun _=>False) w11 wx)
 case first =>
  go_wp2_with fail
  obtain ⟨S0,hS0⟩:=zg (w11.heap.size)
  have hma:Mv (fun _=>False) w11 (w11.alloc (.cells #[.int .i64 0,.int .i64 m] 170)):=(Mv.refl _ _).alloc _
  have hs0:(w11.alloc (.cells #[.int .i64 0,.int .i64 m] 170)).heap[S0]?=some (.cells #[.int .i64 0,.int .i64 m] 170 (0,0)):=by rw [hS0];exact heap_alloc_new _ _
  rw [←hS0]
  generalize w11.alloc (.cells #[.int .i64 0,.int .i64 m] 170)=w12 at hma hs0 ⊢
  have K12:=zh hma
  have SD12:=zh ((hma.block SD (lt_of_heap SD11.out) id).trans SD11.out)
  have NU12:=zh (NU11.out.mv hma)
  have OV12:=zh (OV11.out.mv hma)
  have S12:=zh hs0
  have HS0:=zh (show w11.heap.size≤S0 by rw [hS0];exact Nat.le_refl _)
  have HCH:Hid (Chain i m ta 0 (liftA k m i leaf rec) (tEnd k n m old tree).old):=zh (by rw [HTA.out];exact HCHAIN.out)
  have HDE:Hid (descP i m ta 0 (liftA k m i leaf rec) (tEnd k n m old tree).old=liftD k n m i old leaf rec tree):=zh (by unfold liftD;rw [HTA.out])
  clear hma hs0 hS0
  go_loopg [26,27,28] m (fun q va vb sp wr=>∃ (sa:Nat) (NA NB:Nd) (S:Nat),m - sa≤q∧sp=.pointer (some ⟨S,0,none⟩)∧wr.heap[S]?=some (.cells #[.int .i64 sa,.int .i64 m] 170 (0,0))∧w11.heap.size≤S∧NodeAt wr va NA∧NodeAt wr vb NB∧Chain i m ta sa NA NB∧descP i m ta sa NA NB=liftD k n m i old leaf rec tree∧sa≤i∧Mv (fun _=>False) w11 wr)
  case atStart=>exact ⟨0,_,_,S0,by omega,rfl,S12.out,HS0.out,NU12.out,OV12.out,HCH.out,HDE.out,Nat.zero_le _,K12.out⟩
  case round =>
   obtain ⟨sa,NA,NB,S,hq,rfl,hS,hSb,hna,hnb,hch,hde,hsi,hmr⟩:=hrel
   have HS:=zh hS
   have HSb:=zh hSb
   have HNA:=zh hna
   have HNB:=zh hnb
   have HCHr:=zh hch
   have HDEr:=zh hde
   have HMR:=zh hmr
   have hsd:=(hmr.block SD (lt_of_heap SD11.out) id).trans SD11.out
   have HSD:=zh hsd
   obtain ⟨aty,ax,hax⟩:=hna.iface
   subst hax
   obtain ⟨bty,bx,hbx⟩:=hnb.iface
   subst hbx
   have c0:=cell_of_heap hS 0 rfl
   have c1:=cell_of_heap hS 1 rfl
   have d0:=cell_of_heap hsd 0 rfl
   have d1:=cell_of_heap hsd 1 rfl
   clear hS hSb hna hnb hch hde hmr hsd
   by_cases hst:sa=ta
   ·go_wp2_with fail
    go_meet
    exact ⟨by rw [←HDEr.out,descP,if_pos (.inl hst)],HMR.out⟩
   ·have hch:=HCHr.out
    cases hch with
    | stop A B=>exact absurd rfl hst
    | go _ al ar bl br ha hb g1 g2 g3 g4 =>
     have HG4:=zh g4
     clear g4
     go_upto_region 15 with fail
     have hpj:=parts_joined al ar bl br ha hb _ _ wr HNA.out HNB.out
     have HPJ:=zh hpj
     clear hpj
     go_upto_region 16 with (first|(go_at_call 149;refine HPJ.out.mono ?_;rintro e wp ⟨pv,ok,rfl,hmp,hres⟩;have HRES:=zh hres;have MP:=zh hmp;have HPI:=zh (pair_info hres);clear hmp hres)|(refine wpList_store_row rfl 33 (.tmp 29) (.tmp 135) rfl wp.heap.size pv rfl rfl 33 _ (heap_alloc_new _ _) HPI.out.1 HPI.out.2.1 HPI.out.2.2 ?_))
     obtain ⟨PB,hPB⟩:=zg (wp.heap.size)
     have HW:Hid (∀ Z:Array Value,Mv (fun _=>False) wp ((wp.alloc (.cells Z 33)).setRow wp.heap.size pv)∧((wp.alloc (.cells Z 33)).setRow wp.heap.size pv).heap[PB]?=some (.cells pv 33 (0,0))):=zh fun Z=>⟨((Mv.refl _ _).alloc _).setRow (.inr (Nat.le_refl _)) _,by rw [hPB];exact setRow_heap _ _ _ _ _ _ (heap_alloc_new _ _)⟩
     generalize hW15:World.setRow _ _ _=w15
     obtain ⟨hm15,hp15⟩:=HW.out _
     rw [hW15] at hm15 hp15
     rw [←hPB]
     have MP15:=zh (MP.out.trans hm15)
     have HMA:=zh hm15
     have PB15:=zh hp15
     have MR15:=zh (HMR.out.trans (MP.out.trans hm15))
     have S15:=zh ((MP15.out.block S (lt_of_heap HS.out) id).trans HS.out)
     have NA15:=zh (HNA.out.mv MP15.out)
     have NB15:=zh (HNB.out.mv MP15.out)
     clear hW15 hm15 hp15 HW hPB c0 c1 d0 d1 HPI
     rcases HRES.out with ⟨hpn,rfl,rfl⟩|⟨x,y,hps,rfl,pu,pq,rfl,ho1,ho2⟩
     ·have HPN:=zh hpn
      clear hpn HRES HPJ
      have c0:=cell_of_heap S15.out 0 rfl
      have c1:=cell_of_heap S15.out 1 rfl
      go_upto_region 18 with fail
      have hcin:=cutN_in sa m g2
      by_cases hic:i<cutN sa m
      ·go_wp2_with (first|(go_at_call 194;refine (cut_any sa m g2 (by omega) w15).mono ?_;rintro e w16 ⟨rfl,hm16⟩;have M16:=zh (MR15.out.trans hm16);clear hm16))
       go_meet
       exact ⟨by rw [←HDEr.out,descP_go _ _ _ _ _ _ (by omega) g2,HPN.out];simp only [if_pos hic],M16.out⟩
      ·go_upto_region 19 with (first
        | (go_at_call 194;refine (cut_any sa m g2 (by omega) w15).mono ?_;rintro e w16 ⟨rfl,hm16⟩;have M16:=zh (MR15.out.trans hm16);have S16:=zh ((hm16.block S (lt_of_heap S15.out) id).trans S15.out);have NA16:=zh (NA15.out.mv hm16);have NB16:=zh (NB15.out.mv hm16);clear hm16 c0 c1))
       go_upto_region 20 with (first
        | (go_at_call 204;refine (children_joined al ar ha _ w16 NA16.out).mono ?_;rintro e w17 ⟨vl,vr,rfl,hm17,hn1,hn2⟩;have M17:=zh (M16.out.trans hm17);have S17:=zh ((hm17.block S (lt_of_heap S16.out) id).trans S16.out);have AR17:=zh hn2;have NB17:=zh (NB16.out.mv hm17);clear hm17 hn1 hn2))
       go_upto_region 21 with (first
        | (go_at_call 204;refine (children_joined bl br hb _ w17 NB17.out).mono ?_;rintro e w18 ⟨ul,ur,rfl,hm18,hn1,hn2⟩;have M18:=zh (M17.out.trans hm18);have S18:=zh ((hm18.block S (lt_of_heap S17.out) id).trans S17.out);have AR18:=zh (AR17.out.mv hm18);have BR18:=zh hn2;clear hm18 hn1 hn2))
       have c0:=cell_of_heap S18.out 0 rfl
       have c1:=cell_of_heap S18.out 1 rfl
       obtain ⟨S2,hS2⟩:=zg (w18.heap.size)
       go_upto_region 14 with fail
       have hma:Mv (fun _=>False) w18 (w18.alloc (.cells #[.int .i64 sa,.int .i64 m] 170)):=(Mv.refl _ _).alloc _
       have hs2:(w18.alloc (.cells #[.int .i64 sa,.int .i64 m] 170)).heap[S2]?=some (.cells #[.int .i64 sa,.int .i64 m] 170 (0,0)):=by rw [hS2];exact heap_alloc_new _ _
       rw [←hS2]
       generalize w18.alloc (.cells #[.int .i64 sa,.int .i64 m] 170)=w19 at hma hs2 ⊢
       have M19:=zh (M18.out.trans hma)
       have S19:=zh hs2
       have AR19:=zh (AR18.out.mv hma)
       have BR19:=zh (BR18.out.mv hma)
       have HS2:=zh (show w11.heap.size≤S2 by rw [hS2];exact M18.out.size)
       clear c0 c1 hma hs2 hS2
       have c0:=cell_of_heap S19.out 0 rfl
       have c1:=cell_of_heap S19.out 1 rfl
       go_wp2_with (first|(go_at_call 194;refine (cut_any sa m g2 (by omega) w19).mono ?_;rintro e w20 ⟨rfl,hm20⟩;have M20:=zh (M19.out.trans hm20);have S20:=zh ((hm20.block S2 (lt_of_heap S19.out) id).trans S19.out);have AR20:=zh (AR19.out.mv hm20);have BR20:=zh (BR19.out.mv hm20);have e0:=cell_of_heap S20.out 0 rfl;have ff:=free_of_heap S20.out 0;clear hm20 c0 c1))
       go_roundg (m - cutN sa m)
       case measure=>omega
       case rel =>
        have heqs:al.sum=bl.sum∧ar.sum=br.sum:=by
         apply Classical.byContradiction
         intro hne
         have h1:partsP (.joined al ar ha) (.joined bl br hb)=some (nodeB al.sum ar.sum,nodeB bl.sum br.sum):=if_neg hne
         rw [HPN.out] at h1;cases h1
        refine ⟨cutN sa m,ar,br,S2,Nat.le_refl _,rfl,(heap_setCell_same S20.out _).trans rfl,HS2.out,AR20.out.setCell S20.out (by decide) _,BR20.out.setCell S20.out (by decide) _,HG4.out heqs (by omega),?_,by omega,M20.out.setCell (.inr HS2.out) _⟩
        rw [←HDEr.out,descP_go _ _ _ _ _ _ (by omega) g2,HPN.out]
        simp only [if_neg hic]
        rfl
     ·have HPS:=zh hps
      have HO1:=zh ho1
      have HO2:=zh ho2
      clear hps ho1 ho2 HRES HPJ
      have HA3:Hid (w15.heap[A3]?=some (.cells #[.slice none 0 0,.slice none 0 0] 33 (0,0))):=zh (((K11.out.trans MR15.out).block A3 (lt_of_heap B3.out) id).trans B3.out)
      obtain ⟨a1,a2,hsh⟩:=owns_shape HO1.out
      subst hsh
      obtain ⟨a3,a4,hsh⟩:=owns_shape HO2.out
      subst hsh
      have p0:=cell_of_heap PB15.out 0 rfl
      have p1:=cell_of_heap PB15.out 1 rfl
      have r0:=cell_of_heap HA3.out 0 rfl
      have r1:=cell_of_heap HA3.out 1 rfl
      have z0:=free_of_heap HA3.out 0
      have z1:=free_of_heap HA3.out 1
      have HLT:Hid (A3<wr.heap.size):=zh (lt_of_heap (((K11.out.trans HMR.out).block A3 (lt_of_heap B3.out) id).trans B3.out))
      have hsome:liftD k n m i old leaf rec tree=some (x,y):=by rw [←HDEr.out,descP_go _ _ _ _ _ _ (by omega) g2,HPS.out]
      have HSOME:=zh hsome
      clear hsome
      go_upto_region 17 with fail
      go_region
      all_goals go_wp2_with fail
      all_goals
       refine bodyPost_ret (results_tct (fn:=Tryz.f147) rfl _ _ A3 33 #[.slice a1 x.length a2,.slice a3 y.length a4] (.slice none 0 0) (.int .i64 93) _ rfl rfl rfl ?hg Tryz.underlying33 rfl info33) rfl ?hp
       case hg=>exact (heap_setCell_same (heap_setCell_same HA3.out _) _).trans rfl
       case hp =>
        refine ⟨_,_,_,rfl,(((M11.out.trans MR15.out).setCell (.inr (show w.heap.size≤A3 by have:=HAA.out;omega)) _).setCell (.inr (show w.heap.size≤A3 by have:=HAA.out;omega)) _).drew,?_⟩
        unfold LiftRes
        rw [HSOME.out]
        have hbs:w.heap.size≤wr.heap.size:=by have:=M11.out.size;have:=HMR.out.size;omega
        refine ⟨rfl,rfl,_,_,rfl,owns_mono ?_ hbs,owns_mono ?_ hbs⟩
        ·exact owns_setCell (owns_setCell (owns_mv HO1.out HMA.out (fun _ _ _ h=>h)) A3 0 _ HLT.out) A3 1 _ HLT.out
        ·exact owns_setCell (owns_setCell (owns_mv HO2.out HMA.out (fun _ _ _ h=>h)) A3 0 _ HLT.out) A3 1 _ HLT.out
 case rest =>
  obtain ⟨hnone,hmc⟩:=hcut
  have HNONE:=zh hnone
  have M12:=zh (M11.out.trans hmc)
  have K12:=zh (K11.out.trans hmc)
  have T12:=zh ((hmc.block T (lt_of_heap T11.out) id).trans T11.out)
  have MP12:=zh (MP11.out.mv hmc id)
  have W21:=zh (WayIn.of_owns (by have:=owns_mv O21h.out hmc (fun _ _ _ h=>h);rw [HL.out] at *;exact this))
  have W22:=zh (WayIn.of_owns (by have:=owns_mv O22g.out hmc (fun _ _ _ h=>h);rw [HL2.out] at *;exact this))
  rw [←HL.out] at W21
  rw [←HL2.out] at W22
  have t2:=cell_of_heap T12.out 2 rfl
  clear hnone hmc
  go_wp2_with fail
  obtain ⟨KB,hKB⟩:=zg (wc.heap.size)
  have hma:Mv (fun _=>False) wc (wc.alloc (.cells #[.map (some MB)] 178)):=(Mv.refl _ _).alloc _
  have hkb:(wc.alloc (.cells #[.map (some MB)] 178)).heap[KB]?=some (.cells #[.map (some MB)] 178 (0,0)):=by rw [hKB];exact heap_alloc_new _ _
  rw [←hKB]
  generalize wc.alloc (.cells #[.map (some MB)] 178)=w13 at hma hkb ⊢
  have M13:=zh (M12.out.trans hma)
  have K13:=zh (K12.out.trans hma)
  have KB13:=zh hkb
  have MP13:=zh (MP12.out.mv hma id)
  have W21b:=zh (W21.out.mv hma)
  have W22b:=zh (W22.out.mv hma)
  have HT13:=zh (HT.out.mv M13.out (fun _ _ h=>h))
  have HR13:=zh (HR.out.mv M13.out (fun _ _ h=>h))
  have HMBw:=zh (show w.heap.size≤MB by have:=HMB.out;have:=M5.out.size;omega)
  clear hma hkb hKB t2
  go_loopw [160] (fun ix wr=>∃ (j:Nat),j≤L2∧ix=.int .i64 j∧MapIs wr MB (mc+j) (fillP (tHashes k n m old tree) (((wayTree n m).zip tree).take j))∧Mv (fun b=>b=MB) w13 wr) (fun ix _=>L2 - (intOf ix).toNat)
  case atStart=>exact ⟨0,by omega,rfl,by rw [List.take_zero];exact MP13.out,Mv.refl _ _⟩
  case round =>
   obtain ⟨j,hj,rfl,hmap,hmv⟩:=hrel
   by_cases hjn:j<L2
   ·obtain ⟨g,off,hg,a1,a2,a3⟩:=(W22b.out.at j (by rw [←HL2.out];exact hjn))
    obtain ⟨g2,off2,hg2,hpc,hh32,hcells⟩:=HsIn.at HT13.out j (by rw [HTLL.out];exact hjn)
    subst hg hg2
    obtain ⟨st,hst⟩:=zg ((wayTree n m).getD j ⟨0,0,false⟩)
    obtain ⟨hb,hhb⟩:=zg (tree.getD j [])
    rw [←hst] at a1 a2 a3
    rw [←hhb] at hh32 hcells
    obtain ⟨sa,sb,sr⟩:=st
    have HZ:Hid (((wayTree n m).zip tree).take (j+1)=((wayTree n m).zip tree).take j++[(⟨sa,sb,sr⟩,hb)]):=zh (by rw [zip_take _ _ j (by rw [←HL2.out];exact hjn) (by rw [HTLL.out,HL2.out]),←hst,←hhb])
    have HSB:Hid (sa≤281474976710656∧sb≤281474976710656):=zh (by have:=(wayTree_bound n m) ⟨sa,sb,sr⟩ (by rw [hst,List.getD_eq_getElem?_getD,List.getElem?_eq_getElem (show j<(wayTree n m).length by rw [←HL2.out];exact hjn)];exact List.getElem_mem _);simp only at this;omega)
    have b1:=MP13.out.apart (by first|exact hmv|exact HMV13.out.trans hmv) a1
    have b2:=MP13.out.apart (by first|exact hmv|exact HMV13.out.trans hmv) a2
    have b3:=MP13.out.apart (by first|exact hmv|exact HMV13.out.trans hmv) a3
    have HC3:Hid (∀ (t:Nat) v,[Value.int .i64 sa,.int .i64 sb,.bool sr][t]?=some v→wr.cell? ⟨g,off+j * 3+t,none⟩=some v):=zh fun t v hv=>by
     match t,hv with
     | 0,hv=>cases hv;exact b1
     | 1,hv=>cases hv;exact b2
     | 2,hv=>cases hv;exact b3
    obtain ⟨hc,hhc⟩:=zg (hb.map byteV)
    have hhl:hc.length=32:=by rw [hhc,List.length_map];exact hh32
    have HCC:Hid (∀ (t:Nat) u,hc[t]?=some u→wr.cell? ⟨g2,off2+j * 32+t,none⟩=some u):=zh fun t u hu=>MP13.out.apart (by first|exact hmv|exact HMV13.out.trans hmv) (hcells t u (by rw [←hhc];exact hu))
    have HVV:Hid (hashV hb=.agg hc.toArray):=zh (by rw [hhc];rfl)
    have HHL:=zh hhl
    have HH32:=zh hh32
    have HIH:Hid ((Tryz.prog.info? 34).map (·.size)=some hc.length):=zh (by rw [hhl];exact info34)
    have HKBr:Hid (wr.cell? ⟨KB,0,none⟩=some (.map (some MB))):=zh (MP13.out.apart (by first|exact hmv|exact HMV13.out.trans hmv) (cell_of_heap KB13.out 0 rfl))
    have HMP:=zh hmap
    have HMV:=zh hmv
    have hjc:(j:Int)<L2:=by omega
    have hLc:L2≤tvc:=by rw [←HTLL.out];exact hpc
    have hws:=hmv.size
    clear hmap hmv a1 a2 a3 b1 b2 b3 hcells hhc hhl hh32 hst hhb hpc
    go_upto_region 27 with (refine wpList_load_cellsAt rfl 174 (.tmp 163) rfl g (off+j * 3) rfl [.int .i64 sa,.int .i64 sb,.bool sr] _ HC3.out Tryz.underlying174 rfl info174s ?_)
    obtain ⟨SB2,hSB2⟩:=zg (wr.heap.size)
    have hma:Mv (fun _=>False) wr (wr.alloc (.cells #[.int .i64 sa,.int .i64 sb,.bool sr] 174)):=(Mv.refl _ _).alloc _
    have hsb:(wr.alloc (.cells #[.int .i64 sa,.int .i64 sb,.bool sr] 174)).heap[SB2]?=some (.cells #[.int .i64 sa,.int .i64 sb,.bool sr] 174 (0,0)):=by rw [hSB2];exact heap_alloc_new _ _
    rw [←hSB2]
    generalize wr.alloc (.cells #[.int .i64 sa,.int .i64 sb,.bool sr] 174)=wA at hma hsb ⊢
    have HSB2:=zh hsb
    have HMPA:=zh (HMP.out.mv hma id)
    have HMVA:=zh (HMV.out.trans (hma.mono (fun _ _ h=>h.elim)))
    have HKA:=zh ((hma.cell (p:=⟨KB,0,none⟩) (World.block_lt_of_cell? _ _ HKBr.out) id).trans HKBr.out)
    have HCA:Hid (∀ (t:Nat) u,hc[t]?=some u→wA.cell? ⟨g2,off2+j * 32+t,none⟩=some u):=zh fun t u hu=>(hma.cell (p:=⟨g2,off2+j * 32+t,none⟩) (World.block_lt_of_cell? _ _ (HCC.out t u hu)) id).trans (HCC.out t u hu)
    have HSC:Hid (∀ (t:Nat) v,[Value.int .i64 sa,.int .i64 sb][t]?=some v→wA.cell? ⟨SB2,0+t,none⟩=some v):=zh fun t v hv=>by
     match t,hv with
     | 0,hv=>cases hv;exact cell_of_heap hsb 0 rfl
     | 1,hv=>cases hv;exact cell_of_heap hsb 1 rfl
    clear hma hsb hSB2
    refine wp_region_noPanic ?_
    refine wp_region_held_drew (S:=(fun w'=>Mv (fun b=>b=MB) wA w')) (by kernel_rfl) ((Mv.refl _ _).drew) (fun hHeld=>?_)
    refine zt 0 (.map (some MB)) rfl (fun _ hS=>by have q:=HMPA.out.apart hS HKA.out;go_simp) hHeld ?_
    try walk_nrm
    refine zt 1 (.pointer (some ⟨SB2,0,none⟩)) rfl (fun _ hS=>by go_simp) hHeld ?_
    try walk_nrm
    refine zj 2 (.agg #[.int .i64 sa,.int .i64 sb]) rfl (yieldsIf_load_mid (by rfl) 170 _ rfl SB2 0 rfl [.int .i64 sa,.int .i64 sb] _ (fun _ h=>fun t v hv=>HMPA.out.apart h (HSC.out t v hv)) Tryz.underlying170 rfl info170s) hHeld ?_
    try walk_nrm
    refine zt 3 (.slice (some ⟨g2,off2,none⟩) L2 tvc) rfl (fun _ hS=>by go_simp) hHeld ?_
    try walk_nrm
    refine zt 4 (.int .i64 j) rfl (fun _ hS=>by go_simp) hHeld ?_
    try walk_nrm
    refine zt 5 (.pointer (some ⟨g2,off2+j * 32,none⟩)) rfl (fun _ hS=>by go_simp) hHeld ?_
    try walk_nrm
    refine zj 6 (.agg hc.toArray) rfl (yieldsIf_load_mid (by rfl) 34 _ rfl g2 (off2+j * 32) rfl hc _ (fun _ h=>fun t v hv=>HMPA.out.apart h (HCA.out t v hv)) Tryz.underlying34 rfl HIH.out) hHeld ?_
    try walk_nrm
    refine zo 7 rfl fun K' hK=>?_
    refine wp_insert (.tmp 165) (.tmp 167) (.tmp 171) (.inr rfl) sa sb hb rfl rfl (by rw [HVV.out];rfl) (show MapIs wA.drew MB (mc+j) _ from HMPA.out) (by have:=HMC.out;unfold maxLen;omega) HSB.out.1 HSB.out.2 HH32.out (fun wB hmp hg=>?_)
    have hmg:Mv (fun b=>b=MB) wA wB:=((Mv.refl _ _).drew).trans ((Mv.refl _ _).grown hg (fun k hk=>.inl (by cases hk;rfl)))
    have HMPB:Hid (MapIs wB MB (mc+(j+1)) (fillP (tHashes k n m old tree) (((wayTree n m).zip tree).take (j+1)))):=zh (by rw [HZ.out,fillP_snoc];exact hmp)
    have HMVB:=zh (HMVA.out.trans hmg)
    clear hmp hg
    refine hK.out _ _ hmg (fun hHeld=>?_)
    clear hK K'
    try walk_nrm
    clear hmg hHeld
    refine zd ?_
    go_wp2_with fail
    go_roundw
    case rel=>exact ⟨j+1,by omega,by go_num,HMPB.out,HMVB.out⟩
    case measure=>simp [intOf];omega
   ·have hjn2:L2=j:=by omega
    subst hjn2
    have hfull:((wayTree n m).zip tree).take L2=(wayTree n m).zip tree:=List.take_of_length_le (by rw [List.length_zip,←HL2.out];omega)
    rw [hfull] at hmap
    have MP14:=zh hmap
    have MV14:=zh hmv
    clear hmap hmv hfull
    rename World=>w14
    have HMV13:=zh MV14.out
    go_wp2_with fail
    go_loopw [175] (fun ix wr=>∃ (j:Nat),j≤L∧ix=.int .i64 j∧MapIs wr MB (mc+L2+j) (fillP (fillP (tHashes k n m old tree) ((wayTree n m).zip tree)) (((wayRec m i).zip rec).take j))∧Mv (fun b=>b=MB) w14 wr) (fun ix _=>L - (intOf ix).toNat)
    case atStart=>exact ⟨0,by omega,rfl,by rw [List.take_zero];exact MP14.out,Mv.refl _ _⟩
    case round =>
     obtain ⟨j,hj,rfl,hmap,hmv⟩:=hrel
     by_cases hjn:j<L
     ·obtain ⟨g,off,hg,a1,a2,a3⟩:=(W21b.out.at j (by rw [←HL.out];exact hjn))
      obtain ⟨g2,off2,hg2,hpc,hh32,hcells⟩:=HsIn.at HR13.out j (by rw [HRLL.out];exact hjn)
      subst hg hg2
      obtain ⟨st,hst⟩:=zg ((wayRec m i).getD j ⟨0,0,false⟩)
      obtain ⟨hb,hhb⟩:=zg (rec.getD j [])
      rw [←hst] at a1 a2 a3
      rw [←hhb] at hh32 hcells
      obtain ⟨sa,sb,sr⟩:=st
      have HZ:Hid (((wayRec m i).zip rec).take (j+1)=((wayRec m i).zip rec).take j++[(⟨sa,sb,sr⟩,hb)]):=zh (by rw [zip_take _ _ j (by rw [←HL.out];exact hjn) (by rw [HRLL.out,HL.out]),←hst,←hhb])
      have HSB:Hid (sa≤281474976710656∧sb≤281474976710656):=zh (by have:=(wayRec_bound m i) ⟨sa,sb,sr⟩ (by rw [hst,List.getD_eq_getElem?_getD,List.getElem?_eq_getElem (show j<(wayRec m i).length by rw [←HL.out];exact hjn)];exact List.getElem_mem _);simp only at this;omega)
      have b1:=MP13.out.apart (by first|exact hmv|exact HMV13.out.trans hmv) a1
      have b2:=MP13.out.apart (by first|exact hmv|exact HMV13.out.trans hmv) a2
      have b3:=MP13.out.apart (by first|exact hmv|exact HMV13.out.trans hmv) a3
      have HC3:Hid (∀ (t:Nat) v,[Value.int .i64 sa,.int .i64 sb,.bool sr][t]?=some v→wr.cell? ⟨g,off+j * 3+t,none⟩=some v):=zh fun t v hv=>by
       match t,hv with
       | 0,hv=>cases hv;exact b1
       | 1,hv=>cases hv;exact b2
       | 2,hv=>cases hv;exact b3
      obtain ⟨hc,hhc⟩:=zg (hb.map byteV)
      have hhl:hc.length=32:=by rw [hhc,List.length_map];exact hh32
      have HCC:Hid (∀ (t:Nat) u,hc[t]?=some u→wr.cell? ⟨g2,off2+j * 32+t,none⟩=some u):=zh fun t u hu=>MP13.out.apart (by first|exact hmv|exact HMV13.out.trans hmv) (hcells t u (by rw [←hhc];exact hu))
      have HVV:Hid (hashV hb=.agg hc.toArray):=zh (by rw [hhc];rfl)
      have HHL:=zh hhl
      have HH32:=zh hh32
      have HIH:Hid ((Tryz.prog.info? 34).map (·.size)=some hc.length):=zh (by rw [hhl];exact info34)
      have HKBr:Hid (wr.cell? ⟨KB,0,none⟩=some (.map (some MB))):=zh (MP13.out.apart (by first|exact hmv|exact HMV13.out.trans hmv) (cell_of_heap KB13.out 0 rfl))
      have HMP:=zh hmap
      have HMV:=zh hmv
      have hjc:(j:Int)<L:=by omega
      have hLc:L≤rvc:=by rw [←HRLL.out];exact hpc
      have hws:=hmv.size
      clear hmap hmv a1 a2 a3 b1 b2 b3 hcells hhc hhl hh32 hst hhb hpc
      go_upto_region 32 with (refine wpList_load_cellsAt rfl 174 (.tmp 178) rfl g (off+j * 3) rfl [.int .i64 sa,.int .i64 sb,.bool sr] _ HC3.out Tryz.underlying174 rfl info174s ?_)
      obtain ⟨SB2,hSB2⟩:=zg (wr.heap.size)
      have hma:Mv (fun _=>False) wr (wr.alloc (.cells #[.int .i64 sa,.int .i64 sb,.bool sr] 174)):=(Mv.refl _ _).alloc _
      have hsb:(wr.alloc (.cells #[.int .i64 sa,.int .i64 sb,.bool sr] 174)).heap[SB2]?=some (.cells #[.int .i64 sa,.int .i64 sb,.bool sr] 174 (0,0)):=by rw [hSB2];exact heap_alloc_new _ _
      rw [←hSB2]
      generalize wr.alloc (.cells #[.int .i64 sa,.int .i64 sb,.bool sr] 174)=wA at hma hsb ⊢
      have HSB2:=zh hsb
      have HMPA:=zh (HMP.out.mv hma id)
      have HMVA:=zh (HMV.out.trans (hma.mono (fun _ _ h=>h.elim)))
      have HKA:=zh ((hma.cell (p:=⟨KB,0,none⟩) (World.block_lt_of_cell? _ _ HKBr.out) id).trans HKBr.out)
      have HCA:Hid (∀ (t:Nat) u,hc[t]?=some u→wA.cell? ⟨g2,off2+j * 32+t,none⟩=some u):=zh fun t u hu=>(hma.cell (p:=⟨g2,off2+j * 32+t,none⟩) (World.block_lt_of_cell? _ _ (HCC.out t u hu)) id).trans (HCC.out t u hu)
      have HSC:Hid (∀ (t:Nat) v,[Value.int .i64 sa,.int .i64 sb][t]?=some v→wA.cell? ⟨SB2,0+t,none⟩=some v):=zh fun t v hv=>by
       match t,hv with
       | 0,hv=>cases hv;exact cell_of_heap hsb 0 rfl
       | 1,hv=>cases hv;exact cell_of_heap hsb 1 rfl
      clear hma hsb hSB2
      refine wp_region_noPanic ?_
      refine wp_region_held_drew (S:=(fun w'=>Mv (fun b=>b=MB) wA w')) (by kernel_rfl) ((Mv.refl _ _).drew) (fun hHeld=>?_)
      refine zt 0 (.map (some MB)) rfl (fun _ hS=>by have q:=HMPA.out.apart hS HKA.out;go_simp) hHeld ?_
      try walk_nrm
      refine zt 1 (.pointer (some ⟨SB2,0,none⟩)) rfl (fun _ hS=>by go_simp) hHeld ?_
      try walk_nrm
      refine zj 2 (.agg #[.int .i64 sa,.int .i64 sb]) rfl (yieldsIf_load_mid (by rfl) 170 _ rfl SB2 0 rfl [.int .i64 sa,.int .i64 sb] _ (fun _ h=>fun t v hv=>HMPA.out.apart h (HSC.out t v hv)) Tryz.underlying170 rfl info170s) hHeld ?_
      try walk_nrm
      refine zt 3 (.slice (some ⟨g2,off2,none⟩) L rvc) rfl (fun _ hS=>by go_simp) hHeld ?_
      try walk_nrm
      refine zt 4 (.int .i64 j) rfl (fun _ hS=>by go_simp) hHeld ?_
      try walk_nrm
      refine zt 5 (.pointer (some ⟨g2,off2+j * 32,none⟩)) rfl (fun _ hS=>by go_simp) hHeld ?_
      try walk_nrm
      refine zj 6 (.agg hc.toArray) rfl (yieldsIf_load_mid (by rfl) 34 _ rfl g2 (off2+j * 32) rfl hc _ (fun _ h=>fun t v hv=>HMPA.out.apart h (HCA.out t v hv)) Tryz.underlying34 rfl HIH.out) hHeld ?_
      try walk_nrm
      refine zo 7 rfl fun K' hK=>?_
      refine wp_insert (.tmp 180) (.tmp 182) (.tmp 186) (.inr rfl) sa sb hb rfl rfl (by rw [HVV.out];rfl) (show MapIs wA.drew MB (mc+L2+j) _ from HMPA.out) (by have:=HMC.out;unfold maxLen;omega) HSB.out.1 HSB.out.2 HH32.out (fun wB hmp hg=>?_)
      have hmg:Mv (fun b=>b=MB) wA wB:=((Mv.refl _ _).drew).trans ((Mv.refl _ _).grown hg (fun k hk=>.inl (by cases hk;rfl)))
      have HMPB:Hid (MapIs wB MB (mc+L2+(j+1)) (fillP (fillP (tHashes k n m old tree) ((wayTree n m).zip tree)) (((wayRec m i).zip rec).take (j+1)))):=zh (by rw [HZ.out,fillP_snoc];exact hmp)
      have HMVB:=zh (HMVA.out.trans hmg)
      clear hmp hg
      refine hK.out _ _ hmg (fun hHeld=>?_)
      clear hK K'
      try walk_nrm
      clear hmg hHeld
      refine zd ?_
      go_wp2_with fail
      go_roundw
      case rel=>exact ⟨j+1,by omega,by go_num,HMPB.out,HMVB.out⟩
      case measure=>simp [intOf];omega
     ·have hjn2:L=j:=by omega
      subst hjn2
      have hfull:((wayRec m i).zip rec).take L=(wayRec m i).zip rec:=List.take_of_length_le (by rw [List.length_zip,←HL.out];omega)
      rw [hfull] at hmap
      have MP15:=zh hmap
      have MV15:=zh hmv
      clear hmap hmv hfull
      rename World=>w15
      have HMV15:=zh (HMV13.out.trans MV15.out)
      have KB15:=zh (MP13.out.apartB HMV15.out KB13.out)
      have B3f:=zh (MP13.out.apartB HMV15.out ((K13.out.block A3 (lt_of_heap B3.out) id).trans B3.out))
      have MPK:Hid (MapIs w15 MB (mc+L2+L) (knownP k n m i old rec tree)):=zh MP15.out
      have hmf:∀ (fn:Fn) (first cap:Array Value) (w:World),(Instr.makeFunc fn first cap).run Tryz.prog w=.ok (.func fn first cap) w:=fun _ _ _ _=>rfl
      go_wp2_with (first|(go_at_call 205;refine (wayOfHash_any n i KB MB (mc+L2+L) (knownP k n m i old rec tree) w15 hn (by omega) KB15.out MPK.out).mono ?_;rintro e w16 ⟨lv,rfl,hown,hm16⟩;have O16:=zh hown;have M16:=zh hm16;have B3g:=zh ((hm16.block A3 (lt_of_heap B3f.out) id).trans B3f.out);clear hown hm16)|(refine wpList_store_row rfl 33 (.tmp 19) (.tmp 192) rfl A3 #[.slice none 0 0,.slice none 0 0] rfl rfl 33 _ B3g.out info33 rfl (two_slices _ _ _ _ _ _) ?_))
      refine bodyPost_ret (results_tct (fn:=Tryz.f147) rfl _ _ A3 33 #[.slice none 0 0,.slice none 0 0] lv (.int .i64 0) _ rfl rfl rfl (setRow_heap _ _ _ _ _ _ B3g.out) Tryz.underlying33 rfl info33) rfl ?_
      refine ⟨lv,noPair,0,rfl,((M13.out.trans' HMV15.out (fun i hi h=>by have:=HMBw.out;omega)).trans M16.out).setRow (.inr (by have:=HAA.out;omega)) _,?_⟩
      unfold LiftRes
      rw [HNONE.out]
      have hb15:w.heap.size≤w15.heap.size:=by have:=M13.out.size;have:=HMV15.out.size;omega
      have hset:Mv (fun k=>k=A3) w16 (w16.setRow A3 #[.slice none 0 0,.slice none 0 0]):=(Mv.refl (fun k=>k=A3) _).setRow (.inl rfl) _
      have hF:∀ b,b=A3→b<w16.heap.size→∃ C,w16.heap[b]?=some (.cells C 33 (0,0)):=fun b e _=>⟨_,(congrArg (fun z=>w16.heap[z]?) e).trans B3g.out⟩
      exact ⟨rfl,rfl,owns_mono (owns_mvE O16.out hset hF (by decide)) hb15⟩
end Go.Proofs.YtdfdikpklddnhaaGreatDoor
