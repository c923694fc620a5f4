/- Of the proof of EvidenceJudges, second form: for values of bulk at most 1048576. (Ej47) -/
import Derived.Test.YtdfdikpklddnhaaGreatDoorEj01
import Derived.Test.YtdfdikpklddnhaaGreatDoorEj45
import Derived.Test.YtdfdikpklddnhaaGreatDoorEj42
import Derived.Test.YtdfdikpklddnhaaGreatDoorEj44
namespace Go.Proofs.YtdfdikpklddnhaaGreatDoor
open Go.RowKit
set_option linter.unusedSimpArgs false
set_option maxRecDepth 100000 in
set_option maxHeartbeats 1600000 in
theorem together_any (k:Int) (pv:Value) (p:List Bs) (h o:HeadP) (w:World) (hp:HsIn w pv p) (hh:h.root.length=32) (ho:o.root.length=32) (he:EnvH w) :
  Calls Tryz.prog 28 #[.int .i64 k,pv,.agg h.V.toArray,.agg o.V.toArray] w fun e w'=>e=.returned (.bool (linkedP k p h o))∧Mv (fun _=>False) w w':=by
 obtain ⟨pa,pc,hsh⟩:=hp.shape
 subst hsh
 have HP:=zh hp
 have HE:=zh he
 obtain ⟨lp,hlp⟩:=zg (p.length)
 rw [←hlp] at HP ⊢
 have HLP:=zh hlp
 obtain ⟨hv,hhv⟩:=zg (h.V.toArray)
 obtain ⟨ov,hov⟩:=zg (o.V.toArray)
 rw [←hhv,←hov]
 obtain ⟨A,hA⟩:=zg (w.heap.size)
 have h1:((w.alloc (.cells hv 36)).alloc (.cells ov 36)).heap[w.heap.size]?=some (.cells hv 36 (0,0)):=(Below.heap_alloc _ _ _ (by simp)).trans (heap_alloc_new _ _)
 have h2:((w.alloc (.cells hv 36)).alloc (.cells ov 36)).heap[w.heap.size+1]?=some (.cells ov 36 (0,0)):=by
  rw [show w.heap.size+1=(w.alloc (.cells hv 36)).heap.size by simp];exact heap_alloc_new _ _
 have hm:Mv (fun _=>False) w ((w.alloc (.cells hv 36)).alloc (.cells ov 36)):=((Mv.refl _ _).alloc _).alloc _
 have HIHV:Hid ((Tryz.prog.info? 36).map (·.size)=some hv.size):=zh (by rw [hhv,List.size_toArray,HeadP.V_len _ hh];exact info36)
 have HIOV:Hid ((Tryz.prog.info? 36).map (·.size)=some ov.size):=zh (by rw [hov,List.size_toArray,HeadP.V_len _ ho];exact info36)
 have HHV:=zh hhv
 have HOV:=zh hov
 have HH:=zh hh
 have HO:=zh ho
 clear hp he hhv hov hh ho hlp
 go_enter Tryz.func28,Tryz.ntmps28
 go_upto_region 1 with fail
 generalize hW1:(w.alloc (.cells hv 36)).alloc (.cells ov 36)=W1
 rw [hW1] at h1 h2 hm
 rw [←hA] at h1 h2 ⊢
 have H1:=zh h1
 have H2:=zh h2
 rw [HHV.out] at h1
 rw [HOV.out] at h2
 obtain ⟨a0,a1,a2⟩:=head_cells h1
 obtain ⟨b0,b1,b2⟩:=head_cells h2
 obtain ⟨hr,hhr⟩:=zg (h.root.map byteV)
 obtain ⟨orr,hor⟩:=zg (o.root.map byteV)
 rw [←hhr] at a2
 rw [←hor] at b2
 have HA2:=zh a2
 have HB2:=zh b2
 have HIH:Hid ((Tryz.prog.info? 34).map (·.size)=some hr.length):=zh (by rw [hhr,List.length_map,HH.out];exact info34)
 have HIO:Hid ((Tryz.prog.info? 34).map (·.size)=some orr.length):=zh (by rw [hor,List.length_map,HO.out];exact info34)
 have heq:=hash_eql h.root o.root HH.out HO.out
 rw [←hhr,←hor] at heq
 have HM:=zh hm
 obtain ⟨hn,hhn⟩:=zg (h.n)
 obtain ⟨on,hon⟩:=zg (o.n)
 rw [←hhn] at a1
 rw [←hon] at b1
 have HHN:=zh hhn
 have HON:=zh hon
 clear hW1 h1 h2 hm hA a2 b2 hhn hon
 have HHR:=zh hhr
 have HOR:=zh hor
 clear hhr hor
 by_cases hno:hn=on
 ·subst hno
  by_cases hz:lp=0
  ·subst hz
   go_wp2_with (((with_reducible refine wpList_load_cellsAtG 34 (.tmp 18) ?_ A 2 ?_ hr _ HA2.out Tryz.underlying34 ?_ HIH.out ?_ ?_);rfl;rfl;rfl;rfl);go_wp2_with (((with_reducible refine wpList_load_cellsAtG 34 (.tmp 20) ?_ (A+1) 2 ?_ orr _ HB2.out Tryz.underlying34 ?_ HIO.out ?_ ?_);rfl;rfl;rfl;rfl);go_wp2_with fail))
   go_ret
   refine ⟨?_,HM.out⟩
   unfold linkedP
   rw [if_pos (by rw [←HHN.out,←HON.out]),←HLP.out];rfl
  ·have hzi:¬ ((lp:Int)=0):=by omega
   go_wp2_with fail
   go_ret
   refine ⟨?_,HM.out⟩
   unfold linkedP
   rw [if_pos (by rw [←HHN.out,←HON.out]),←HLP.out]
   have:(lp == 0)=false:=by simpa using hz
   rw [this];rfl
 ·by_cases hlt:hn<on
  ·clear heq
   go_wp2_with (((with_reducible refine wpList_load_cellsAt ?_ 34 (.tmp 33) ?_ (A+1) 2 ?_ orr _ HB2.out Tryz.underlying34 ?_ HIO.out ?_);rfl;rfl;rfl;rfl);go_wp2_with (((with_reducible refine wpList_load_cellsAt ?_ 34 (.tmp 37) ?_ A 2 ?_ hr _ HA2.out Tryz.underlying34 ?_ HIH.out ?_);rfl;rfl;rfl;rfl);go_wp2_with ((go_at_call 23;have hck:=checkTree_any k o.n h.n (.slice pa lp pc) p o.root h.root W1 (HP.out.mv HM.out (fun _ _ h=>h)) HO.out HH.out (HE.out.mv HM.out (fun _ h=>h.elim));rw [show hashV h.root=.agg hr.toArray by rw [HHR.out];rfl,show hashV o.root=.agg orr.toArray by rw [HOR.out];rfl,←HHN.out,←HON.out] at hck;refine hck.mono ?_;rintro e w2 ⟨rfl,hm2⟩;have HM2:=zh (HM.out.trans hm2);have HC:Hid (goesP k p o h=(treeAns k on hn o.root h.root p == 0)):=zh (by unfold goesP;rw [HHN.out,HON.out]);obtain ⟨c,hc⟩:=zg (treeAns k on hn o.root h.root p);rw [←hc] at HC ⊢;clear hck hm2 hc);go_wp2_with fail)))
   go_ret
   refine ⟨?_,HM2.out⟩
   unfold linkedP
   rw [if_neg (by rw [←HHN.out,←HON.out];exact hno),if_neg (by rw [←HHN.out,←HON.out];omega),HC.out];rfl
  ·clear heq
   go_wp2_with (((with_reducible refine wpList_load_cellsAt ?_ 34 (.tmp 45) ?_ A 2 ?_ hr _ HA2.out Tryz.underlying34 ?_ HIH.out ?_);rfl;rfl;rfl;rfl);go_wp2_with (((with_reducible refine wpList_load_cellsAt ?_ 34 (.tmp 49) ?_ (A+1) 2 ?_ orr _ HB2.out Tryz.underlying34 ?_ HIO.out ?_);rfl;rfl;rfl;rfl);go_wp2_with ((go_at_call 23;have hck:=checkTree_any k h.n o.n (.slice pa lp pc) p h.root o.root W1 (HP.out.mv HM.out (fun _ _ h=>h)) HH.out HO.out (HE.out.mv HM.out (fun _ h=>h.elim));rw [show hashV h.root=.agg hr.toArray by rw [HHR.out];rfl,show hashV o.root=.agg orr.toArray by rw [HOR.out];rfl,←HHN.out,←HON.out] at hck;refine hck.mono ?_;rintro e w2 ⟨rfl,hm2⟩;have HM2:=zh (HM.out.trans hm2);have HC:Hid (goesP k p h o=(treeAns k hn on h.root o.root p == 0)):=zh (by unfold goesP;rw [HHN.out,HON.out]);obtain ⟨c,hc⟩:=zg (treeAns k hn on h.root o.root p);rw [←hc] at HC ⊢;clear hck hm2 hc);go_wp2_with fail)))
   go_ret
   refine ⟨?_,HM2.out⟩
   unfold linkedP
   rw [if_neg (by rw [←HHN.out,←HON.out];exact hno),if_pos (by rw [←HHN.out,←HON.out];omega),HC.out];rfl
theorem alike_bytes {k:Int} {a b:Bs} (h:Alike k a b) (j:Nat) (hj:j<effK k):(sha a)[j]?=(sha b)[j]?:=by
 have e:=h.2
 unfold weakL at e
 have h1:∀ x:Bs,(sha x).length=32:=sha_length
 have h2:=(effK_range k).2
 have e2:(List.take (effK k) (sha a)++List.replicate (32 - effK k) 0)[j]?=(List.take (effK k) (sha b)++List.replicate (32 - effK k) 0)[j]?:=congrArg (fun l:Bs=>l[j]?) e
 rw [List.getElem?_append_left (by rw [List.length_take,h1];omega),List.getElem?_append_left (by rw [List.length_take,h1];omega),List.getElem?_take_of_lt hj,List.getElem?_take_of_lt hj] at e2
 exact e2
theorem kept_any (k:Int) (w:World):Calls Tryz.prog 102 #[.int .i64 k] w fun e w'=>e=.returned (.int .i64 (effK k:Nat))∧w=w':=by
 by_cases h1:1≤k
 ·by_cases h2:k≤31
  ·have e:(effK k:Int)=k:=by unfold effK;rw [if_pos ⟨h1,h2⟩];omega
   rw [e]
   clear e
   go_enter Tryz.func102,Tryz.ntmps102
   go_wp2_with fail
   go_ret
   exact ⟨rfl,rfl⟩
  ·have e:(effK k:Int)=32:=by unfold effK;rw [if_neg (by omega)];rfl
   rw [e]
   clear e
   go_enter Tryz.func102,Tryz.ntmps102
   go_wp2_with fail
   go_ret
   exact ⟨rfl,rfl⟩
 ·have e:(effK k:Int)=32:=by unfold effK;rw [if_neg (by omega)];rfl
  rw [e]
  clear e
  go_enter Tryz.func102,Tryz.ntmps102
  go_wp2_with fail
  go_ret
  exact ⟨rfl,rfl⟩
set_option maxRecDepth 100000 in
set_option maxHeartbeats 1600000 in
theorem lawCollides_any (k:Int) (av bv:Value) (a b:Bs) (w:World) (ha:SlIn w av a) (hb:SlIn w bv b) (hal:a.length≤1048576) (hbl:b.length≤1048576) (h:Alike k a b) (he:EnvH w) :
  Calls Tryz.prog 61 #[.int .i64 k,av,bv] w fun e w'=>e=.returned (.bool true)∧Mv (fun _=>False) w w':=by
 have c1:=conv_any av a w ha
 have c2:=conv_any bv b w hb
 have hab:(a == b)=false:=by simpa using h.1
 have HB:Hid (∀ j,j<effK k→(sha a)[j]?=(sha b)[j]?):=zh fun j hj=>alike_bytes h j hj
 have hK:=(effK_range k).2
 have HKK:=zh (kept_any k)
 obtain ⟨K,hKK⟩:=zg (effK k)
 rw [←hKK] at HB hK HKK
 have HA:=zh ha
 have HBV:=zh hb
 have HE:=zh he
 obtain ⟨sa,hsa⟩:=zg (((sha a).map byteV).toArray)
 obtain ⟨sb,hsb⟩:=zg (((sha b).map byteV).toArray)
 have HVA:Hid (hashV (sha a)=.agg sa):=zh (by rw [hsa];rfl)
 have HVB:Hid (hashV (sha b)=.agg sb):=zh (by rw [hsb];rfl)
 have HIA:Hid ((Tryz.prog.info? 34).map (·.size)=some sa.size):=zh (by rw [show sa.size=32 by rw [hsa];simp [sha_length]];exact info34)
 have HIB:Hid ((Tryz.prog.info? 34).map (·.size)=some sb.size):=zh (by rw [show sb.size=32 by rw [hsb];simp [sha_length]];exact info34)
 have HZA:Hid (32=sa.size):=zh (by rw [hsa];simp [sha_length])
 have HZB:Hid (32=sb.size):=zh (by rw [hsb];simp [sha_length])
 have HOA:Hid (sa.all (·.oneCell')=true):=zh (by rw [hsa];exact hash_one _)
 have HOB:Hid (sb.all (·.oneCell')=true):=zh (by rw [hsb];exact hash_one _)
 have HSA:=zh hsa
 have HSB:=zh hsb
 have HLL:Hid (a.length≤1099511627776∧b.length≤1099511627776):=zh (by omega)
 clear ha hb he hsa hsb h hKK hal hbl
 go_enter Tryz.func61,Tryz.ntmps61
 go_upto_region 3 with fail
 clear c1 c2
 go_upto_region 4 with ((go_at_call 77;refine (sum256_any av a w HA.out HLL.out.1 HE.out).mono ?_;rintro e w1 ⟨rfl,hm1⟩;rw [HVA.out];have M1:=zh hm1;clear hm1);go_upto_region 4 with (((with_reducible refine wpList_store_row ?_ 34 (.tmp 7) (.tmp 16) ?_ w1.heap.size sa ?_ ?_ 34 _ (heap_alloc_new _ _) HIA.out ?_ HOA.out ?_);rfl;rfl;rfl;rfl;exact HZA.out);go_upto_region 4 with fail))
 obtain ⟨X1,hX1⟩:=zg (w1.heap.size)
 have HW:Hid (∀ Z:Array Value,Mv (fun _=>False) w1 ((w1.alloc (.cells Z 34)).setRow w1.heap.size sa)∧((w1.alloc (.cells Z 34)).setRow w1.heap.size sa).heap[X1]?=some (.cells sa 34 (0,0))):=zh fun Z=>⟨((Mv.refl _ _).alloc _).setRow (.inr (Nat.le_refl _)) _,by rw [hX1];exact setRow_heap _ _ _ _ _ _ (heap_alloc_new _ _)⟩
 rw [←hX1]
 generalize hWn:World.setRow _ _ _=w2
 obtain ⟨hmn,hpn⟩:=HW.out _
 rw [←hX1,hWn] at hmn hpn
 have M2:=zh (M1.out.trans hmn)
 have X1B:=zh hpn
 clear hWn hmn hpn HW hX1
 go_upto_region 5 with ((go_at_call 77;refine (sum256_any bv b w2 (HBV.out.mv M2.out (fun _ _ h=>h)) HLL.out.2 (HE.out.mv M2.out (fun _ h=>h.elim))).mono ?_;rintro e w3 ⟨rfl,hm1⟩;rw [HVB.out];have M3:=zh (M2.out.trans hm1);have X1C:=zh ((hm1.block X1 (lt_of_heap X1B.out) id).trans X1B.out);clear hm1);go_upto_region 5 with (((with_reducible refine wpList_store_row ?_ 34 (.tmp 8) (.tmp 18) ?_ w3.heap.size sb ?_ ?_ 34 _ (heap_alloc_new _ _) HIB.out ?_ HOB.out ?_);rfl;rfl;rfl;rfl;exact HZB.out);go_upto_region 5 with fail))
 obtain ⟨X2,hX2⟩:=zg (w3.heap.size)
 have HW:Hid (∀ Z:Array Value,Mv (fun _=>False) w3 ((w3.alloc (.cells Z 34)).setRow w3.heap.size sb)∧((w3.alloc (.cells Z 34)).setRow w3.heap.size sb).heap[X2]?=some (.cells sb 34 (0,0))):=zh fun Z=>⟨((Mv.refl _ _).alloc _).setRow (.inr (Nat.le_refl _)) _,by rw [hX2];exact setRow_heap _ _ _ _ _ _ (heap_alloc_new _ _)⟩
 rw [←hX2]
 generalize hWn:World.setRow _ _ _=w4
 obtain ⟨hmn,hpn⟩:=HW.out _
 rw [←hX2,hWn] at hmn hpn
 have M4:=zh (M3.out.trans hmn)
 have X2B:=zh hpn
 have X1D:=zh ((hmn.block X1 (lt_of_heap X1C.out) id).trans X1C.out)
 clear hWn hmn hpn HW hX2
 go_wp2_with fail
 go_loopw [9] (fun ix wr=>∃ (j:Nat),j≤K∧ix=.int .i64 j∧Mv (fun _=>False) w4 wr) (fun ix _=>K - (intOf ix).toNat)
 case atStart=>exact ⟨0,by omega,rfl,Mv.refl _ _⟩
 case round =>
  obtain ⟨j,hj,rfl,hmv⟩:=hrel
  have HMV:=zh hmv
  by_cases hjn:j<K
  ·have hb:=HB.out j hjn
   obtain ⟨x,hx⟩:∃ x,(sha a)[j]?=some x:=⟨(sha a)[j]'(by rw [sha_length];omega),List.getElem?_eq_getElem _⟩
   have hx2:(sha b)[j]?=some x:=by rw [←hb];exact hx
   have x1:wr.cell? ⟨X1,j,none⟩=some (byteV x):=by
    rw [cell_of_row _ _ _ _ _ _ ((hmv.block X1 (lt_of_heap X1D.out) id).trans X1D.out),HSA.out];simp [hx]
   have x2:wr.cell? ⟨X2,j,none⟩=some (byteV x):=by
    rw [cell_of_row _ _ _ _ _ _ ((hmv.block X2 (lt_of_heap X2B.out) id).trans X2B.out),HSB.out];simp [hx2]
   unfold byteV at x1 x2
   obtain ⟨z,hz⟩:∃ z:Int,z=x.toNat:=⟨_,rfl⟩
   rw [←hz] at x1 x2
   have hjc:(j:Int)<K:=by omega
   have hj32:¬ ((32:Int)≤j):=by omega
   clear hb hx hx2 hz hmv
   go_upto_region 8 with (first|(go_at_call 102;refine (HKK.out _).mono ?_;rintro e w' ⟨rfl,rfl⟩))
   go_quiet (fail)
   rename_i nq
   have hq:=Mv.drewN' (Mv.refl (fun _=>False) wr) nq
   generalize wr.drewN nq=w5 at hq ⊢
   have HQ:=zh (HMV.out.trans hq)
   clear hq x1 x2
   go_wp2_with fail
   go_roundw
   case rel=>exact ⟨j+1,by omega,by go_num,HQ.out⟩
   case measure=>simp [intOf];omega
  ·have hjn2:K=j:=by omega
   subst hjn2
   clear hmv
   go_wp2_with (first|(go_at_call 102;refine (HKK.out _).mono ?_;rintro e w' ⟨rfl,rfl⟩))
   go_ret
   exact ⟨rfl,M4.out.trans HMV.out⟩
def collP (k:Int) (x y:Bs):Bool:=!(x == y) && ((sha x).take (effK k) == (sha y).take (effK k))
theorem take_slin {w:World} {X K:Nat} {l:Bs} {cs:Array Value} (hK:K≤32) (hl:l.length=32) (hc:cs=(l.map byteV).toArray) (h:w.heap[X]?=some (.cells cs 34 (0,0))):SlIn w (.slice (some ⟨X,0,none⟩) K 32) (l.take K):=by
 have e:(l.take K).length=K:=by rw [List.length_take];omega
 refine .inr ⟨X,0,32,by rw [e],by rw [e];exact hK,fun j b hj=>?_,lt_of_heap h⟩
 have hjK:j<K:=by have:=(List.getElem?_eq_some_iff.1 hj).1;omega
 rw [Nat.zero_add,cell_of_row _ _ _ _ _ _ h,hc]
 rw [List.getElem?_take_of_lt hjK] at hj
 simp [hj,byteV]
set_option maxRecDepth 100000 in
theorem slice_to (X K:Nat) (hK:K≤32) (W:World):(Instr.sliceAt 34 (.pointer (some ⟨X,0,none⟩)) none (some (.int .i64 (K:Int))) none).run Tryz.prog W=.ok (.slice (some ⟨X,0,none⟩) K 32) W:=by
 have hal:Tryz.prog.arrayLen 34=32:=by kernel_rfl
 have h:=run_sliceAt_array_h (P:=Tryz.prog) (w:=W) (t:=34) (a:=⟨X,0,none⟩) Tryz.underlying34 .i64 (K:Int) (by omega) (by rw [hal];omega)
 have hsz:∀ W,(sizeOf (Tryz.prog.elem 34)).run Tryz.prog W=.ok 1 W:=fun _=>by kernel_rfl
 rw [h,hsz,hal]
 simp [slicedAt,Result.andThen,addr_add]
set_option maxRecDepth 100000 in
set_option maxHeartbeats 6400000 in
theorem collidesG_any (k:Int) (pv qv:Value) (x y:Bs) (w:World) (hx:SlIn w pv x) (hy:SlIn w qv y) (hxl:x.length≤1048576) (hyl:y.length≤1048576) (he:EnvH w) :
  Calls Tryz.prog 41 #[.int .i64 k,.agg #[pv,qv]] w fun e w'=>e=.returned (.bool (collP k x y))∧Mv (fun _=>False) w w':=by
 obtain ⟨pa,pc,hsh⟩:=hx.shape0
 subst hsh
 obtain ⟨qa,qc,hsh⟩:=hy.shape0
 subst hsh
 have HX:=zh hx
 have HY:=zh hy
 have HE:=zh he
 obtain ⟨ans,hans⟩:=zg (collP k x y)
 have HANS:=zh hans
 rw [←hans]
 clear hans
 obtain ⟨sa,hsa⟩:=zg (((sha x).map byteV).toArray)
 obtain ⟨sb,hsb⟩:=zg (((sha y).map byteV).toArray)
 have HVA:Hid (hashV (sha x)=.agg sa):=zh (by rw [hsa];rfl)
 have HVB:Hid (hashV (sha y)=.agg sb):=zh (by rw [hsb];rfl)
 have HIA:Hid ((Tryz.prog.info? 34).map (·.size)=some sa.size):=zh (by rw [show sa.size=32 by rw [hsa];simp [sha_length]];exact info34)
 have HIB:Hid ((Tryz.prog.info? 34).map (·.size)=some sb.size):=zh (by rw [show sb.size=32 by rw [hsb];simp [sha_length]];exact info34)
 have HZA:Hid (32=sa.size):=zh (by rw [hsa];simp [sha_length])
 have HZB:Hid (32=sb.size):=zh (by rw [hsb];simp [sha_length])
 have HOA:Hid (sa.all (·.oneCell')=true):=zh (by rw [hsa];exact hash_one _)
 have HOB:Hid (sb.all (·.oneCell')=true):=zh (by rw [hsb];exact hash_one _)
 have HSA:=zh hsa
 have HSB:=zh hsb
 have HLL:Hid (x.length≤1099511627776∧y.length≤1099511627776):=zh (by omega)
 obtain ⟨lx,hlx⟩:=zg (x.length)
 obtain ⟨ly,hly⟩:=zg (y.length)
 rw [←hlx] at HX ⊢
 rw [←hly] at HY ⊢
 clear hx hy he hsa hsb hxl hyl hlx hly
 go_enter Tryz.func41,Tryz.ntmps41
 go_upto_region 1 with fail
 obtain ⟨T,hT⟩:=zg (w.heap.size)
 have hm1:Mv (fun _=>False) w (w.alloc (.cells #[.slice pa lx pc,.slice qa ly qc] 33)):=(Mv.refl _ _).alloc _
 have ht1:(w.alloc (.cells #[.slice pa lx pc,.slice qa ly qc] 33)).heap[T]?=some (.cells #[.slice pa lx pc,.slice qa ly qc] 33 (0,0)):=by rw [hT];exact heap_alloc_new _ _
 rw [←hT]
 generalize w.alloc (.cells #[.slice pa lx pc,.slice qa ly qc] 33)=w1 at hm1 ht1 ⊢
 have M1:=zh hm1
 have T1:=zh ht1
 clear hT hm1 ht1
 obtain ⟨K,hK⟩:=zg (effK k)
 have HK:=zh hK
 have hK32:K≤32:=by rw [hK];exact (effK_range k).2
 have hcase:(1≤k∧k≤31∧(K:Int)=k)∨(k<1∧(K:Int)=32)∨(1≤k∧31<k∧(K:Int)=32):=by
  by_cases h1:1≤k
  ·by_cases h2:k≤31
   ·exact .inl ⟨h1,h2,by rw [hK];unfold effK;rw [if_pos ⟨h1,h2⟩];omega⟩
   ·exact .inr (.inr ⟨h1,by omega,by rw [hK];unfold effK;rw [if_neg (by omega)];rfl⟩)
  ·exact .inr (.inl ⟨by omega,by rw [hK];unfold effK;rw [if_neg (by omega)];rfl⟩)
 have hsl:=fun X W=>slice_to X K hK32 W
 clear hK
 rcases hcase with ⟨h1,h2,e⟩|⟨h1,e⟩|⟨h1,h2,e⟩
 all_goals go_upto_region 3 with fail
 all_goals rw [←e]
 all_goals try clear h2
 all_goals clear h1 e
 all_goals
  go_cut [5,6] (fun s5 s6 wx=>∃ P5 P6,s5=.pointer (some ⟨P5,0,none⟩)∧s6=.pointer (some ⟨P6,0,none⟩)∧wx.heap[P5]?=some (.cells sa 34 (0,0))∧wx.heap[P6]?=some (.cells sb 34 (0,0))∧Mv (fun _=>False) w1 wx)
  case first =>
   refine wp_region_noPanic ?_
   refine wp_region_held_drew (S:=(fun w'=>Mv (fun _=>False) w1 w')) (by kernel_rfl) ((Mv.refl _ _).drew) (fun hHeld=>?_)
   refine zt 0 (.pointer (some ⟨T,0,none⟩)) rfl (fun _ hS=>by go_simp) hHeld ?_
   try walk_nrm
   refine zt 1 (.slice pa lx pc) rfl (fun _ hS=>by have t0:=cell_of_heap ((Mv.block hS T (lt_of_heap T1.out) id).trans T1.out) 0 rfl;go_simp) hHeld ?_
   try walk_nrm
   refine zt 3 (.pointer (some ⟨T,1,none⟩)) rfl (fun _ hS=>by go_simp) hHeld ?_
   try walk_nrm
   refine zt 4 (.slice qa ly qc) rfl (fun _ hS=>by have t0:=cell_of_heap ((Mv.block hS T (lt_of_heap T1.out) id).trans T1.out) 1 rfl;go_simp) hHeld ?_
   try walk_nrm
   obtain ⟨Z,hZ⟩:∃ Z:Array Value,Z=#[.int .u8 0,.int .u8 0,.int .u8 0,.int .u8 0,.int .u8 0,.int .u8 0,.int .u8 0,.int .u8 0,.int .u8 0,.int .u8 0,.int .u8 0,.int .u8 0,.int .u8 0,.int .u8 0,.int .u8 0,.int .u8 0,.int .u8 0,.int .u8 0,.int .u8 0,.int .u8 0,.int .u8 0,.int .u8 0,.int .u8 0,.int .u8 0,.int .u8 0,.int .u8 0,.int .u8 0,.int .u8 0,.int .u8 0,.int .u8 0,.int .u8 0,.int .u8 0]:=⟨_,rfl⟩
   have HZ:Hid (Z.size=32):=zh (by rw [hZ];rfl)
   have HZD:=zh hZ
   clear hZ
   refine wpAnyH_ready (rs:=[2,6,7]) (by kernel_rfl) (by simp) (AllReadyH.cons rfl (fun K' hK=>?rnx2) (AllReadyH.cons rfl (fun K' hK=>?rnx6) (AllReadyH.cons rfl (fun K' hK=>?rnx7) AllReadyH.nil)))
   case rnx2 =>
    rw [if_pos (by rfl)]
    unfold Oper.wp execOp
    go_simp
    refine (sum256_any (.slice pa lx pc) x w1.drew (HX.out.mv (M1.out.trans hHeld) (fun _ _ h=>h)) HLL.out.1 (HE.out.mv (M1.out.trans hHeld) (fun _ h=>h.elim))).mono ?_
    rintro e wn2 ⟨rfl,hm⟩
    rw [HVA.out]
    have hs:=hHeld.trans hm
    clear hm
    refine hK.out _ _ hs (fun hHeld=>?_)
    clear hK K'
    try walk_nrm
    clear hs
    refine wpAnyH_ready (rs:=[5,6,7]) (by kernel_rfl) (by simp) (AllReadyH.cons rfl (fun K' hK=>?rn2x5) (AllReadyH.cons rfl (fun K' hK=>?rn2x6) (AllReadyH.cons rfl (fun K' hK=>?rn2x7) AllReadyH.nil)))
    case rn2x5 =>
     rw [if_pos (by rfl)]
     unfold Oper.wp execOp
     go_simp
     refine (sum256_any (.slice qa ly qc) y wn2 (HY.out.mv (M1.out.trans hHeld) (fun _ _ h=>h)) HLL.out.2 (HE.out.mv (M1.out.trans hHeld) (fun _ h=>h.elim))).mono ?_
     rintro e wn25 ⟨rfl,hm⟩
     rw [HVB.out]
     have hs:=hHeld.trans hm
     clear hm
     refine hK.out _ _ hs (fun hHeld=>?_)
     clear hK K'
     try walk_nrm
     clear hs
     refine wpAnyH_ready (rs:=[6,7]) (by kernel_rfl) (by simp) (AllReadyH.cons rfl (fun K' hK=>?rn25x6) (AllReadyH.cons rfl (fun K' hK=>?rn25x7) AllReadyH.nil))
     case rn25x6 =>
      rw [if_pos (by rfl)]
      unfold Oper.wp execOp
      go_simp
      rw [←HZD.out]
      have hm:Mv (fun _=>False) wn25 (wn25.alloc (.cells Z 34)):=(Mv.refl _ _).alloc _
      have hb:(wn25.alloc (.cells Z 34)).heap[wn25.heap.size]?=some (.cells Z 34 (0,0)):=heap_alloc_new wn25 _
      obtain ⟨P5,hP5⟩:=zg (wn25.heap.size)
      have HP5:=zh (show w1.heap.size≤P5 by rw [hP5];exact hHeld.size)
      rw [←hP5] at hb ⊢
      generalize (wn25.alloc (.cells Z 34))=wn256 at hm hb ⊢
      have Awn256:=zh hb
      have hs:=hHeld.trans hm
      clear hm hb hP5
      refine hK.out _ _ hs (fun hHeld=>?_)
      clear hK K'
      try walk_nrm
      clear hs
      refine zo 7 rfl fun K' hK=>?_
      unfold Oper.wp execOp
      go_simp
      rw [←HZD.out]
      have hm:Mv (fun _=>False) wn256 (wn256.alloc (.cells Z 34)):=(Mv.refl _ _).alloc _
      have hb:(wn256.alloc (.cells Z 34)).heap[wn256.heap.size]?=some (.cells Z 34 (0,0)):=heap_alloc_new wn256 _
      obtain ⟨P6,hP6⟩:=zg (wn256.heap.size)
      have HP6:=zh (show w1.heap.size≤P6 by rw [hP6];exact hHeld.size)
      have HNE:=zh (show P5≠P6 by have:=lt_of_heap Awn256.out;omega)
      rw [←hP6] at hb ⊢
      generalize (wn256.alloc (.cells Z 34))=wn2567 at hm hb ⊢
      have Bwn2567:=zh hb
      have Awn2567:=zh ((hm.block P5 (lt_of_heap Awn256.out) id).trans Awn256.out)
      have hs:=hHeld.trans hm
      clear hm hb hP6
      refine hK.out _ _ hs (fun hHeld=>?_)
      clear hK K'
      try walk_nrm
      clear hs
      refine zo 8 rfl fun K' hK=>?_
      refine wp_store_row 34 (.tmp 5) (.tmp 15) rfl P5 sa rfl rfl 34 Z Awn2567.out HIA.out (HZ.out.trans HZA.out) HOA.out ?_
      have hs:=hHeld.setRow (.inr HP5.out) sa
      have r5:=setRow_heap _ _ _ sa _ _ Awn2567.out
      have r6:=(setRow_other wn2567 P5 P6 sa (Ne.symm HNE.out)).trans Bwn2567.out
      generalize wn2567.setRow P5 sa=wy at hs r5 r6 ⊢
      have R5:=zh r5
      have R6:=zh r6
      clear r5 r6
      refine hK.out _ _ hs (fun hHeld=>?_)
      clear hK K'
      try walk_nrm
      clear hs
      refine zo 9 rfl fun K' hK=>?_
      refine wp_store_row 34 (.tmp 6) (.tmp 18) rfl P6 sb rfl rfl 34 Z R6.out HIB.out (HZ.out.trans HZB.out) HOB.out ?_
      have hs:=hHeld.setRow (.inr HP6.out) sb
      have r6:=setRow_heap _ _ _ sb _ _ R6.out
      have r5:=(setRow_other wy P6 P5 sb HNE.out).trans R5.out
      generalize wy.setRow P6 sb=wz at hs r5 r6 ⊢
      have R5z:=zh r5
      have R6z:=zh r6
      clear r5 r6
      refine hK.out _ _ hs (fun hHeld=>?_)
      clear hK K'
      try walk_nrm
      clear hs
      have HZZ:=zh hHeld
      refine zd ?_
      go_wp2_with fail
      go_meet
      exact ⟨P5,P6,rfl,rfl,R5z.out,R6z.out,HZZ.out⟩
     case rn25x7 =>
      rw [if_pos (by rfl)]
      unfold Oper.wp execOp
      go_simp
      rw [←HZD.out]
      have hm:Mv (fun _=>False) wn25 (wn25.alloc (.cells Z 34)):=(Mv.refl _ _).alloc _
      have hb:(wn25.alloc (.cells Z 34)).heap[wn25.heap.size]?=some (.cells Z 34 (0,0)):=heap_alloc_new wn25 _
      obtain ⟨P6,hP6⟩:=zg (wn25.heap.size)
      have HP6:=zh (show w1.heap.size≤P6 by rw [hP6];exact hHeld.size)
      rw [←hP6] at hb ⊢
      generalize (wn25.alloc (.cells Z 34))=wn257 at hm hb ⊢
      have Bwn257:=zh hb
      have hs:=hHeld.trans hm
      clear hm hb hP6
      refine hK.out _ _ hs (fun hHeld=>?_)
      clear hK K'
      try walk_nrm
      clear hs
      refine zo 6 rfl fun K' hK=>?_
      unfold Oper.wp execOp
      go_simp
      rw [←HZD.out]
      have hm:Mv (fun _=>False) wn257 (wn257.alloc (.cells Z 34)):=(Mv.refl _ _).alloc _
      have hb:(wn257.alloc (.cells Z 34)).heap[wn257.heap.size]?=some (.cells Z 34 (0,0)):=heap_alloc_new wn257 _
      obtain ⟨P5,hP5⟩:=zg (wn257.heap.size)
      have HP5:=zh (show w1.heap.size≤P5 by rw [hP5];exact hHeld.size)
      have HNE:=zh (show P5≠P6 by have:=lt_of_heap Bwn257.out;omega)
      rw [←hP5] at hb ⊢
      generalize (wn257.alloc (.cells Z 34))=wn2576 at hm hb ⊢
      have Awn2576:=zh hb
      have Bwn2576:=zh ((hm.block P6 (lt_of_heap Bwn257.out) id).trans Bwn257.out)
      have hs:=hHeld.trans hm
      clear hm hb hP5
      refine hK.out _ _ hs (fun hHeld=>?_)
      clear hK K'
      try walk_nrm
      clear hs
      refine zo 8 rfl fun K' hK=>?_
      refine wp_store_row 34 (.tmp 5) (.tmp 15) rfl P5 sa rfl rfl 34 Z Awn2576.out HIA.out (HZ.out.trans HZA.out) HOA.out ?_
      have hs:=hHeld.setRow (.inr HP5.out) sa
      have r5:=setRow_heap _ _ _ sa _ _ Awn2576.out
      have r6:=(setRow_other wn2576 P5 P6 sa (Ne.symm HNE.out)).trans Bwn2576.out
      generalize wn2576.setRow P5 sa=wy at hs r5 r6 ⊢
      have R5:=zh r5
      have R6:=zh r6
      clear r5 r6
      refine hK.out _ _ hs (fun hHeld=>?_)
      clear hK K'
      try walk_nrm
      clear hs
      refine zo 9 rfl fun K' hK=>?_
      refine wp_store_row 34 (.tmp 6) (.tmp 18) rfl P6 sb rfl rfl 34 Z R6.out HIB.out (HZ.out.trans HZB.out) HOB.out ?_
      have hs:=hHeld.setRow (.inr HP6.out) sb
      have r6:=setRow_heap _ _ _ sb _ _ R6.out
      have r5:=(setRow_other wy P6 P5 sb HNE.out).trans R5.out
      generalize wy.setRow P6 sb=wz at hs r5 r6 ⊢
      have R5z:=zh r5
      have R6z:=zh r6
      clear r5 r6
      refine hK.out _ _ hs (fun hHeld=>?_)
      clear hK K'
      try walk_nrm
      clear hs
      have HZZ:=zh hHeld
      refine zd ?_
      go_wp2_with fail
      go_meet
      exact ⟨P5,P6,rfl,rfl,R5z.out,R6z.out,HZZ.out⟩
    case rn2x6 =>
     rw [if_pos (by rfl)]
     unfold Oper.wp execOp
     go_simp
     rw [←HZD.out]
     have hm:Mv (fun _=>False) wn2 (wn2.alloc (.cells Z 34)):=(Mv.refl _ _).alloc _
     have hb:(wn2.alloc (.cells Z 34)).heap[wn2.heap.size]?=some (.cells Z 34 (0,0)):=heap_alloc_new wn2 _
     obtain ⟨P5,hP5⟩:=zg (wn2.heap.size)
     have HP5:=zh (show w1.heap.size≤P5 by rw [hP5];exact hHeld.size)
     rw [←hP5] at hb ⊢
     generalize (wn2.alloc (.cells Z 34))=wn26 at hm hb ⊢
     have Awn26:=zh hb
     have hs:=hHeld.trans hm
     clear hm hb hP5
     refine hK.out _ _ hs (fun hHeld=>?_)
     clear hK K'
     try walk_nrm
     clear hs
     refine wpAnyH_ready (rs:=[5,7]) (by kernel_rfl) (by simp) (AllReadyH.cons rfl (fun K' hK=>?rn26x5) (AllReadyH.cons rfl (fun K' hK=>?rn26x7) AllReadyH.nil))
     case rn26x5 =>
      rw [if_pos (by rfl)]
      unfold Oper.wp execOp
      go_simp
      refine (sum256_any (.slice qa ly qc) y wn26 (HY.out.mv (M1.out.trans hHeld) (fun _ _ h=>h)) HLL.out.2 (HE.out.mv (M1.out.trans hHeld) (fun _ h=>h.elim))).mono ?_
      rintro e wn265 ⟨rfl,hm⟩
      rw [HVB.out]
      have hs:=hHeld.trans hm
      have Awn265:=zh ((hm.block P5 (lt_of_heap Awn26.out) id).trans Awn26.out)
      clear hm
      refine hK.out _ _ hs (fun hHeld=>?_)
      clear hK K'
      try walk_nrm
      clear hs
      refine zo 7 rfl fun K' hK=>?_
      unfold Oper.wp execOp
      go_simp
      rw [←HZD.out]
      have hm:Mv (fun _=>False) wn265 (wn265.alloc (.cells Z 34)):=(Mv.refl _ _).alloc _
      have hb:(wn265.alloc (.cells Z 34)).heap[wn265.heap.size]?=some (.cells Z 34 (0,0)):=heap_alloc_new wn265 _
      obtain ⟨P6,hP6⟩:=zg (wn265.heap.size)
      have HP6:=zh (show w1.heap.size≤P6 by rw [hP6];exact hHeld.size)
      have HNE:=zh (show P5≠P6 by have:=lt_of_heap Awn265.out;omega)
      rw [←hP6] at hb ⊢
      generalize (wn265.alloc (.cells Z 34))=wn2657 at hm hb ⊢
      have Bwn2657:=zh hb
      have Awn2657:=zh ((hm.block P5 (lt_of_heap Awn265.out) id).trans Awn265.out)
      have hs:=hHeld.trans hm
      clear hm hb hP6
      refine hK.out _ _ hs (fun hHeld=>?_)
      clear hK K'
      try walk_nrm
      clear hs
      refine zo 8 rfl fun K' hK=>?_
      refine wp_store_row 34 (.tmp 5) (.tmp 15) rfl P5 sa rfl rfl 34 Z Awn2657.out HIA.out (HZ.out.trans HZA.out) HOA.out ?_
      have hs:=hHeld.setRow (.inr HP5.out) sa
      have r5:=setRow_heap _ _ _ sa _ _ Awn2657.out
      have r6:=(setRow_other wn2657 P5 P6 sa (Ne.symm HNE.out)).trans Bwn2657.out
      generalize wn2657.setRow P5 sa=wy at hs r5 r6 ⊢
      have R5:=zh r5
      have R6:=zh r6
      clear r5 r6
      refine hK.out _ _ hs (fun hHeld=>?_)
      clear hK K'
      try walk_nrm
      clear hs
      refine zo 9 rfl fun K' hK=>?_
      refine wp_store_row 34 (.tmp 6) (.tmp 18) rfl P6 sb rfl rfl 34 Z R6.out HIB.out (HZ.out.trans HZB.out) HOB.out ?_
      have hs:=hHeld.setRow (.inr HP6.out) sb
      have r6:=setRow_heap _ _ _ sb _ _ R6.out
      have r5:=(setRow_other wy P6 P5 sb HNE.out).trans R5.out
      generalize wy.setRow P6 sb=wz at hs r5 r6 ⊢
      have R5z:=zh r5
      have R6z:=zh r6
      clear r5 r6
      refine hK.out _ _ hs (fun hHeld=>?_)
      clear hK K'
      try walk_nrm
      clear hs
      have HZZ:=zh hHeld
      refine zd ?_
      go_wp2_with fail
      go_meet
      exact ⟨P5,P6,rfl,rfl,R5z.out,R6z.out,HZZ.out⟩
     case rn26x7 =>
      rw [if_pos (by rfl)]
      unfold Oper.wp execOp
      go_simp
      rw [←HZD.out]
      have hm:Mv (fun _=>False) wn26 (wn26.alloc (.cells Z 34)):=(Mv.refl _ _).alloc _
      have hb:(wn26.alloc (.cells Z 34)).heap[wn26.heap.size]?=some (.cells Z 34 (0,0)):=heap_alloc_new wn26 _
      obtain ⟨P6,hP6⟩:=zg (wn26.heap.size)
      have HP6:=zh (show w1.heap.size≤P6 by rw [hP6];exact hHeld.size)
      have HNE:=zh (show P5≠P6 by have:=lt_of_heap Awn26.out;omega)
      rw [←hP6] at hb ⊢
      generalize (wn26.alloc (.cells Z 34))=wn267 at hm hb ⊢
      have Bwn267:=zh hb
      have Awn267:=zh ((hm.block P5 (lt_of_heap Awn26.out) id).trans Awn26.out)
      have hs:=hHeld.trans hm
      clear hm hb hP6
      refine hK.out _ _ hs (fun hHeld=>?_)
      clear hK K'
      try walk_nrm
      clear hs
      refine zo 5 rfl fun K' hK=>?_
      unfold Oper.wp execOp
      go_simp
      refine (sum256_any (.slice qa ly qc) y wn267 (HY.out.mv (M1.out.trans hHeld) (fun _ _ h=>h)) HLL.out.2 (HE.out.mv (M1.out.trans hHeld) (fun _ h=>h.elim))).mono ?_
      rintro e wn2675 ⟨rfl,hm⟩
      rw [HVB.out]
      have hs:=hHeld.trans hm
      have Awn2675:=zh ((hm.block P5 (lt_of_heap Awn267.out) id).trans Awn267.out)
      have Bwn2675:=zh ((hm.block P6 (lt_of_heap Bwn267.out) id).trans Bwn267.out)
      clear hm
      refine hK.out _ _ hs (fun hHeld=>?_)
      clear hK K'
      try walk_nrm
      clear hs
      refine zo 8 rfl fun K' hK=>?_
      refine wp_store_row 34 (.tmp 5) (.tmp 15) rfl P5 sa rfl rfl 34 Z Awn2675.out HIA.out (HZ.out.trans HZA.out) HOA.out ?_
      have hs:=hHeld.setRow (.inr HP5.out) sa
      have r5:=setRow_heap _ _ _ sa _ _ Awn2675.out
      have r6:=(setRow_other wn2675 P5 P6 sa (Ne.symm HNE.out)).trans Bwn2675.out
      generalize wn2675.setRow P5 sa=wy at hs r5 r6 ⊢
      have R5:=zh r5
      have R6:=zh r6
      clear r5 r6
      refine hK.out _ _ hs (fun hHeld=>?_)
      clear hK K'
      try walk_nrm
      clear hs
      refine zo 9 rfl fun K' hK=>?_
      refine wp_store_row 34 (.tmp 6) (.tmp 18) rfl P6 sb rfl rfl 34 Z R6.out HIB.out (HZ.out.trans HZB.out) HOB.out ?_
      have hs:=hHeld.setRow (.inr HP6.out) sb
      have r6:=setRow_heap _ _ _ sb _ _ R6.out
      have r5:=(setRow_other wy P6 P5 sb HNE.out).trans R5.out
      generalize wy.setRow P6 sb=wz at hs r5 r6 ⊢
      have R5z:=zh r5
      have R6z:=zh r6
      clear r5 r6
      refine hK.out _ _ hs (fun hHeld=>?_)
      clear hK K'
      try walk_nrm
      clear hs
      have HZZ:=zh hHeld
      refine zd ?_
      go_wp2_with fail
      go_meet
      exact ⟨P5,P6,rfl,rfl,R5z.out,R6z.out,HZZ.out⟩
    case rn2x7 =>
     rw [if_pos (by rfl)]
     unfold Oper.wp execOp
     go_simp
     rw [←HZD.out]
     have hm:Mv (fun _=>False) wn2 (wn2.alloc (.cells Z 34)):=(Mv.refl _ _).alloc _
     have hb:(wn2.alloc (.cells Z 34)).heap[wn2.heap.size]?=some (.cells Z 34 (0,0)):=heap_alloc_new wn2 _
     obtain ⟨P6,hP6⟩:=zg (wn2.heap.size)
     have HP6:=zh (show w1.heap.size≤P6 by rw [hP6];exact hHeld.size)
     rw [←hP6] at hb ⊢
     generalize (wn2.alloc (.cells Z 34))=wn27 at hm hb ⊢
     have Bwn27:=zh hb
     have hs:=hHeld.trans hm
     clear hm hb hP6
     refine hK.out _ _ hs (fun hHeld=>?_)
     clear hK K'
     try walk_nrm
     clear hs
     refine wpAnyH_ready (rs:=[5,6]) (by kernel_rfl) (by simp) (AllReadyH.cons rfl (fun K' hK=>?rn27x5) (AllReadyH.cons rfl (fun K' hK=>?rn27x6) AllReadyH.nil))
     case rn27x5 =>
      rw [if_pos (by rfl)]
      unfold Oper.wp execOp
      go_simp
      refine (sum256_any (.slice qa ly qc) y wn27 (HY.out.mv (M1.out.trans hHeld) (fun _ _ h=>h)) HLL.out.2 (HE.out.mv (M1.out.trans hHeld) (fun _ h=>h.elim))).mono ?_
      rintro e wn275 ⟨rfl,hm⟩
      rw [HVB.out]
      have hs:=hHeld.trans hm
      have Bwn275:=zh ((hm.block P6 (lt_of_heap Bwn27.out) id).trans Bwn27.out)
      clear hm
      refine hK.out _ _ hs (fun hHeld=>?_)
      clear hK K'
      try walk_nrm
      clear hs
      refine zo 6 rfl fun K' hK=>?_
      unfold Oper.wp execOp
      go_simp
      rw [←HZD.out]
      have hm:Mv (fun _=>False) wn275 (wn275.alloc (.cells Z 34)):=(Mv.refl _ _).alloc _
      have hb:(wn275.alloc (.cells Z 34)).heap[wn275.heap.size]?=some (.cells Z 34 (0,0)):=heap_alloc_new wn275 _
      obtain ⟨P5,hP5⟩:=zg (wn275.heap.size)
      have HP5:=zh (show w1.heap.size≤P5 by rw [hP5];exact hHeld.size)
      have HNE:=zh (show P5≠P6 by have:=lt_of_heap Bwn275.out;omega)
      rw [←hP5] at hb ⊢
      generalize (wn275.alloc (.cells Z 34))=wn2756 at hm hb ⊢
      have Awn2756:=zh hb
      have Bwn2756:=zh ((hm.block P6 (lt_of_heap Bwn275.out) id).trans Bwn275.out)
      have hs:=hHeld.trans hm
      clear hm hb hP5
      refine hK.out _ _ hs (fun hHeld=>?_)
      clear hK K'
      try walk_nrm
      clear hs
      refine zo 8 rfl fun K' hK=>?_
      refine wp_store_row 34 (.tmp 5) (.tmp 15) rfl P5 sa rfl rfl 34 Z Awn2756.out HIA.out (HZ.out.trans HZA.out) HOA.out ?_
      have hs:=hHeld.setRow (.inr HP5.out) sa
      have r5:=setRow_heap _ _ _ sa _ _ Awn2756.out
      have r6:=(setRow_other wn2756 P5 P6 sa (Ne.symm HNE.out)).trans Bwn2756.out
      generalize wn2756.setRow P5 sa=wy at hs r5 r6 ⊢
      have R5:=zh r5
      have R6:=zh r6
      clear r5 r6
      refine hK.out _ _ hs (fun hHeld=>?_)
      clear hK K'
      try walk_nrm
      clear hs
      refine zo 9 rfl fun K' hK=>?_
      refine wp_store_row 34 (.tmp 6) (.tmp 18) rfl P6 sb rfl rfl 34 Z R6.out HIB.out (HZ.out.trans HZB.out) HOB.out ?_
      have hs:=hHeld.setRow (.inr HP6.out) sb
      have r6:=setRow_heap _ _ _ sb _ _ R6.out
      have r5:=(setRow_other wy P6 P5 sb HNE.out).trans R5.out
      generalize wy.setRow P6 sb=wz at hs r5 r6 ⊢
      have R5z:=zh r5
      have R6z:=zh r6
      clear r5 r6
      refine hK.out _ _ hs (fun hHeld=>?_)
      clear hK K'
      try walk_nrm
      clear hs
      have HZZ:=zh hHeld
      refine zd ?_
      go_wp2_with fail
      go_meet
      exact ⟨P5,P6,rfl,rfl,R5z.out,R6z.out,HZZ.out⟩
     case rn27x6 =>
      rw [if_pos (by rfl)]
      unfold Oper.wp execOp
      go_simp
      rw [←HZD.out]
      have hm:Mv (fun _=>False) wn27 (wn27.alloc (.cells Z 34)):=(Mv.refl _ _).alloc _
      have hb:(wn27.alloc (.cells Z 34)).heap[wn27.heap.size]?=some (.cells Z 34 (0,0)):=heap_alloc_new wn27 _
      obtain ⟨P5,hP5⟩:=zg (wn27.heap.size)
      have HP5:=zh (show w1.heap.size≤P5 by rw [hP5];exact hHeld.size)
      have HNE:=zh (show P5≠P6 by have:=lt_of_heap Bwn27.out;omega)
      rw [←hP5] at hb ⊢
      generalize (wn27.alloc (.cells Z 34))=wn276 at hm hb ⊢
      have Awn276:=zh hb
      have Bwn276:=zh ((hm.block P6 (lt_of_heap Bwn27.out) id).trans Bwn27.out)
      have hs:=hHeld.trans hm
      clear hm hb hP5
      refine hK.out _ _ hs (fun hHeld=>?_)
      clear hK K'
      try walk_nrm
      clear hs
      refine zo 5 rfl fun K' hK=>?_
      unfold Oper.wp execOp
      go_simp
      refine (sum256_any (.slice qa ly qc) y wn276 (HY.out.mv (M1.out.trans hHeld) (fun _ _ h=>h)) HLL.out.2 (HE.out.mv (M1.out.trans hHeld) (fun _ h=>h.elim))).mono ?_
      rintro e wn2765 ⟨rfl,hm⟩
      rw [HVB.out]
      have hs:=hHeld.trans hm
      have Awn2765:=zh ((hm.block P5 (lt_of_heap Awn276.out) id).trans Awn276.out)
      have Bwn2765:=zh ((hm.block P6 (lt_of_heap Bwn276.out) id).trans Bwn276.out)
      clear hm
      refine hK.out _ _ hs (fun hHeld=>?_)
      clear hK K'
      try walk_nrm
      clear hs
      refine zo 8 rfl fun K' hK=>?_
      refine wp_store_row 34 (.tmp 5) (.tmp 15) rfl P5 sa rfl rfl 34 Z Awn2765.out HIA.out (HZ.out.trans HZA.out) HOA.out ?_
      have hs:=hHeld.setRow (.inr HP5.out) sa
      have r5:=setRow_heap _ _ _ sa _ _ Awn2765.out
      have r6:=(setRow_other wn2765 P5 P6 sa (Ne.symm HNE.out)).trans Bwn2765.out
      generalize wn2765.setRow P5 sa=wy at hs r5 r6 ⊢
      have R5:=zh r5
      have R6:=zh r6
      clear r5 r6
      refine hK.out _ _ hs (fun hHeld=>?_)
      clear hK K'
      try walk_nrm
      clear hs
      refine zo 9 rfl fun K' hK=>?_
      refine wp_store_row 34 (.tmp 6) (.tmp 18) rfl P6 sb rfl rfl 34 Z R6.out HIB.out (HZ.out.trans HZB.out) HOB.out ?_
      have hs:=hHeld.setRow (.inr HP6.out) sb
      have r6:=setRow_heap _ _ _ sb _ _ R6.out
      have r5:=(setRow_other wy P6 P5 sb HNE.out).trans R5.out
      generalize wy.setRow P6 sb=wz at hs r5 r6 ⊢
      have R5z:=zh r5
      have R6z:=zh r6
      clear r5 r6
      refine hK.out _ _ hs (fun hHeld=>?_)
      clear hK K'
      try walk_nrm
      clear hs
      have HZZ:=zh hHeld
      refine zd ?_
      go_wp2_with fail
      go_meet
      exact ⟨P5,P6,rfl,rfl,R5z.out,R6z.out,HZZ.out⟩
   case rnx6 =>
    rw [if_pos (by rfl)]
    unfold Oper.wp execOp
    go_simp
    rw [←HZD.out]
    have hm:Mv (fun _=>False) w1 (w1.alloc (.cells Z 34)).drew:=((Mv.refl _ _).alloc _).drew
    have hb:(w1.alloc (.cells Z 34)).drew.heap[w1.heap.size]?=some (.cells Z 34 (0,0)):=heap_alloc_new w1 _
    obtain ⟨P5,hP5⟩:=zg (w1.heap.size)
    have HP5:=zh (show w1.heap.size≤P5 by rw [hP5];exact Nat.le_refl _)
    rw [←hP5] at hb ⊢
    generalize (w1.alloc (.cells Z 34)).drew=wn6 at hm hb ⊢
    have Awn6:=zh hb
    have hs:=hm
    clear hm hb hP5
    refine hK.out _ _ hs (fun hHeld=>?_)
    clear hK K'
    try walk_nrm
    clear hs
    refine wpAnyH_ready (rs:=[2,7]) (by kernel_rfl) (by simp) (AllReadyH.cons rfl (fun K' hK=>?rn6x2) (AllReadyH.cons rfl (fun K' hK=>?rn6x7) AllReadyH.nil))
    case rn6x2 =>
     rw [if_pos (by rfl)]
     unfold Oper.wp execOp
     go_simp
     refine (sum256_any (.slice pa lx pc) x wn6 (HX.out.mv (M1.out.trans hHeld) (fun _ _ h=>h)) HLL.out.1 (HE.out.mv (M1.out.trans hHeld) (fun _ h=>h.elim))).mono ?_
     rintro e wn62 ⟨rfl,hm⟩
     rw [HVA.out]
     have hs:=hHeld.trans hm
     have Awn62:=zh ((hm.block P5 (lt_of_heap Awn6.out) id).trans Awn6.out)
     clear hm
     refine hK.out _ _ hs (fun hHeld=>?_)
     clear hK K'
     try walk_nrm
     clear hs
     refine wpAnyH_ready (rs:=[5,7]) (by kernel_rfl) (by simp) (AllReadyH.cons rfl (fun K' hK=>?rn62x5) (AllReadyH.cons rfl (fun K' hK=>?rn62x7) AllReadyH.nil))
     case rn62x5 =>
      rw [if_pos (by rfl)]
      unfold Oper.wp execOp
      go_simp
      refine (sum256_any (.slice qa ly qc) y wn62 (HY.out.mv (M1.out.trans hHeld) (fun _ _ h=>h)) HLL.out.2 (HE.out.mv (M1.out.trans hHeld) (fun _ h=>h.elim))).mono ?_
      rintro e wn625 ⟨rfl,hm⟩
      rw [HVB.out]
      have hs:=hHeld.trans hm
      have Awn625:=zh ((hm.block P5 (lt_of_heap Awn62.out) id).trans Awn62.out)
      clear hm
      refine hK.out _ _ hs (fun hHeld=>?_)
      clear hK K'
      try walk_nrm
      clear hs
      refine zo 7 rfl fun K' hK=>?_
      unfold Oper.wp execOp
      go_simp
      rw [←HZD.out]
      have hm:Mv (fun _=>False) wn625 (wn625.alloc (.cells Z 34)):=(Mv.refl _ _).alloc _
      have hb:(wn625.alloc (.cells Z 34)).heap[wn625.heap.size]?=some (.cells Z 34 (0,0)):=heap_alloc_new wn625 _
      obtain ⟨P6,hP6⟩:=zg (wn625.heap.size)
      have HP6:=zh (show w1.heap.size≤P6 by rw [hP6];exact hHeld.size)
      have HNE:=zh (show P5≠P6 by have:=lt_of_heap Awn625.out;omega)
      rw [←hP6] at hb ⊢
      generalize (wn625.alloc (.cells Z 34))=wn6257 at hm hb ⊢
      have Bwn6257:=zh hb
      have Awn6257:=zh ((hm.block P5 (lt_of_heap Awn625.out) id).trans Awn625.out)
      have hs:=hHeld.trans hm
      clear hm hb hP6
      refine hK.out _ _ hs (fun hHeld=>?_)
      clear hK K'
      try walk_nrm
      clear hs
      refine zo 8 rfl fun K' hK=>?_
      refine wp_store_row 34 (.tmp 5) (.tmp 15) rfl P5 sa rfl rfl 34 Z Awn6257.out HIA.out (HZ.out.trans HZA.out) HOA.out ?_
      have hs:=hHeld.setRow (.inr HP5.out) sa
      have r5:=setRow_heap _ _ _ sa _ _ Awn6257.out
      have r6:=(setRow_other wn6257 P5 P6 sa (Ne.symm HNE.out)).trans Bwn6257.out
      generalize wn6257.setRow P5 sa=wy at hs r5 r6 ⊢
      have R5:=zh r5
      have R6:=zh r6
      clear r5 r6
      refine hK.out _ _ hs (fun hHeld=>?_)
      clear hK K'
      try walk_nrm
      clear hs
      refine zo 9 rfl fun K' hK=>?_
      refine wp_store_row 34 (.tmp 6) (.tmp 18) rfl P6 sb rfl rfl 34 Z R6.out HIB.out (HZ.out.trans HZB.out) HOB.out ?_
      have hs:=hHeld.setRow (.inr HP6.out) sb
      have r6:=setRow_heap _ _ _ sb _ _ R6.out
      have r5:=(setRow_other wy P6 P5 sb HNE.out).trans R5.out
      generalize wy.setRow P6 sb=wz at hs r5 r6 ⊢
      have R5z:=zh r5
      have R6z:=zh r6
      clear r5 r6
      refine hK.out _ _ hs (fun hHeld=>?_)
      clear hK K'
      try walk_nrm
      clear hs
      have HZZ:=zh hHeld
      refine zd ?_
      go_wp2_with fail
      go_meet
      exact ⟨P5,P6,rfl,rfl,R5z.out,R6z.out,HZZ.out⟩
     case rn62x7 =>
      rw [if_pos (by rfl)]
      unfold Oper.wp execOp
      go_simp
      rw [←HZD.out]
      have hm:Mv (fun _=>False) wn62 (wn62.alloc (.cells Z 34)):=(Mv.refl _ _).alloc _
      have hb:(wn62.alloc (.cells Z 34)).heap[wn62.heap.size]?=some (.cells Z 34 (0,0)):=heap_alloc_new wn62 _
      obtain ⟨P6,hP6⟩:=zg (wn62.heap.size)
      have HP6:=zh (show w1.heap.size≤P6 by rw [hP6];exact hHeld.size)
      have HNE:=zh (show P5≠P6 by have:=lt_of_heap Awn62.out;omega)
      rw [←hP6] at hb ⊢
      generalize (wn62.alloc (.cells Z 34))=wn627 at hm hb ⊢
      have Bwn627:=zh hb
      have Awn627:=zh ((hm.block P5 (lt_of_heap Awn62.out) id).trans Awn62.out)
      have hs:=hHeld.trans hm
      clear hm hb hP6
      refine hK.out _ _ hs (fun hHeld=>?_)
      clear hK K'
      try walk_nrm
      clear hs
      refine zo 5 rfl fun K' hK=>?_
      unfold Oper.wp execOp
      go_simp
      refine (sum256_any (.slice qa ly qc) y wn627 (HY.out.mv (M1.out.trans hHeld) (fun _ _ h=>h)) HLL.out.2 (HE.out.mv (M1.out.trans hHeld) (fun _ h=>h.elim))).mono ?_
      rintro e wn6275 ⟨rfl,hm⟩
      rw [HVB.out]
      have hs:=hHeld.trans hm
      have Awn6275:=zh ((hm.block P5 (lt_of_heap Awn627.out) id).trans Awn627.out)
      have Bwn6275:=zh ((hm.block P6 (lt_of_heap Bwn627.out) id).trans Bwn627.out)
      clear hm
      refine hK.out _ _ hs (fun hHeld=>?_)
      clear hK K'
      try walk_nrm
      clear hs
      refine zo 8 rfl fun K' hK=>?_
      refine wp_store_row 34 (.tmp 5) (.tmp 15) rfl P5 sa rfl rfl 34 Z Awn6275.out HIA.out (HZ.out.trans HZA.out) HOA.out ?_
      have hs:=hHeld.setRow (.inr HP5.out) sa
      have r5:=setRow_heap _ _ _ sa _ _ Awn6275.out
      have r6:=(setRow_other wn6275 P5 P6 sa (Ne.symm HNE.out)).trans Bwn6275.out
      generalize wn6275.setRow P5 sa=wy at hs r5 r6 ⊢
      have R5:=zh r5
      have R6:=zh r6
      clear r5 r6
      refine hK.out _ _ hs (fun hHeld=>?_)
      clear hK K'
      try walk_nrm
      clear hs
      refine zo 9 rfl fun K' hK=>?_
      refine wp_store_row 34 (.tmp 6) (.tmp 18) rfl P6 sb rfl rfl 34 Z R6.out HIB.out (HZ.out.trans HZB.out) HOB.out ?_
      have hs:=hHeld.setRow (.inr HP6.out) sb
      have r6:=setRow_heap _ _ _ sb _ _ R6.out
      have r5:=(setRow_other wy P6 P5 sb HNE.out).trans R5.out
      generalize wy.setRow P6 sb=wz at hs r5 r6 ⊢
      have R5z:=zh r5
      have R6z:=zh r6
      clear r5 r6
      refine hK.out _ _ hs (fun hHeld=>?_)
      clear hK K'
      try walk_nrm
      clear hs
      have HZZ:=zh hHeld
      refine zd ?_
      go_wp2_with fail
      go_meet
      exact ⟨P5,P6,rfl,rfl,R5z.out,R6z.out,HZZ.out⟩
    case rn6x7 =>
     rw [if_pos (by rfl)]
     unfold Oper.wp execOp
     go_simp
     rw [←HZD.out]
     have hm:Mv (fun _=>False) wn6 (wn6.alloc (.cells Z 34)):=(Mv.refl _ _).alloc _
     have hb:(wn6.alloc (.cells Z 34)).heap[wn6.heap.size]?=some (.cells Z 34 (0,0)):=heap_alloc_new wn6 _
     obtain ⟨P6,hP6⟩:=zg (wn6.heap.size)
     have HP6:=zh (show w1.heap.size≤P6 by rw [hP6];exact hHeld.size)
     have HNE:=zh (show P5≠P6 by have:=lt_of_heap Awn6.out;omega)
     rw [←hP6] at hb ⊢
     generalize (wn6.alloc (.cells Z 34))=wn67 at hm hb ⊢
     have Bwn67:=zh hb
     have Awn67:=zh ((hm.block P5 (lt_of_heap Awn6.out) id).trans Awn6.out)
     have hs:=hHeld.trans hm
     clear hm hb hP6
     refine hK.out _ _ hs (fun hHeld=>?_)
     clear hK K'
     try walk_nrm
     clear hs
     refine zo 2 rfl fun K' hK=>?_
     unfold Oper.wp execOp
     go_simp
     refine (sum256_any (.slice pa lx pc) x wn67 (HX.out.mv (M1.out.trans hHeld) (fun _ _ h=>h)) HLL.out.1 (HE.out.mv (M1.out.trans hHeld) (fun _ h=>h.elim))).mono ?_
     rintro e wn672 ⟨rfl,hm⟩
     rw [HVA.out]
     have hs:=hHeld.trans hm
     have Awn672:=zh ((hm.block P5 (lt_of_heap Awn67.out) id).trans Awn67.out)
     have Bwn672:=zh ((hm.block P6 (lt_of_heap Bwn67.out) id).trans Bwn67.out)
     clear hm
     refine hK.out _ _ hs (fun hHeld=>?_)
     clear hK K'
     try walk_nrm
     clear hs
     refine zo 5 rfl fun K' hK=>?_
     unfold Oper.wp execOp
     go_simp
     refine (sum256_any (.slice qa ly qc) y wn672 (HY.out.mv (M1.out.trans hHeld) (fun _ _ h=>h)) HLL.out.2 (HE.out.mv (M1.out.trans hHeld) (fun _ h=>h.elim))).mono ?_
     rintro e wn6725 ⟨rfl,hm⟩
     rw [HVB.out]
     have hs:=hHeld.trans hm
     have Awn6725:=zh ((hm.block P5 (lt_of_heap Awn672.out) id).trans Awn672.out)
     have Bwn6725:=zh ((hm.block P6 (lt_of_heap Bwn672.out) id).trans Bwn672.out)
     clear hm
     refine hK.out _ _ hs (fun hHeld=>?_)
     clear hK K'
     try walk_nrm
     clear hs
     refine zo 8 rfl fun K' hK=>?_
     refine wp_store_row 34 (.tmp 5) (.tmp 15) rfl P5 sa rfl rfl 34 Z Awn6725.out HIA.out (HZ.out.trans HZA.out) HOA.out ?_
     have hs:=hHeld.setRow (.inr HP5.out) sa
     have r5:=setRow_heap _ _ _ sa _ _ Awn6725.out
     have r6:=(setRow_other wn6725 P5 P6 sa (Ne.symm HNE.out)).trans Bwn6725.out
     generalize wn6725.setRow P5 sa=wy at hs r5 r6 ⊢
     have R5:=zh r5
     have R6:=zh r6
     clear r5 r6
     refine hK.out _ _ hs (fun hHeld=>?_)
     clear hK K'
     try walk_nrm
     clear hs
     refine zo 9 rfl fun K' hK=>?_
     refine wp_store_row 34 (.tmp 6) (.tmp 18) rfl P6 sb rfl rfl 34 Z R6.out HIB.out (HZ.out.trans HZB.out) HOB.out ?_
     have hs:=hHeld.setRow (.inr HP6.out) sb
     have r6:=setRow_heap _ _ _ sb _ _ R6.out
     have r5:=(setRow_other wy P6 P5 sb HNE.out).trans R5.out
     generalize wy.setRow P6 sb=wz at hs r5 r6 ⊢
     have R5z:=zh r5
     have R6z:=zh r6
     clear r5 r6
     refine hK.out _ _ hs (fun hHeld=>?_)
     clear hK K'
     try walk_nrm
     clear hs
     have HZZ:=zh hHeld
     refine zd ?_
     go_wp2_with fail
     go_meet
     exact ⟨P5,P6,rfl,rfl,R5z.out,R6z.out,HZZ.out⟩
   case rnx7 =>
    rw [if_pos (by rfl)]
    unfold Oper.wp execOp
    go_simp
    rw [←HZD.out]
    have hm:Mv (fun _=>False) w1 (w1.alloc (.cells Z 34)).drew:=((Mv.refl _ _).alloc _).drew
    have hb:(w1.alloc (.cells Z 34)).drew.heap[w1.heap.size]?=some (.cells Z 34 (0,0)):=heap_alloc_new w1 _
    obtain ⟨P6,hP6⟩:=zg (w1.heap.size)
    have HP6:=zh (show w1.heap.size≤P6 by rw [hP6];exact Nat.le_refl _)
    rw [←hP6] at hb ⊢
    generalize (w1.alloc (.cells Z 34)).drew=wn7 at hm hb ⊢
    have Bwn7:=zh hb
    have hs:=hm
    clear hm hb hP6
    refine hK.out _ _ hs (fun hHeld=>?_)
    clear hK K'
    try walk_nrm
    clear hs
    refine wpAnyH_ready (rs:=[2,6]) (by kernel_rfl) (by simp) (AllReadyH.cons rfl (fun K' hK=>?rn7x2) (AllReadyH.cons rfl (fun K' hK=>?rn7x6) AllReadyH.nil))
    case rn7x2 =>
     rw [if_pos (by rfl)]
     unfold Oper.wp execOp
     go_simp
     refine (sum256_any (.slice pa lx pc) x wn7 (HX.out.mv (M1.out.trans hHeld) (fun _ _ h=>h)) HLL.out.1 (HE.out.mv (M1.out.trans hHeld) (fun _ h=>h.elim))).mono ?_
     rintro e wn72 ⟨rfl,hm⟩
     rw [HVA.out]
     have hs:=hHeld.trans hm
     have Bwn72:=zh ((hm.block P6 (lt_of_heap Bwn7.out) id).trans Bwn7.out)
     clear hm
     refine hK.out _ _ hs (fun hHeld=>?_)
     clear hK K'
     try walk_nrm
     clear hs
     refine wpAnyH_ready (rs:=[5,6]) (by kernel_rfl) (by simp) (AllReadyH.cons rfl (fun K' hK=>?rn72x5) (AllReadyH.cons rfl (fun K' hK=>?rn72x6) AllReadyH.nil))
     case rn72x5 =>
      rw [if_pos (by rfl)]
      unfold Oper.wp execOp
      go_simp
      refine (sum256_any (.slice qa ly qc) y wn72 (HY.out.mv (M1.out.trans hHeld) (fun _ _ h=>h)) HLL.out.2 (HE.out.mv (M1.out.trans hHeld) (fun _ h=>h.elim))).mono ?_
      rintro e wn725 ⟨rfl,hm⟩
      rw [HVB.out]
      have hs:=hHeld.trans hm
      have Bwn725:=zh ((hm.block P6 (lt_of_heap Bwn72.out) id).trans Bwn72.out)
      clear hm
      refine hK.out _ _ hs (fun hHeld=>?_)
      clear hK K'
      try walk_nrm
      clear hs
      refine zo 6 rfl fun K' hK=>?_
      unfold Oper.wp execOp
      go_simp
      rw [←HZD.out]
      have hm:Mv (fun _=>False) wn725 (wn725.alloc (.cells Z 34)):=(Mv.refl _ _).alloc _
      have hb:(wn725.alloc (.cells Z 34)).heap[wn725.heap.size]?=some (.cells Z 34 (0,0)):=heap_alloc_new wn725 _
      obtain ⟨P5,hP5⟩:=zg (wn725.heap.size)
      have HP5:=zh (show w1.heap.size≤P5 by rw [hP5];exact hHeld.size)
      have HNE:=zh (show P5≠P6 by have:=lt_of_heap Bwn725.out;omega)
      rw [←hP5] at hb ⊢
      generalize (wn725.alloc (.cells Z 34))=wn7256 at hm hb ⊢
      have Awn7256:=zh hb
      have Bwn7256:=zh ((hm.block P6 (lt_of_heap Bwn725.out) id).trans Bwn725.out)
      have hs:=hHeld.trans hm
      clear hm hb hP5
      refine hK.out _ _ hs (fun hHeld=>?_)
      clear hK K'
      try walk_nrm
      clear hs
      refine zo 8 rfl fun K' hK=>?_
      refine wp_store_row 34 (.tmp 5) (.tmp 15) rfl P5 sa rfl rfl 34 Z Awn7256.out HIA.out (HZ.out.trans HZA.out) HOA.out ?_
      have hs:=hHeld.setRow (.inr HP5.out) sa
      have r5:=setRow_heap _ _ _ sa _ _ Awn7256.out
      have r6:=(setRow_other wn7256 P5 P6 sa (Ne.symm HNE.out)).trans Bwn7256.out
      generalize wn7256.setRow P5 sa=wy at hs r5 r6 ⊢
      have R5:=zh r5
      have R6:=zh r6
      clear r5 r6
      refine hK.out _ _ hs (fun hHeld=>?_)
      clear hK K'
      try walk_nrm
      clear hs
      refine zo 9 rfl fun K' hK=>?_
      refine wp_store_row 34 (.tmp 6) (.tmp 18) rfl P6 sb rfl rfl 34 Z R6.out HIB.out (HZ.out.trans HZB.out) HOB.out ?_
      have hs:=hHeld.setRow (.inr HP6.out) sb
      have r6:=setRow_heap _ _ _ sb _ _ R6.out
      have r5:=(setRow_other wy P6 P5 sb HNE.out).trans R5.out
      generalize wy.setRow P6 sb=wz at hs r5 r6 ⊢
      have R5z:=zh r5
      have R6z:=zh r6
      clear r5 r6
      refine hK.out _ _ hs (fun hHeld=>?_)
      clear hK K'
      try walk_nrm
      clear hs
      have HZZ:=zh hHeld
      refine zd ?_
      go_wp2_with fail
      go_meet
      exact ⟨P5,P6,rfl,rfl,R5z.out,R6z.out,HZZ.out⟩
     case rn72x6 =>
      rw [if_pos (by rfl)]
      unfold Oper.wp execOp
      go_simp
      rw [←HZD.out]
      have hm:Mv (fun _=>False) wn72 (wn72.alloc (.cells Z 34)):=(Mv.refl _ _).alloc _
      have hb:(wn72.alloc (.cells Z 34)).heap[wn72.heap.size]?=some (.cells Z 34 (0,0)):=heap_alloc_new wn72 _
      obtain ⟨P5,hP5⟩:=zg (wn72.heap.size)
      have HP5:=zh (show w1.heap.size≤P5 by rw [hP5];exact hHeld.size)
      have HNE:=zh (show P5≠P6 by have:=lt_of_heap Bwn72.out;omega)
      rw [←hP5] at hb ⊢
      generalize (wn72.alloc (.cells Z 34))=wn726 at hm hb ⊢
      have Awn726:=zh hb
      have Bwn726:=zh ((hm.block P6 (lt_of_heap Bwn72.out) id).trans Bwn72.out)
      have hs:=hHeld.trans hm
      clear hm hb hP5
      refine hK.out _ _ hs (fun hHeld=>?_)
      clear hK K'
      try walk_nrm
      clear hs
      refine zo 5 rfl fun K' hK=>?_
      unfold Oper.wp execOp
      go_simp
      refine (sum256_any (.slice qa ly qc) y wn726 (HY.out.mv (M1.out.trans hHeld) (fun _ _ h=>h)) HLL.out.2 (HE.out.mv (M1.out.trans hHeld) (fun _ h=>h.elim))).mono ?_
      rintro e wn7265 ⟨rfl,hm⟩
      rw [HVB.out]
      have hs:=hHeld.trans hm
      have Awn7265:=zh ((hm.block P5 (lt_of_heap Awn726.out) id).trans Awn726.out)
      have Bwn7265:=zh ((hm.block P6 (lt_of_heap Bwn726.out) id).trans Bwn726.out)
      clear hm
      refine hK.out _ _ hs (fun hHeld=>?_)
      clear hK K'
      try walk_nrm
      clear hs
      refine zo 8 rfl fun K' hK=>?_
      refine wp_store_row 34 (.tmp 5) (.tmp 15) rfl P5 sa rfl rfl 34 Z Awn7265.out HIA.out (HZ.out.trans HZA.out) HOA.out ?_
      have hs:=hHeld.setRow (.inr HP5.out) sa
      have r5:=setRow_heap _ _ _ sa _ _ Awn7265.out
      have r6:=(setRow_other wn7265 P5 P6 sa (Ne.symm HNE.out)).trans Bwn7265.out
      generalize wn7265.setRow P5 sa=wy at hs r5 r6 ⊢
      have R5:=zh r5
      have R6:=zh r6
      clear r5 r6
      refine hK.out _ _ hs (fun hHeld=>?_)
      clear hK K'
      try walk_nrm
      clear hs
      refine zo 9 rfl fun K' hK=>?_
      refine wp_store_row 34 (.tmp 6) (.tmp 18) rfl P6 sb rfl rfl 34 Z R6.out HIB.out (HZ.out.trans HZB.out) HOB.out ?_
      have hs:=hHeld.setRow (.inr HP6.out) sb
      have r6:=setRow_heap _ _ _ sb _ _ R6.out
      have r5:=(setRow_other wy P6 P5 sb HNE.out).trans R5.out
      generalize wy.setRow P6 sb=wz at hs r5 r6 ⊢
      have R5z:=zh r5
      have R6z:=zh r6
      clear r5 r6
      refine hK.out _ _ hs (fun hHeld=>?_)
      clear hK K'
      try walk_nrm
      clear hs
      have HZZ:=zh hHeld
      refine zd ?_
      go_wp2_with fail
      go_meet
      exact ⟨P5,P6,rfl,rfl,R5z.out,R6z.out,HZZ.out⟩
    case rn7x6 =>
     rw [if_pos (by rfl)]
     unfold Oper.wp execOp
     go_simp
     rw [←HZD.out]
     have hm:Mv (fun _=>False) wn7 (wn7.alloc (.cells Z 34)):=(Mv.refl _ _).alloc _
     have hb:(wn7.alloc (.cells Z 34)).heap[wn7.heap.size]?=some (.cells Z 34 (0,0)):=heap_alloc_new wn7 _
     obtain ⟨P5,hP5⟩:=zg (wn7.heap.size)
     have HP5:=zh (show w1.heap.size≤P5 by rw [hP5];exact hHeld.size)
     have HNE:=zh (show P5≠P6 by have:=lt_of_heap Bwn7.out;omega)
     rw [←hP5] at hb ⊢
     generalize (wn7.alloc (.cells Z 34))=wn76 at hm hb ⊢
     have Awn76:=zh hb
     have Bwn76:=zh ((hm.block P6 (lt_of_heap Bwn7.out) id).trans Bwn7.out)
     have hs:=hHeld.trans hm
     clear hm hb hP5
     refine hK.out _ _ hs (fun hHeld=>?_)
     clear hK K'
     try walk_nrm
     clear hs
     refine zo 2 rfl fun K' hK=>?_
     unfold Oper.wp execOp
     go_simp
     refine (sum256_any (.slice pa lx pc) x wn76 (HX.out.mv (M1.out.trans hHeld) (fun _ _ h=>h)) HLL.out.1 (HE.out.mv (M1.out.trans hHeld) (fun _ h=>h.elim))).mono ?_
     rintro e wn762 ⟨rfl,hm⟩
     rw [HVA.out]
     have hs:=hHeld.trans hm
     have Awn762:=zh ((hm.block P5 (lt_of_heap Awn76.out) id).trans Awn76.out)
     have Bwn762:=zh ((hm.block P6 (lt_of_heap Bwn76.out) id).trans Bwn76.out)
     clear hm
     refine hK.out _ _ hs (fun hHeld=>?_)
     clear hK K'
     try walk_nrm
     clear hs
     refine zo 5 rfl fun K' hK=>?_
     unfold Oper.wp execOp
     go_simp
     refine (sum256_any (.slice qa ly qc) y wn762 (HY.out.mv (M1.out.trans hHeld) (fun _ _ h=>h)) HLL.out.2 (HE.out.mv (M1.out.trans hHeld) (fun _ h=>h.elim))).mono ?_
     rintro e wn7625 ⟨rfl,hm⟩
     rw [HVB.out]
     have hs:=hHeld.trans hm
     have Awn7625:=zh ((hm.block P5 (lt_of_heap Awn762.out) id).trans Awn762.out)
     have Bwn7625:=zh ((hm.block P6 (lt_of_heap Bwn762.out) id).trans Bwn762.out)
     clear hm
     refine hK.out _ _ hs (fun hHeld=>?_)
     clear hK K'
     try walk_nrm
     clear hs
     refine zo 8 rfl fun K' hK=>?_
     refine wp_store_row 34 (.tmp 5) (.tmp 15) rfl P5 sa rfl rfl 34 Z Awn7625.out HIA.out (HZ.out.trans HZA.out) HOA.out ?_
     have hs:=hHeld.setRow (.inr HP5.out) sa
     have r5:=setRow_heap _ _ _ sa _ _ Awn7625.out
     have r6:=(setRow_other wn7625 P5 P6 sa (Ne.symm HNE.out)).trans Bwn7625.out
     generalize wn7625.setRow P5 sa=wy at hs r5 r6 ⊢
     have R5:=zh r5
     have R6:=zh r6
     clear r5 r6
     refine hK.out _ _ hs (fun hHeld=>?_)
     clear hK K'
     try walk_nrm
     clear hs
     refine zo 9 rfl fun K' hK=>?_
     refine wp_store_row 34 (.tmp 6) (.tmp 18) rfl P6 sb rfl rfl 34 Z R6.out HIB.out (HZ.out.trans HZB.out) HOB.out ?_
     have hs:=hHeld.setRow (.inr HP6.out) sb
     have r6:=setRow_heap _ _ _ sb _ _ R6.out
     have r5:=(setRow_other wy P6 P5 sb HNE.out).trans R5.out
     generalize wy.setRow P6 sb=wz at hs r5 r6 ⊢
     have R5z:=zh r5
     have R6z:=zh r6
     clear r5 r6
     refine hK.out _ _ hs (fun hHeld=>?_)
     clear hK K'
     try walk_nrm
     clear hs
     have HZZ:=zh hHeld
     refine zd ?_
     go_wp2_with fail
     go_meet
     exact ⟨P5,P6,rfl,rfl,R5z.out,R6z.out,HZZ.out⟩
  case rest =>
   obtain ⟨P5,P6,rfl,rfl,r5,r6,hmc⟩:=hcut
   have R5:=zh r5
   have R6:=zh r6
   have MC:=zh hmc
   have MW:=zh (M1.out.trans hmc)
   have TC:=zh ((hmc.block T (lt_of_heap T1.out) id).trans T1.out)
   clear r5 r6 hmc
   go_upto_region 4 with fail
   refine wp_region_noPanic ?_
   refine wp_region_held_drew (S:=(fun w'=>Mv (fun _=>False) wc w')) (by kernel_rfl) ((Mv.refl _ _).drew) (fun hHeld=>?_)
   refine zt 0 (.pointer (some ⟨T,0,none⟩)) rfl (fun _ hS=>by go_simp) hHeld ?_
   try walk_nrm
   refine zt 1 (.slice pa lx pc) rfl (fun _ hS=>by have t0:=cell_of_heap ((Mv.block hS T (lt_of_heap TC.out) id).trans TC.out) 0 rfl;go_simp) hHeld ?_
   try walk_nrm
   refine zt 2 (.pointer (some ⟨T,1,none⟩)) rfl (fun _ hS=>by go_simp) hHeld ?_
   try walk_nrm
   refine zt 3 (.slice qa ly qc) rfl (fun _ hS=>by have t0:=cell_of_heap ((Mv.block hS T (lt_of_heap TC.out) id).trans TC.out) 1 rfl;go_simp) hHeld ?_
   try walk_nrm
   refine zo 4 rfl fun K' hK=>?_
   unfold Oper.wp execOp
   go_simp
   refine (equal_any (.slice pa lx pc) (.slice qa ly qc) x y wc.drew (HX.out.mv (MW.out.trans hHeld) (fun _ _ h=>h)) (HY.out.mv (MW.out.trans hHeld) (fun _ _ h=>h))).mono ?_
   rintro e w' ⟨rfl,rfl⟩
   obtain ⟨E1,hE1⟩:=zg ((x == y))
   rw [←hE1]
   have HE1:=zh hE1
   clear hE1
   refine hK.out _ _ hHeld (fun hHeld=>?_)
   clear hK K'
   try walk_nrm
   have HANS2:Hid (ans=(!E1 && ((sha x).take K == (sha y).take K))):=zh (by rw [HANS.out,HE1.out,HK.out];rfl)
   cases E1
   case false =>
    refine zt 5 (.bool true) rfl (fun _ hS=>by go_simp) hHeld ?_
    try walk_nrm
    refine zt 6 (.bool true) rfl (fun _ hS=>by go_simp) hHeld ?_
    try walk_nrm
    refine zt 7 (.int .i64 K) rfl (fun _ hS=>by go_simp) hHeld ?_
    try walk_nrm
    refine zt 8 (.slice (some ⟨P5,0,none⟩) K 32) rfl (fun _ hS=>by have q:=hsl P5;go_simp) hHeld ?_
    try walk_nrm
    refine zt 9 (.int .i64 K) rfl (fun _ hS=>by go_simp) hHeld ?_
    try walk_nrm
    refine zt 10 (.slice (some ⟨P6,0,none⟩) K 32) rfl (fun _ hS=>by have q:=hsl P6;go_simp) hHeld ?_
    try walk_nrm
    refine zo 11 rfl fun K' hK=>?_
    unfold Oper.wp execOp
    go_simp
    refine (equal_any (.slice (some ⟨P5,0,none⟩) K 32) (.slice (some ⟨P6,0,none⟩) K 32) ((sha x).take K) ((sha y).take K) wc.drew (take_slin hK32 (sha_length _) HSA.out ((hHeld.block P5 (lt_of_heap R5.out) id).trans R5.out)) (take_slin hK32 (sha_length _) HSB.out ((hHeld.block P6 (lt_of_heap R6.out) id).trans R6.out))).mono ?_
    rintro e w' ⟨rfl,rfl⟩
    rw [show ((sha x).take K == (sha y).take K)=ans by rw [HANS2.out];rfl]
    refine hK.out _ _ hHeld (fun hHeld=>?_)
    clear hK K'
    try walk_nrm
    refine zt 12 (.bool ans) rfl (fun _ hS=>by go_simp) hHeld ?_
    try walk_nrm
    refine zt 13 (.bool ans) rfl (fun _ hS=>by go_simp) hHeld ?_
    try walk_nrm
    have HF:=zh hHeld
    refine zd ?_
    go_wp2_with fail
    go_ret
    exact ⟨rfl,MW.out.trans HF.out⟩
   case true =>
    have hans:ans=false:=by rw [HANS2.out];rfl
    subst hans
    refine zt 5 (.bool false) rfl (fun _ hS=>by go_simp) hHeld ?_
    try walk_nrm
    refine zt 6 (.bool false) rfl (fun _ hS=>by go_simp) hHeld ?_
    try walk_nrm
    refine zj 7 undef rfl (Or.inr ⟨by rfl,rfl⟩) hHeld ?_
    try walk_nrm
    refine zj 8 undef rfl (Or.inr ⟨by rfl,rfl⟩) hHeld ?_
    try walk_nrm
    refine zj 9 undef rfl (Or.inr ⟨by rfl,rfl⟩) hHeld ?_
    try walk_nrm
    refine zj 10 undef rfl (Or.inr ⟨by rfl,rfl⟩) hHeld ?_
    try walk_nrm
    refine zj 11 undef rfl (Or.inr ⟨by rfl,rfl⟩) hHeld ?_
    try walk_nrm
    refine zt 12 (.bool false) rfl (fun _ hS=>by go_simp) hHeld ?_
    try walk_nrm
    refine zt 13 (.bool false) rfl (fun _ hS=>by go_simp) hHeld ?_
    try walk_nrm
    have HF:=zh hHeld
    refine zd ?_
    go_wp2_with fail
    go_ret
    exact ⟨rfl,MW.out.trans HF.out⟩
theorem collP_alike {k:Int} {x y:Bs} (h:Alike k x y):collP k x y=true:=by
 have e:(sha x).take (effK k)=(sha y).take (effK k):=by
  apply List.ext_getElem?
  intro j
  by_cases hj:j<effK k
  ·rw [List.getElem?_take_of_lt hj,List.getElem?_take_of_lt hj];exact alike_bytes h j hj
  ·rw [List.getElem?_eq_none (by rw [List.length_take];omega),List.getElem?_eq_none (by rw [List.length_take];omega)]
 unfold collP
 rw [e,show (x == y)=false by simpa using h.1]
 simp
def holdsP (k kind:Int) (x y:Bs) (h:HeadP) (i j:Int) (a b pth ver:ByteArray) (pa pb:List Bs):Bool :=
 if kind=1 then (h.eq head0 && i == 0 && j == 0 && a.toList == [] && b.toList == [] && pa.length == 0 && pb.length == 0) && collP k x y
 else if kind=2 then
  !(!(x.length == 0) || !(y.length == 0) || decide (i<0) || decide (j≤i) || a.toList == b.toList) && (isOfP a.data.toList pth.data.toList ver.data.toList && isOfP b.data.toList pth.data.toList ver.data.toList) && (checkAns k h.n i h.root (leafP k a.data.toList) pa == 0 && checkAns k h.n j h.root (leafP k b.data.toList) pb == 0)
 else false
theorem headV_of (h:HeadP):h.V=headV h.o h.n h.root:=rfl
theorem verL_head (kind:Int) (p q:Value) (hl:List Value) (i j:Int) (a b:ByteArray) (va vb:Value) (t:Nat) (u:Value) (hu:hl[t]?=some u):(verL kind p q hl i j a b va vb)[3+t]?=some u:=by
 unfold verL
 rw [List.getElem?_append_right (by simp),List.getElem?_append_left (by have:=(List.getElem?_eq_some_iff.1 hu).1;simp;omega)]
 simp only [List.length_cons,List.length_nil]
 rw [show 3+t - (0+1+1+1)=t by omega];exact hu
set_option maxRecDepth 100000 in
set_option maxHeartbeats 6400000 in
theorem holds_any (k kind:Int) (p q:Value) (x y:Bs) (h:HeadP) (i j:Int) (a b pth ver:ByteArray) (va vb:Value) (pa pb:List Bs) (w:World) (hp:SlIn w p x) (hq:SlIn w q y) (hxl:x.length≤1048576) (hyl:y.length≤1048576) (hh:h.root.length=32)
  (ha:a.size≤1048576) (hb:b.size≤1048576) (hva:HsIn w va pa) (hvb:HsIn w vb pb) (hpa:pa.length≤1099511627776) (hpb:pb.length≤1099511627776) (he:EnvH w) (henv:EnvP w) :
  Calls Tryz.prog 9 #[.int .i64 k,.agg (verL kind p q h.V i j a b va vb).toArray,.string pth,.string ver] w fun e w'=>e=.returned (.bool (holdsP k kind x y h i j a b pth ver pa pb))∧Mv (fun _=>False) w w':=by
 obtain ⟨xa,xc,hsh⟩:=hp.shape
 subst hsh
 obtain ⟨ya,yc,hsh⟩:=hq.shape
 subst hsh
 obtain ⟨aa,ac,hsh⟩:=hva.shape
 subst hsh
 obtain ⟨ba,bc,hsh⟩:=hvb.shape
 subst hsh
 obtain ⟨lx,hlx⟩:=zg (x.length)
 obtain ⟨ly,hly⟩:=zg (y.length)
 obtain ⟨la,hla⟩:=zg (pa.length)
 obtain ⟨lb,hlb⟩:=zg (pb.length)
 have hhl:h.V.length=34:=HeadP.V_len _ hh
 obtain ⟨k37,k38,k39,k40,k41,k42⟩:=verL_at kind (.slice xa x.length xc) (.slice ya y.length yc) h.V i j a b (.slice aa pa.length ac) (.slice ba pb.length bc) hhl
 have kh:=verL_head kind (.slice xa x.length xc) (.slice ya y.length yc) h.V i j a b (.slice aa pa.length ac) (.slice ba pb.length bc)
 have hvl:=verL_len kind (.slice xa x.length xc) (.slice ya y.length yc) h.V i j a b (.slice aa pa.length ac) (.slice ba pb.length bc) hhl
 obtain ⟨vl,hvl0⟩:=zg (verL kind (.slice xa x.length xc) (.slice ya y.length yc) h.V i j a b (.slice aa pa.length ac) (.slice ba pb.length bc))
 have k0:vl[0]?=some (.int .i64 kind):=by rw [hvl0];rfl
 have k1:vl[1]?=some (.slice xa x.length xc):=by rw [hvl0];rfl
 have k2:vl[2]?=some (.slice ya y.length yc):=by rw [hvl0];rfl
 rw [←hvl0] at k37 k38 k39 k40 k41 k42 kh hvl ⊢
 rw [←hlx] at k1
 rw [←hly] at k2
 rw [←hla] at k41
 rw [←hlb] at k42
 obtain ⟨hv,hhv⟩:=zg (h.V)
 rw [←hhv] at kh hhl
 have hheq:=head_eql h head0 hh rfl
 rw [←hhv,head0_lit] at hheq
 have heg:=eqg36
 obtain ⟨c0,hc0⟩:=zg (h.eq head0)
 rw [←hc0] at hheq
 obtain ⟨c1,hc1⟩:=zg ((i == 0))
 obtain ⟨c2,hc2⟩:=zg ((j == 0))
 obtain ⟨c3,hc3⟩:=zg ((a.toList == []))
 obtain ⟨c4,hc4⟩:=zg ((b.toList == []))
 obtain ⟨c5,hc5⟩:=zg (((la:Int) == 0))
 obtain ⟨c6,hc6⟩:=zg (((lb:Int) == 0))
 obtain ⟨d0,hd0⟩:=zg (((lx:Int) == 0))
 obtain ⟨d1,hd1⟩:=zg (((ly:Int) == 0))
 obtain ⟨d4,hd4⟩:=zg ((a.toList == b.toList))
 have hnat:∀ n:Nat,(n == 0)=((n:Int) == 0):=fun n=>by cases n <;> rfl
 obtain ⟨e1,he1⟩:=zg (isOfP a.data.toList pth.data.toList ver.data.toList)
 obtain ⟨e2,he2⟩:=zg (isOfP b.data.toList pth.data.toList ver.data.toList)
 obtain ⟨e3,he3⟩:=zg ((checkAns k h.n i h.root (leafP k a.data.toList) pa == 0))
 obtain ⟨e4,he4⟩:=zg ((checkAns k h.n j h.root (leafP k b.data.toList) pb == 0))
 obtain ⟨e0,he0⟩:=zg (collP k x y)
 obtain ⟨ans,hans⟩:=zg (holdsP k kind x y h i j a b pth ver pa pb)
 rw [←hans]
 have HVAL:Hid (ans=if kind=1 then (c0 && c1 && c2 && c3 && c4 && c5 && c6) && e0 else if kind=2 then !(!d0 || !d1 || decide (i<0) || decide (j≤i) || d4) && (e1 && e2) && (e3 && e4) else false):=zh (by
  rw [hans,hc0,hc1,hc2,hc3,hc4,hc5,hc6,hd0,hd1,hd4,he0,he1,he2,he3,he4,hla,hlb,hlx,hly,←hnat,←hnat,←hnat,←hnat];rfl)
 have g1:=hc1.symm
 have g2:=hc2.symm
 have g3:=hc3.symm
 have g4:=hc4.symm
 have g5:=hc5.symm
 have g6:=hc6.symm
 have HD0:=zh hd0
 have HD1:=zh hd1
 have f4:=hd4.symm
 have HCOL:Hid (∀ W,Mv (fun _=>False) w W→Calls Tryz.prog 41 #[.int .i64 k,.agg #[.slice xa lx xc,.slice ya ly yc]] W fun e w'=>e=.returned (.bool e0)∧Mv (fun _=>False) W w'):=zh fun W hW=>by
  rw [he0,hlx,hly];exact collidesG_any k _ _ x y W (hp.mv hW (fun _ _ h=>h)) (hq.mv hW (fun _ _ h=>h)) hxl hyl (he.mv hW (fun _ h=>h.elim))
 have HOFA:Hid (∀ W,Mv (fun _=>False) w W→Calls Tryz.prog 42 #[.string a,.string pth,.string ver] W fun e w'=>e=.returned (.bool e1)∧Mv (fun _=>False) W w'):=zh fun W hW=>by
  rw [he1];exact (isOf_any a pth ver W (henv.mv hW) ha).mono fun e w' ⟨h1,h2⟩=>⟨h1,Mv.of_below h2⟩
 have HOFB:Hid (∀ W,Mv (fun _=>False) w W→Calls Tryz.prog 42 #[.string b,.string pth,.string ver] W fun e w'=>e=.returned (.bool e2)∧Mv (fun _=>False) W w'):=zh fun W hW=>by
  rw [he2];exact (isOf_any b pth ver W (henv.mv hW) hb).mono fun e w' ⟨h1,h2⟩=>⟨h1,Mv.of_below h2⟩
 have HSTA:Hid (∀ W,Mv (fun _=>False) w W→Calls Tryz.prog 43 #[.int .i64 k,.slice aa la ac,.agg hv.toArray,.int .i64 i,.string a] W fun e w'=>e=.returned (.bool e3)∧Mv (fun _=>False) W w'):=zh fun W hW=>by
  rw [he3,hla,hhv,headV_of];exact stands_any k _ pa h.o h.n h.root i a W (hva.mv hW (fun _ _ h=>h)) hh hpa (by omega) (he.mv hW (fun _ h=>h.elim))
 have HSTB:Hid (∀ W,Mv (fun _=>False) w W→Calls Tryz.prog 43 #[.int .i64 k,.slice ba lb bc,.agg hv.toArray,.int .i64 j,.string b] W fun e w'=>e=.returned (.bool e4)∧Mv (fun _=>False) W w'):=zh fun W hW=>by
  rw [he4,hlb,hhv,headV_of];exact stands_any k _ pb h.o h.n h.root j b W (hvb.mv hW (fun _ _ h=>h)) hh hpb (by omega) (he.mv hW (fun _ h=>h.elim))
 have HIH:Hid ((Tryz.prog.info? 36).map (·.size)=some hv.length):=zh (by rw [hhl];exact info36)
 have HIP:Hid ((Tryz.prog.info? 33).map (·.size)=some ([.slice xa lx xc,.slice ya ly yc]:List Value).length):=zh info33
 have HKH:=zh kh
 have K0:=zh k0
 have K1:=zh k1
 have K2:=zh k2
 have K37:=zh k37
 have K38:=zh k38
 have K39:=zh k39
 have K40:=zh k40
 have K41:=zh k41
 have K42:=zh k42
 clear hans hp hq hxl hyl hh ha hb hva hvb hpa hpb he henv hlx hly hla hlb hhl hvl hvl0 hhv hc0 hc1 hc2 hc3 hc4 hc5 hc6 hd0 hd1 hd4 hnat he0 he1 he2 he3 he4 kh k0 k1 k2 k37 k38 k39 k40 k41 k42
 go_enter Tryz.func9,Tryz.ntmps9
 go_upto_region 1 with fail
 obtain ⟨A,hA⟩:=zg (w.heap.size)
 have hm1:Mv (fun _=>False) w (w.alloc (.cells vl.toArray 39)):=(Mv.refl _ _).alloc _
 have h1:(w.alloc (.cells vl.toArray 39)).heap[A]?=some (.cells vl.toArray 39 (0,0)):=by rw [hA];exact heap_alloc_new _ _
 rw [←hA]
 generalize w.alloc (.cells vl.toArray 39)=w1 at hm1 h1 ⊢
 have M1:=zh hm1
 have H1:=zh h1
 have HCL:Hid (∀ W,Mv (fun _=>False) w1 W→∀ (t:Nat) u,vl[t]?=some u→W.cell? ⟨A,t,none⟩=some u):=zh fun W hW t u hu=>cell_of_heap ((hW.block A (lt_of_heap H1.out) id).trans H1.out) t (by simpa using hu)
 have HHC:Hid (∀ W,Mv (fun _=>False) w1 W→∀ (t:Nat) u,hv[t]?=some u→W.cell? ⟨A,3+t,none⟩=some u):=zh fun W hW t u hu=>HCL.out W hW (3+t) u (HKH.out t u hu)
 have HPC:Hid (∀ W,Mv (fun _=>False) w1 W→∀ (t:Nat) u,([.slice xa lx xc,.slice ya ly yc]:List Value)[t]?=some u→W.cell? ⟨A,1+t,none⟩=some u):=zh fun W hW t u hu=>by
  match t,hu with
  | 0,hu=>cases hu;exact HCL.out W hW 1 _ K1.out
  | 1,hu=>cases hu;exact HCL.out W hW 2 _ K2.out
 have R1:=HCL.out _ (Mv.refl _ w1)
 have r0:=R1 0 _ K0.out
 have r1:=R1 1 _ K1.out
 have r2:=R1 2 _ K2.out
 have r37:=R1 37 _ K37.out
 have r38:=R1 38 _ K38.out
 have r39:=R1 39 _ K39.out
 have r40:=R1 40 _ K40.out
 have r41:=R1 41 _ K41.out
 have r42:=R1 42 _ K42.out
 clear hA hm1 h1 R1
 have HC0:=HHC.out _ (Mv.refl _ w1)
 have HCH:=zh HC0
 clear HC0
 have HP0:=HPC.out _ (Mv.refl _ w1)
 have HCP:=zh HP0
 clear HP0
 by_cases hk1:kind=1
 ·subst hk1
  cases c0 with
  | false =>
   have hv0:ans=false:=by rw [HVAL.out];simp
   subst hv0
   go_wp2_with ((refine wpList_load_cellsAt rfl 36 (.tmp 14) rfl A 3 rfl hv _ HCH.out Tryz.underlying36 rfl HIH.out ?_);go_wp2_with fail)
   go_ret
   exact ⟨rfl,M1.out⟩
  | true =>
   cases c1 with
   | false =>
    have hv0:ans=false:=by rw [HVAL.out];simp
    subst hv0
    go_wp2_with ((refine wpList_load_cellsAt rfl 36 (.tmp 14) rfl A 3 rfl hv _ HCH.out Tryz.underlying36 rfl HIH.out ?_);go_wp2_with fail)
    go_ret
    exact ⟨rfl,M1.out⟩
   | true =>
    cases c2 with
    | false =>
     have hv0:ans=false:=by rw [HVAL.out];simp
     subst hv0
     go_wp2_with ((refine wpList_load_cellsAt rfl 36 (.tmp 14) rfl A 3 rfl hv _ HCH.out Tryz.underlying36 rfl HIH.out ?_);go_wp2_with fail)
     go_ret
     exact ⟨rfl,M1.out⟩
    | true =>
     cases c3 with
     | false =>
      have hv0:ans=false:=by rw [HVAL.out];simp
      subst hv0
      go_wp2_with ((refine wpList_load_cellsAt rfl 36 (.tmp 14) rfl A 3 rfl hv _ HCH.out Tryz.underlying36 rfl HIH.out ?_);go_wp2_with fail)
      go_ret
      exact ⟨rfl,M1.out⟩
     | true =>
      cases c4 with
      | false =>
       have hv0:ans=false:=by rw [HVAL.out];simp
       subst hv0
       go_wp2_with ((refine wpList_load_cellsAt rfl 36 (.tmp 14) rfl A 3 rfl hv _ HCH.out Tryz.underlying36 rfl HIH.out ?_);go_wp2_with fail)
       go_ret
       exact ⟨rfl,M1.out⟩
      | true =>
       cases c5 with
       | false =>
        have hv0:ans=false:=by rw [HVAL.out];simp
        subst hv0
        go_wp2_with ((refine wpList_load_cellsAt rfl 36 (.tmp 14) rfl A 3 rfl hv _ HCH.out Tryz.underlying36 rfl HIH.out ?_);go_wp2_with fail)
        go_ret
        exact ⟨rfl,M1.out⟩
       | true =>
        cases c6 with
        | false =>
         have hv0:ans=false:=by rw [HVAL.out];simp
         subst hv0
         go_wp2_with ((refine wpList_load_cellsAt rfl 36 (.tmp 14) rfl A 3 rfl hv _ HCH.out Tryz.underlying36 rfl HIH.out ?_);go_wp2_with fail)
         go_ret
         exact ⟨rfl,M1.out⟩
        | true =>
         have hv0:ans=e0:=by rw [HVAL.out];simp
         subst hv0
         go_wp2_with ((refine wpList_load_cellsAt rfl 36 (.tmp 14) rfl A 3 rfl hv _ HCH.out Tryz.underlying36 rfl HIH.out ?_);go_wp2_with ((refine wpList_load_cellsAtG 33 (.tmp 53) rfl A 1 rfl [.slice xa lx xc,.slice ya ly yc] _ HCP.out Tryz.underlying33 rfl HIP.out rfl ?_);go_wp2_with ((go_at_call 41;refine (HCOL.out _ M1.out).mono ?_;rintro e w2 ⟨rfl,hm2⟩;have HM2:=zh (M1.out.trans hm2);clear hm2);go_wp2_with fail)))
         go_ret
         exact ⟨rfl,HM2.out⟩
 ·by_cases hk2:kind=2
  ·subst hk2
   by_cases hxlx:lx=0
   case neg =>
    have hd:d0=false:=by rw [HD0.out];simpa using hxlx
    subst hd
    have hx2:¬ ((lx:Int)=0):=by omega
    have hv0:ans=false:=by rw [HVAL.out];simp
    subst hv0
    go_wp2_with fail
    go_ret
    exact ⟨rfl,M1.out⟩
   case pos =>
    subst hxlx
    have hd:d0=true:=by rw [HD0.out];rfl
    subst hd
    by_cases hxly:ly=0
    case neg =>
     have hd:d1=false:=by rw [HD1.out];simpa using hxly
     subst hd
     have hx2:¬ ((ly:Int)=0):=by omega
     have hv0:ans=false:=by rw [HVAL.out];simp
     subst hv0
     go_wp2_with fail
     go_ret
     exact ⟨rfl,M1.out⟩
    case pos =>
     subst hxly
     have hd:d1=true:=by rw [HD1.out];rfl
     subst hd
     by_cases hi0:i<0
     ·skip
      have hv0:ans=false:=by rw [HVAL.out];simp [hi0]
      subst hv0
      go_wp2_with fail
      go_ret
      exact ⟨rfl,M1.out⟩
     ·by_cases hji:j≤i
      ·skip
       have hv0:ans=false:=by rw [HVAL.out];simp [hji]
       subst hv0
       go_wp2_with fail
       go_ret
       exact ⟨rfl,M1.out⟩
      ·cases d4 with
       | true =>
        have hv0:ans=false:=by rw [HVAL.out];simp
        subst hv0
        go_wp2_with fail
        go_ret
        exact ⟨rfl,M1.out⟩
       | false =>
        cases e1 with
        | false =>
         have hv0:ans=false:=by rw [HVAL.out];simp
         subst hv0
         go_wp2_with ((go_at_call 42;refine (HOFA.out _ (M1.out.trans (Mv.refl _ w1))).mono ?_;rintro e wa ⟨rfl,hm⟩;have waS:=zh (Mv.trans (Mv.refl _ w1) hm);have waC:=HHC.out _ waS.out;have waH:=zh waC;clear waC hm;have war37:=HCL.out _ waS.out 37 _ K37.out;have war38:=HCL.out _ waS.out 38 _ K38.out;have war39:=HCL.out _ waS.out 39 _ K39.out;have war40:=HCL.out _ waS.out 40 _ K40.out;have war41:=HCL.out _ waS.out 41 _ K41.out;have war42:=HCL.out _ waS.out 42 _ K42.out);go_wp2_with fail)
         go_ret
         exact ⟨rfl,M1.out.trans waS.out⟩
        | true =>
         cases e2 with
         | false =>
          have hv0:ans=false:=by rw [HVAL.out];simp
          subst hv0
          go_wp2_with ((go_at_call 42;refine (HOFA.out _ (M1.out.trans (Mv.refl _ w1))).mono ?_;rintro e wa ⟨rfl,hm⟩;have waS:=zh (Mv.trans (Mv.refl _ w1) hm);have waC:=HHC.out _ waS.out;have waH:=zh waC;clear waC hm;have war37:=HCL.out _ waS.out 37 _ K37.out;have war38:=HCL.out _ waS.out 38 _ K38.out;have war39:=HCL.out _ waS.out 39 _ K39.out;have war40:=HCL.out _ waS.out 40 _ K40.out;have war41:=HCL.out _ waS.out 41 _ K41.out;have war42:=HCL.out _ waS.out 42 _ K42.out);go_wp2_with ((go_at_call 42;refine (HOFB.out _ (M1.out.trans waS.out)).mono ?_;rintro e wb ⟨rfl,hm⟩;have wbS:=zh (Mv.trans waS.out hm);have wbC:=HHC.out _ wbS.out;have wbH:=zh wbC;clear wbC hm;have wbr37:=HCL.out _ wbS.out 37 _ K37.out;have wbr38:=HCL.out _ wbS.out 38 _ K38.out;have wbr39:=HCL.out _ wbS.out 39 _ K39.out;have wbr40:=HCL.out _ wbS.out 40 _ K40.out;have wbr41:=HCL.out _ wbS.out 41 _ K41.out;have wbr42:=HCL.out _ wbS.out 42 _ K42.out);go_wp2_with fail))
          go_ret
          exact ⟨rfl,M1.out.trans wbS.out⟩
         | true =>
          cases e3 with
          | false =>
           have hv0:ans=false:=by rw [HVAL.out];simp
           subst hv0
           go_wp2_with ((go_at_call 42;refine (HOFA.out _ (M1.out.trans (Mv.refl _ w1))).mono ?_;rintro e wa ⟨rfl,hm⟩;have waS:=zh (Mv.trans (Mv.refl _ w1) hm);have waC:=HHC.out _ waS.out;have waH:=zh waC;clear waC hm;have war37:=HCL.out _ waS.out 37 _ K37.out;have war38:=HCL.out _ waS.out 38 _ K38.out;have war39:=HCL.out _ waS.out 39 _ K39.out;have war40:=HCL.out _ waS.out 40 _ K40.out;have war41:=HCL.out _ waS.out 41 _ K41.out;have war42:=HCL.out _ waS.out 42 _ K42.out);go_wp2_with ((go_at_call 42;refine (HOFB.out _ (M1.out.trans waS.out)).mono ?_;rintro e wb ⟨rfl,hm⟩;have wbS:=zh (Mv.trans waS.out hm);have wbC:=HHC.out _ wbS.out;have wbH:=zh wbC;clear wbC hm;have wbr37:=HCL.out _ wbS.out 37 _ K37.out;have wbr38:=HCL.out _ wbS.out 38 _ K38.out;have wbr39:=HCL.out _ wbS.out 39 _ K39.out;have wbr40:=HCL.out _ wbS.out 40 _ K40.out;have wbr41:=HCL.out _ wbS.out 41 _ K41.out;have wbr42:=HCL.out _ wbS.out 42 _ K42.out);go_wp2_with ((refine wpList_load_cellsAt rfl 36 (.tmp 107) rfl A 3 rfl hv _ wbH.out Tryz.underlying36 rfl HIH.out ?_);go_wp2_with ((go_at_call 43;refine (HSTA.out _ (M1.out.trans wbS.out)).mono ?_;rintro e ws ⟨rfl,hm⟩;have wsS:=zh (Mv.trans wbS.out hm);have wsC:=HHC.out _ wsS.out;have wsH:=zh wsC;clear wsC hm;have wsr37:=HCL.out _ wsS.out 37 _ K37.out;have wsr38:=HCL.out _ wsS.out 38 _ K38.out;have wsr39:=HCL.out _ wsS.out 39 _ K39.out;have wsr40:=HCL.out _ wsS.out 40 _ K40.out;have wsr41:=HCL.out _ wsS.out 41 _ K41.out;have wsr42:=HCL.out _ wsS.out 42 _ K42.out);go_wp2_with fail))))
           go_ret
           exact ⟨rfl,M1.out.trans wsS.out⟩
          | true =>
           have hv0:ans=e4:=by rw [HVAL.out];simp [hi0,hji]
           subst hv0
           go_wp2_with ((go_at_call 42;refine (HOFA.out _ (M1.out.trans (Mv.refl _ w1))).mono ?_;rintro e wa ⟨rfl,hm⟩;have waS:=zh (Mv.trans (Mv.refl _ w1) hm);have waC:=HHC.out _ waS.out;have waH:=zh waC;clear waC hm;have war37:=HCL.out _ waS.out 37 _ K37.out;have war38:=HCL.out _ waS.out 38 _ K38.out;have war39:=HCL.out _ waS.out 39 _ K39.out;have war40:=HCL.out _ waS.out 40 _ K40.out;have war41:=HCL.out _ waS.out 41 _ K41.out;have war42:=HCL.out _ waS.out 42 _ K42.out);go_wp2_with ((go_at_call 42;refine (HOFB.out _ (M1.out.trans waS.out)).mono ?_;rintro e wb ⟨rfl,hm⟩;have wbS:=zh (Mv.trans waS.out hm);have wbC:=HHC.out _ wbS.out;have wbH:=zh wbC;clear wbC hm;have wbr37:=HCL.out _ wbS.out 37 _ K37.out;have wbr38:=HCL.out _ wbS.out 38 _ K38.out;have wbr39:=HCL.out _ wbS.out 39 _ K39.out;have wbr40:=HCL.out _ wbS.out 40 _ K40.out;have wbr41:=HCL.out _ wbS.out 41 _ K41.out;have wbr42:=HCL.out _ wbS.out 42 _ K42.out);go_wp2_with ((refine wpList_load_cellsAt rfl 36 (.tmp 107) rfl A 3 rfl hv _ wbH.out Tryz.underlying36 rfl HIH.out ?_);go_wp2_with ((go_at_call 43;refine (HSTA.out _ (M1.out.trans wbS.out)).mono ?_;rintro e ws ⟨rfl,hm⟩;have wsS:=zh (Mv.trans wbS.out hm);have wsC:=HHC.out _ wsS.out;have wsH:=zh wsC;clear wsC hm;have wsr37:=HCL.out _ wsS.out 37 _ K37.out;have wsr38:=HCL.out _ wsS.out 38 _ K38.out;have wsr39:=HCL.out _ wsS.out 39 _ K39.out;have wsr40:=HCL.out _ wsS.out 40 _ K40.out;have wsr41:=HCL.out _ wsS.out 41 _ K41.out;have wsr42:=HCL.out _ wsS.out 42 _ K42.out);go_wp2_with ((refine wpList_load_cellsAtG 36 (.tmp 118) rfl A 3 rfl hv _ wsH.out Tryz.underlying36 rfl HIH.out rfl ?_);go_wp2_with ((go_at_call 43;refine (HSTB.out _ (M1.out.trans wsS.out)).mono ?_;rintro e wt ⟨rfl,hm⟩;have wtS:=zh (Mv.trans wsS.out hm);have wtC:=HHC.out _ wtS.out;have wtH:=zh wtC;clear wtC hm;have wtr37:=HCL.out _ wtS.out 37 _ K37.out;have wtr38:=HCL.out _ wtS.out 38 _ K38.out;have wtr39:=HCL.out _ wtS.out 39 _ K39.out;have wtr40:=HCL.out _ wtS.out 40 _ K40.out;have wtr41:=HCL.out _ wtS.out 41 _ K41.out;have wtr42:=HCL.out _ wtS.out 42 _ K42.out);go_wp2_with fail))))))
           go_ret
           exact ⟨rfl,M1.out.trans wtS.out⟩
  ·have hv0:ans=false:=by rw [HVAL.out,if_neg hk1,if_neg hk2]
   subst hv0
   go_wp2_with fail
   go_ret
   exact ⟨rfl,M1.out⟩
theorem recOk_len {k:Int} {i:Nat} {leaf:Bs} {h:HeadP} {p:List Bs} (hr:RecOk k i leaf h p):p.length≤1099511627776:=by
 rw [hr.len]
 have h1:=wayRec_len h.n.toNat i (by have:=hr.nb;omega) (by have:=hr.il;omega)
 omega
theorem recOk_checkI {k i:Int} {leaf:Bs} {h:HeadP} {p:List Bs} (hi:0≤i) (hr:RecOk k i.toNat leaf h p):checkAns k h.n i h.root leaf p=0:=by
 have:=hr.check
 rwa [show ((i.toNat:Nat):Int)=i by omega] at this
theorem bytes_ne {a b:ByteArray} (h:a.data.toList≠b.data.toList):(a.toList == b.toList)=false:=by
 rw [ByteArray.toList_eq,ByteArray.toList_eq]
 simpa using h
theorem good_holds {k:Int} {pth ver:ByteArray}:∀ {V:VerdP},V.Good k pth.data.toList ver.data.toList→match V with
  | .pair x y=>holdsP k 1 x y head0 0 0 ⟨#[]⟩ ⟨#[]⟩ pth ver [] []=true
  | .twice h i j a b pa pb=>holdsP k 2 [] [] h i j a b pth ver pa pb=true
 | .pair x y,⟨h1,_,_⟩=>by
  show holdsP k 1 x y head0 0 0 ⟨#[]⟩ ⟨#[]⟩ pth ver [] []=true
  unfold holdsP
  have e:(⟨#[]⟩:ByteArray).toList=[]:=by rw [ByteArray.toList_eq]
  rw [if_pos rfl,collP_alike h1,(HeadP.eq_iff _ _).2 rfl,e]
  rfl
 | .twice h i j a b pa pb,⟨h1,h2,h3,h4,h5,h6,h7⟩=>by
  show holdsP k 2 [] [] h i j a b pth ver pa pb=true
  unfold holdsP
  rw [if_neg (by decide),if_pos rfl,h4,h5,recOk_checkI h1 h6,recOk_checkI (by omega) h7,bytes_ne h3]
  simp
  omega
theorem holds_good (k:Int) (V:VerdP) (cs:Array Value) (pth ver:ByteArray) (w:World) (hV:VerIn w cs V) (hg:V.Good k pth.data.toList ver.data.toList) (he:EnvH w) (henv:EnvP w) :
  Calls Tryz.prog 9 #[.int .i64 k,.agg cs,.string pth,.string ver] w fun e w'=>e=.returned (.bool true)∧Mv (fun _=>False) w w':=by
 have hv:=good_holds hg
 cases V with
 | pair x y =>
  obtain ⟨p,q,rfl,h1,h2⟩:=hV
  obtain ⟨_,l1,l2⟩:=hg
  have:=holds_any k 1 p q x y head0 0 0 ⟨#[]⟩ ⟨#[]⟩ pth ver nilV nilV [] [] w h1 h2 (by omega) (by omega) rfl (Nat.zero_le _) (Nat.zero_le _) (.inl ⟨rfl,rfl⟩) (.inl ⟨rfl,rfl⟩) (Nat.zero_le _) (Nat.zero_le _) he henv
  rw [show holdsP k 1 x y head0 0 0 ⟨#[]⟩ ⟨#[]⟩ pth ver [] []=true from hv] at this
  exact this
 | twice h i j a b pa pb =>
  obtain ⟨va,vb,rfl,h1,h2,h3,h4,h5⟩:=hV
  obtain ⟨_,_,_,_,_,q6,q7⟩:=hg
  have:=holds_any k 2 nilV nilV [] [] h i j a b pth ver va vb pa pb w (.inl ⟨rfl,rfl⟩) (.inl ⟨rfl,rfl⟩) (Nat.zero_le _) (Nat.zero_le _) h1 h2 h3 h4 h5 (recOk_len q6) (recOk_len q7) he henv
  rw [show holdsP k 2 [] [] h i j a b pth ver pa pb=true from hv] at this
  exact this
set_option maxRecDepth 100000 in
set_option maxHeartbeats 3200000 in
theorem lawStands_any (k:Int) (V:VerdP) (cs:Array Value) (pth ver:ByteArray) (w:World) (hV:VerIn w cs V) (hg:V.Good k pth.data.toList ver.data.toList) (he:EnvH w) (henv:EnvP w) :
  Calls Tryz.prog 29 #[.int .i64 k,.agg cs,.string pth,.string ver] w fun e w'=>e=.returned (.bool true)∧Mv (fun _=>False) w w':=by
 obtain ⟨A,hA⟩:=zg (w.heap.size)
 have hm1:Mv (fun _=>False) w (w.alloc (.cells cs 39)):=(Mv.refl _ _).alloc _
 have h1:(w.alloc (.cells cs 39)).heap[A]?=some (.cells cs 39 (0,0)):=by rw [hA];exact heap_alloc_new _ _
 have M1:=zh hm1
 have H1:=zh h1
 have HE:=zh he
 have HP:=zh henv
 clear he henv
 cases V with
 | pair x y =>
  obtain ⟨p,q,rfl,hp,hq⟩:=hV
  obtain ⟨hal,l1,l2⟩:=hg
  obtain ⟨xa,xc,hsh⟩:=hp.shape
  subst hsh
  obtain ⟨ya,yc,hsh⟩:=hq.shape
  subst hsh
  have HCOL:Hid (∀ W,Mv (fun _=>False) w W→Calls Tryz.prog 61 #[.int .i64 k,.slice xa x.length xc,.slice ya y.length yc] W fun e w'=>e=.returned (.bool true)∧Mv (fun _=>False) W w'):=zh fun W hW=>lawCollides_any k _ _ x y W (hp.mv hW (fun _ _ h=>h)) (hq.mv hW (fun _ _ h=>h)) (by omega) (by omega) hal (HE.out.mv hW (fun _ h=>h.elim))
  have r0:=cell_of_heap h1 0 (v:=.int .i64 1) rfl
  have r1:=cell_of_heap h1 1 (v:=.slice xa x.length xc) rfl
  have r2:=cell_of_heap h1 2 (v:=.slice ya y.length yc) rfl
  obtain ⟨vl,hvl⟩:=zg ((verL 1 (.slice xa x.length xc) (.slice ya y.length yc) head0.V 0 0 ⟨#[]⟩ ⟨#[]⟩ nilV nilV).toArray)
  rw [←hvl] at r0 r1 r2 hm1 h1 M1 H1 ⊢
  clear hp hq hal l1 l2 hvl hm1 h1
  rw [hA] at r0 r1 r2
  clear hA
  go_enter Tryz.func29,Tryz.ntmps29
  go_wp2_with ((go_at_call 61;refine (HCOL.out _ M1.out).mono ?_;rintro e w2 ⟨rfl,hm2⟩;have HM2:=zh (M1.out.trans hm2);clear hm2);go_wp2_with fail)
  go_ret
  exact ⟨rfl,HM2.out⟩
 | twice h i j a b pa pb =>
  obtain ⟨va,vb,rfl,hh,ha,hb,hva,hvb⟩:=hV
  obtain ⟨g1,g2,g3,g4,g5,g6,g7⟩:=hg
  obtain ⟨aa,ac,hsh⟩:=hva.shape
  subst hsh
  obtain ⟨ba,bc,hsh⟩:=hvb.shape
  subst hsh
  have hhl:h.V.length=34:=HeadP.V_len _ hh
  obtain ⟨k37,k38,k39,k40,k41,k42⟩:=verL_at 2 nilV nilV h.V i j a b (.slice aa pa.length ac) (.slice ba pb.length bc) hhl
  have kh:=verL_head 2 nilV nilV h.V i j a b (.slice aa pa.length ac) (.slice ba pb.length bc)
  have k0:(verL 2 nilV nilV h.V i j a b (.slice aa pa.length ac) (.slice ba pb.length bc))[0]?=some (.int .i64 2):=rfl
  obtain ⟨vl,hvl0⟩:=zg (verL 2 nilV nilV h.V i j a b (.slice aa pa.length ac) (.slice ba pb.length bc))
  rw [←hvl0] at k0 k37 k38 k39 k40 k41 k42 kh hm1 h1 M1 H1 ⊢
  obtain ⟨la,hla⟩:=zg (pa.length)
  obtain ⟨lb,hlb⟩:=zg (pb.length)
  rw [←hla] at k41
  rw [←hlb] at k42
  obtain ⟨hv,hhv⟩:=zg (h.V)
  rw [←hhv] at kh hhl
  have f4:=bytes_ne g3
  have hji:¬ (j≤i):=by omega
  have HOFA:Hid (∀ W,Mv (fun _=>False) w W→Calls Tryz.prog 24 #[.string a,.string pth,.string ver] W fun e w'=>e=.returned (.bool true)∧Mv (fun _=>False) W w'):=zh fun W hW=>by
   have h0:=of24_any a pth ver W (HP.out.mv hW) ha
   rw [g4] at h0
   exact h0.mono fun e w' ⟨h1,h2⟩=>⟨h1,Mv.of_below h2⟩
  have HOFB:Hid (∀ W,Mv (fun _=>False) w W→Calls Tryz.prog 24 #[.string b,.string pth,.string ver] W fun e w'=>e=.returned (.bool true)∧Mv (fun _=>False) W w'):=zh fun W hW=>by
   have h0:=of24_any b pth ver W (HP.out.mv hW) hb
   rw [g5] at h0
   exact h0.mono fun e w' ⟨h1,h2⟩=>⟨h1,Mv.of_below h2⟩
  have HSTA:Hid (∀ W,Mv (fun _=>False) w W→Calls Tryz.prog 25 #[.int .i64 k,.slice aa la ac,.agg hv.toArray,.int .i64 i,.string a] W fun e w'=>e=.returned (.bool true)∧Mv (fun _=>False) W w'):=zh fun W hW=>by
   have:=within_any k _ pa h.o h.n h.root i a W (hva.mv hW (fun _ _ h=>h)) hh (recOk_len g6) (by omega) (HE.out.mv hW (fun _ h=>h.elim))
   rw [recOk_checkI g1 g6] at this;rw [hla,hhv,headV_of];exact this
  have HSTB:Hid (∀ W,Mv (fun _=>False) w W→Calls Tryz.prog 25 #[.int .i64 k,.slice ba lb bc,.agg hv.toArray,.int .i64 j,.string b] W fun e w'=>e=.returned (.bool true)∧Mv (fun _=>False) W w'):=zh fun W hW=>by
   have:=within_any k _ pb h.o h.n h.root j b W (hvb.mv hW (fun _ _ h=>h)) hh (recOk_len g7) (by omega) (HE.out.mv hW (fun _ h=>h.elim))
   rw [recOk_checkI (by omega) g7] at this;rw [hlb,hhv,headV_of];exact this
  have HIH:Hid ((Tryz.prog.info? 36).map (·.size)=some hv.length):=zh (by rw [hhl];exact info36)
  have HKH:=zh kh
  have K0:=zh k0
  have K37:=zh k37
  have K38:=zh k38
  have K39:=zh k39
  have K40:=zh k40
  have K41:=zh k41
  have K42:=zh k42
  clear hh ha hb hva hvb g1 g2 g3 g4 g5 g6 g7 hla hlb hhl hhv hvl0 kh k0 k37 k38 k39 k40 k41 k42
  go_enter Tryz.func29,Tryz.ntmps29
  go_upto_region 1 with fail
  rw [←hA]
  generalize w.alloc (.cells vl.toArray 39)=w1 at hm1 h1 M1 H1 ⊢
  have HCL:Hid (∀ W,Mv (fun _=>False) w1 W→∀ (t:Nat) u,vl[t]?=some u→W.cell? ⟨A,t,none⟩=some u):=zh fun W hW t u hu=>cell_of_heap ((hW.block A (lt_of_heap H1.out) id).trans H1.out) t (by simpa using hu)
  have HHC:Hid (∀ W,Mv (fun _=>False) w1 W→∀ (t:Nat) u,hv[t]?=some u→W.cell? ⟨A,3+t,none⟩=some u):=zh fun W hW t u hu=>HCL.out W hW (3+t) u (HKH.out t u hu)
  have R1:=HCL.out _ (Mv.refl _ w1)
  have r0:=R1 0 _ K0.out
  have r37:=R1 37 _ K37.out
  have r38:=R1 38 _ K38.out
  have r39:=R1 39 _ K39.out
  have r40:=R1 40 _ K40.out
  clear hA hm1 h1 R1
  go_wp2_with ((go_at_call 24;refine (HOFA.out _ (M1.out.trans (Mv.refl _ w1))).mono ?_;rintro e wa ⟨rfl,hm⟩;have waS:=zh (Mv.trans (Mv.refl _ w1) hm);have waC:=HHC.out _ waS.out;have waH:=zh waC;clear waC hm;have war37:=HCL.out _ waS.out 37 _ K37.out;have war38:=HCL.out _ waS.out 38 _ K38.out;have war39:=HCL.out _ waS.out 39 _ K39.out;have war40:=HCL.out _ waS.out 40 _ K40.out;have war41:=HCL.out _ waS.out 41 _ K41.out;have war42:=HCL.out _ waS.out 42 _ K42.out);go_wp2_with ((go_at_call 24;refine (HOFB.out _ (M1.out.trans waS.out)).mono ?_;rintro e wb ⟨rfl,hm⟩;have wbS:=zh (Mv.trans waS.out hm);have wbC:=HHC.out _ wbS.out;have wbH:=zh wbC;clear wbC hm;have wbr37:=HCL.out _ wbS.out 37 _ K37.out;have wbr38:=HCL.out _ wbS.out 38 _ K38.out;have wbr39:=HCL.out _ wbS.out 39 _ K39.out;have wbr40:=HCL.out _ wbS.out 40 _ K40.out;have wbr41:=HCL.out _ wbS.out 41 _ K41.out;have wbr42:=HCL.out _ wbS.out 42 _ K42.out);go_wp2_with ((refine wpList_load_cellsAtG 36 (.tmp 53) rfl A 3 rfl hv _ wbH.out Tryz.underlying36 rfl HIH.out rfl ?_);go_wp2_with ((go_at_call 25;refine (HSTA.out _ (M1.out.trans wbS.out)).mono ?_;rintro e ws ⟨rfl,hm⟩;have wsS:=zh (Mv.trans wbS.out hm);have wsC:=HHC.out _ wsS.out;have wsH:=zh wsC;clear wsC hm;have wsr37:=HCL.out _ wsS.out 37 _ K37.out;have wsr38:=HCL.out _ wsS.out 38 _ K38.out;have wsr39:=HCL.out _ wsS.out 39 _ K39.out;have wsr40:=HCL.out _ wsS.out 40 _ K40.out;have wsr41:=HCL.out _ wsS.out 41 _ K41.out;have wsr42:=HCL.out _ wsS.out 42 _ K42.out);go_wp2_with ((refine wpList_load_cellsAtG 36 (.tmp 65) rfl A 3 rfl hv _ wsH.out Tryz.underlying36 rfl HIH.out rfl ?_);go_wp2_with ((go_at_call 25;refine (HSTB.out _ (M1.out.trans wsS.out)).mono ?_;rintro e wt ⟨rfl,hm⟩;have wtS:=zh (Mv.trans wsS.out hm);have wtC:=HHC.out _ wtS.out;have wtH:=zh wtC;clear wtC hm);go_wp2_with fail))))))
  go_ret
  exact ⟨rfl,M1.out.trans wtS.out⟩
end Go.Proofs.YtdfdikpklddnhaaGreatDoor
