/- Of the proof of EvidenceJudges, second form: for values of bulk at most 1048576. (Ej08) -/
import Derived.Test.YtdfdikpklddnhaaGreatDoorEj01
import Derived.Test.YtdfdikpklddnhaaGreatDoorEj07
import Derived.Deep.AppendLies
import Derived.Deep.DeepCutAuto
import Derived.Deep.RegionLaw
import Derived.Deep.RegionHeld3
namespace Go.Proofs.YtdfdikpklddnhaaGreatDoor
open Go.RowKit
set_option linter.unusedSimpArgs false
theorem wpAnyH_one' {P:Program} {ops:Array Oper} {Q:Exit→Act→World→Prop} {md:Region.Mode} {S:World→Prop} {i:Nat} {o:Oper} {fuel:Nat} {listed:Array Bool} {a:Act} {w:World} (hr:Region.ready md ops listed=[i]) (ho:ops[i]?=some o)
  (h:∀ K':Act→World→Prop,Shut (∀ a w,S w→(S w→wpAnyH P md ops Q S fuel (listed.setIfInBounds i true) a w)→K' a w)→if Region.wanted o (yielded ops a.tmps)=true then Oper.wp P o a w K' Q else K' (a.put o.dst undef) w) :
  wpAnyH P md ops Q S (fuel+1) listed a w:=wpAnyH_ready hr (by simp) (AllReadyH.cons ho h AllReadyH.nil)
theorem chain_range {W:World} {D:Nat} {cnt:Int} {st:St8} {re:Value} (h:W.heap[D]?=some (.cells (digC cnt st re) 292 (0,0))):W.rangeAt D 2 [u32V st.a,u32V st.b,u32V st.c,u32V st.d,u32V st.e,u32V st.f,u32V st.g,u32V st.h,.int .u64 0,.int .u64 0,.int .u64 0,.int .u64 0,.int .u64 0,.int .u64 0,.int .u64 0,.int .u64 0]:=fun j v hv=>by
 rw [cell_of_row _ _ _ _ _ _ h]
 have hj:j<16:=by have:=(List.getElem?_eq_some_iff.1 hv).1;simpa using this
 rw [←hv]
 rcases (by omega:j=0∨j=1∨j=2∨j=3∨j=4∨j=5∨j=6∨j=7∨j=8∨j=9∨j=10∨j=11∨j=12∨j=13∨j=14∨j=15) with rfl|rfl|rfl|rfl|rfl|rfl|rfl|rfl|rfl|rfl|rfl|rfl|rfl|rfl|rfl|rfl <;> rfl
theorem owns_slb {w:World} {base E:Nat} {v:Value} {l:Bs} (h:w.ownsRow base 5 1 v l.length (l.map byteV)) (hne:l≠[]) (hE:E<base):SlB w E v l:=by
 rcases h.2 with ⟨_,h0⟩|⟨g,c,cur,rfl,hb,hg,hc,hm,hcs,htk⟩
 ·exact absurd (List.eq_nil_of_length_eq_zero h0) hne
 ·refine .inr ⟨g,0,c,rfl,hc,fun j b hj=>?_,by omega⟩
  have hq:(l.map byteV)[j]?=some (byteV b):=by rw [List.getElem?_map,hj];rfl
  rw [←htk,List.getElem?_take] at hq
  rw [Nat.zero_add,cell_of_row _ _ _ _ _ _ hg]
  split at hq
  ·simpa [byteV] using hq
  ·cases hq
theorem owns_mono {w:World} {base base':Nat} {e:TypeId} {sz:Nat} {v:Value} {n:Nat} {xs:List Value} (h:w.ownsRow base e sz v n xs) (hb:base'≤base):w.ownsRow base' e sz v n xs:=by
 refine ⟨h.1,?_⟩
 rcases h.2 with h0|⟨g,c,cur,rfl,hg,hr⟩
 ·exact .inl h0
 ·exact .inr ⟨g,c,cur,rfl,Nat.le_trans hb hg,hr⟩
theorem digC_one (cnt:Int) (st:St8) (a:Option Addr) (n c:Nat):(digC cnt st (.slice a n c)).all (·.oneCell')=true:=by simp [digC,u32V,Value.oneCell']
theorem step_append_none {P:Program} {ops:Array Oper} {o:Oper} {a:Act} {w:World} {K:Act→World→Prop} {Q:Exit→Act→World→Prop} {E:Prop} (hgd:o.guard=none) (s x:Operand) (t:TypeId)
  (ho:o.op=.call { callee:=.builtin .append,args:=#[s,x],argTypes:=#[t,t] })
  (base:Nat) (e:TypeId) (i:TypeInfo) (size:Nat) (ht:P.underlying t=some (.slice e)) (hi:P.info? e=some i)
  (v:Value) (n:Nat) (xs:List Value) (hs:a.eval s=v) (hown:w.ownsRow base e size v n xs) (hx:a.eval x=.slice none 0 0)
  (h:K (a.put o.dst v) w):if Region.wanted o (yielded ops a.tmps)=true then Oper.wp P o a w K Q else E:=by
 have hw:Region.wanted o (yielded ops a.tmps)=true:=by simp [Region.wanted,hgd]
 rw [if_pos hw]
 have hrun:=run_append_owned_none (P:=P) (w:=w) base t o.type e i size ht hi v n xs hown
 unfold Oper.wp
 simp [execOp,ho,resolve,invoke,builtin,hs,hx,hrun,Result.andThen]
 exact h
theorem make128:∀ w:World,(Instr.makeSlice 26 (.int .i64 0) (.int .i64 128)).run Tryz.prog w=.ok (.slice (some ⟨w.heap.size,0,none⟩) 0 128) (w.alloc (.cells (zb 128) 5)):=fun _=>by kernel_rfl
set_option maxRecDepth 100000 in
set_option maxHeartbeats 1600000 in
theorem sum_256 (D:Nat) (st:St8) (cnt:Nat) (r:Bs) (v1:Value) (w:World) (hD:w.heap[D]?=some (.cells (digC cnt st v1) 292 (0,0))) (hr64:r.length<64)
  (hb:(v1=.slice none 0 0∧r=[])∨∃ g1 cap1,v1=.slice (some ⟨g1,0,none⟩) r.length cap1∧BytesAt w g1 0 r∧r≠[]) (hcnt:cnt≤1099511627776) (he:EnvS w) (hD3:20<D) :
  Calls Tryz.prog 126 #[.pointer (some ⟨D,0,none⟩)] w fun e w' =>
   Mv (fun _=>False) w w'∧∃ v',e=.returned v'∧w'.ownsRow w.heap.size 5 1 v' 32 ((mixAll st (padL r cnt)).1.bytes.map byteV):=by
 obtain ⟨i0,hi0,hz0,hz1,hz2⟩:=info_parts Tryz.info5
 have HD:=zh hD
 have HE:=zh he
 have HB:=zh hb
 have hmk:=make128
 obtain ⟨n,hn⟩:=zg (r.length)
 have HN:=zh hn
 rw [←hn] at hr64
 have hDw:=lt_of_heap HD.out
 clear hD he hb hn
 go_enter Tryz.func126,Tryz.ntmps126
 go_wp2_with (first|(go_at_call 177;refine (block_256 D _ _ _ _ HD.out).mono ?_;rintro e w1 ⟨rfl,rfl⟩))
 refine wp_region_noPanic ?_
 refine wp_region_held_drew (S:=fun w'=>w'.heap[D]?=some (.cells (digC cnt st v1) 292 (0,0))) (by kernel_rfl) HD.out (fun hHeld=>?_)
 refine zt 0 (.pointer (some ⟨D,0,none⟩)) rfl (fun _ hS=>by go_simp) hHeld ?_
 walk_nrm
 refine zt 1 (.pointer (some ⟨D,0,none⟩)) rfl (fun _ hS=>by go_simp) hHeld ?_
 walk_nrm
 refine zt 2 (.pointer (some ⟨D,0,none⟩)) rfl (fun _ hS=>by go_simp) hHeld ?_
 walk_nrm
 refine zj 3 (.int .i64 256) rfl (Or.inl ⟨by rfl,fun w2 hS=>by have c0:w2.cell? ⟨D,0,none⟩=some (.int .i64 256):=cell_of_heap hS 0 rfl;go_simp⟩) hHeld ?_
 walk_nrm
 refine zt 4 (.pointer (some ⟨D,0,none⟩)) rfl (fun _ hS=>by go_simp) hHeld ?_
 walk_nrm
 refine zt 5 (.pointer (some ⟨D,0,none⟩)) rfl (fun _ hS=>by go_simp) hHeld ?_
 walk_nrm
 refine zt 6 (.pointer (some ⟨D,2,none⟩)) rfl (fun _ hS=>by go_simp) hHeld ?_
 walk_nrm
 refine zj 7 (.agg ([u32V st.a,u32V st.b,u32V st.c,u32V st.d,u32V st.e,u32V st.f,u32V st.g,u32V st.h,.int .u64 0,.int .u64 0,.int .u64 0,.int .u64 0,.int .u64 0,.int .u64 0,.int .u64 0,.int .u64 0]:List Value).toArray) rfl (yieldsIf_load_mid (by rfl) 289 _ rfl D 2 rfl [u32V st.a,u32V st.b,u32V st.c,u32V st.d,u32V st.e,u32V st.f,u32V st.g,u32V st.h,.int .u64 0,.int .u64 0,.int .u64 0,.int .u64 0,.int .u64 0,.int .u64 0,.int .u64 0,.int .u64 0] _ (fun _ h=>chain_range h) Tryz.underlying289 rfl (by kernel_rfl)) hHeld ?_
 walk_nrm
 refine zt 8 (.agg (digC 0 st (.slice none 0 0))) rfl (fun _ hS=>by unfold digC;go_simp) hHeld ?_
 walk_nrm
 refine wpAnyH_one' (i:=9) (o:=_) (by kernel_rfl) rfl (fun K hK=>?_)
 rw [if_pos (by rfl)]
 unfold Oper.wp execOp
 go_simp
 refine hK.out _ _ ((Below.heap_alloc _ _ _ hDw).trans HD.out) (fun hHeld=>?_)
 clear hK K
 try walk_nrm
 refine wpAnyH_one' (i:=10) (o:=_) (by kernel_rfl) rfl (fun K hK=>?_)
 rw [if_pos (by rfl)]
 refine wp_store_row 292 _ _ rfl w.heap.size (digC 0 st (.slice none 0 0)) rfl rfl 292 _ (heap_alloc_new _ _) (by kernel_rfl) rfl (digC_one _ _ _ _ _) ?_
 refine hK.out _ _ ((setRow_other _ _ _ _ (by omega)).trans hHeld) (fun hHeld=>?_)
 clear hK K
 try walk_nrm
 refine zd ?_
 obtain ⟨E,hE⟩:=zg (w.heap.size)
 rw [←hE] at hHeld ⊢
 generalize hW1:World.setRow _ E _=W1
 rw [hW1] at hHeld
 have he1:W1.heap[E]?=some (.cells (digC 0 st (.slice none 0 0)) 292 (0,0)):=by rw [←hW1,hE];exact setRow_heap _ _ _ _ _ _ (heap_alloc_new _ _)
 have hm1:Mv (fun _=>False) w W1:=by
  rw [←hW1]
  exact ⟨rfl,rfl,rfl,by simp [World.setRow],fun k hk _=>(setRow_other _ _ _ _ (by omega)).trans (Below.heap_alloc _ _ _ hk)⟩
 have hsz:W1.heap.size=E+1:=by rw [←hW1,hE];simp [World.setRow]
 have HE1:=zh he1
 have HM1:=zh hm1
 have HD1:=zh hHeld
 have HSZ:=zh hsz
 have HEE:=zh hE
 have HES:=zh (HE.out.mv hm1 id id)
 have hcapp:Hid ((v1=.slice none 0 0∧r=[])∨∃ g1 cap1,v1=.slice (some ⟨g1,0,none⟩) r.length cap1∧BytesAt W1 g1 0 r∧r≠[]):=zh (by
  rcases HB.out with h|⟨g1,cap1,h1,h2,h3⟩
  ·exact .inl h
  ·exact .inr ⟨g1,cap1,h1,h2.mv hm1 id,h3⟩)
 clear hW1 hE hHeld he1 hm1 hsz hmk
 go_upto_region 5 with fail
 go_cut [5] (fun s5 wx=>wx.ownsRow W1.heap.size 5 1 s5 n (r.map byteV)∧Mv (fun _=>False) W1 wx)
 case first =>
  have hmk:=make128
  have h128:IntKind.i64.wrap 128=128:=by decide
  have HOWN0:Hid ((W1.alloc (.cells (zb 128) 5)).ownsRow W1.heap.size 5 1 (.slice (some ⟨W1.heap.size,0,none⟩) 0 128) 0 []):=zh (World.ownsRow_made W1 (zb 128) 128 (Nat.le_refl _) (by unfold maxLen;decide) (by unfold zb;simp))
  rcases hcapp.out with ⟨hv,hr⟩|⟨g1,cap1,hv,hb1,hr⟩
  ·subst hv
   have d18:W1.cell? ⟨D,18,none⟩=some (.slice none 0 0):=cell_of_heap HD1.out 18 rfl
   have d18b:(W1.alloc (.cells (zb 128) 5)).cell? ⟨D,18,none⟩=some (.slice none 0 0):=(World.cell?_of_block (Below.heap_alloc _ _ _ (lt_of_heap HD1.out))).trans d18
   have HRR:=zh hr
   clear hr
   go_region_law ((refine step_append_none rfl (.tmp 23) (.tmp 27) 26 rfl W1.heap.size 5 i0 1 Tryz.underlying26 hi0 (.slice (some ⟨W1.heap.size,0,none⟩) 0 128) 0 [] (by simp [Act.eval,Act.put]) HOWN0.out.drew (by simp [Act.eval,Act.put]) ?_))
   all_goals go_wp2_with fail
   all_goals go_meet
   all_goals exact ⟨by rw [HN.out,HRR.out];exact HOWN0.out.drew,(((Mv.refl _ _).alloc _):Mv (fun _=>False) W1 (W1.alloc (.cells (zb 128) 5))).drew⟩
  ·have HRR:=zh hr
   have HNEWS:Hid (∀ (j:Nat) u,(r.map byteV)[j]?=some u→(W1.alloc (.cells (zb 128) 5)).cell? ((⟨g1,0,none⟩:Addr).add j)=some u):=zh (hb1.mv (((Mv.refl _ _).alloc _):Mv (fun _=>False) W1 (W1.alloc (.cells (zb 128) 5))) id).news
   have HLEN:Hid ((r.map byteV).length=n * 1):=zh (by rw [List.length_map,←HN.out,Nat.mul_one])
   have hn0:0<n:=by rw [HN.out];exact List.length_pos_iff.2 hr
   rw [←HN.out] at hv
   subst hv
   have d18:W1.cell? ⟨D,18,none⟩=some (.slice (some ⟨g1,0,none⟩) n cap1):=cell_of_heap HD1.out 18 rfl
   have d18b:(W1.alloc (.cells (zb 128) 5)).cell? ⟨D,18,none⟩=some (.slice (some ⟨g1,0,none⟩) n cap1):=(World.cell?_of_block (Below.heap_alloc _ _ _ (lt_of_heap HD1.out))).trans d18
   clear hr hb1
   go_region_law ((refine step_append_lies _ rfl (.tmp 23) (.tmp 27) 26 rfl W1.heap.size 5 i0 (.int .u8 0) 1 1 Tryz.underlying26 hi0 hz0 hz1 hz2 rfl (by decide) (.slice (some ⟨W1.heap.size,0,none⟩) 0 128) 0 [] (by simp [Act.eval,Act.put]) HOWN0.out.drew ⟨g1,0,none⟩ n cap1 (r.map byteV) (by simp [Act.eval,Act.put]) HLEN.out HNEWS.out (byteV_one r) hn0 (by unfold maxLen;omega) (by omega) (by simp) (W1.heap.size+1) (by simp) ?_;intro gT capT w3 hown3 hgrow3 hgT hltT;have HOWN3:=zh hown3;have HGROW3:=zh hgrow3;have HGT:=zh hgT;clear hown3 hgrow3 hgT))
   all_goals go_wp2_with fail
   all_goals go_meet
   all_goals
    refine ⟨by have h:=HOWN3.out;simp only [Nat.zero_add,List.nil_append] at h;exact h,?_⟩
    have m1:Mv (fun _=>False) W1 (W1.alloc (.cells (zb 128) 5)).drew:=(((Mv.refl _ _).alloc _):Mv (fun _=>False) W1 (W1.alloc (.cells (zb 128) 5))).drew
    exact m1.grown HGROW3.out (fun k hk=>.inr (by simp [Value.ownBlock] at hk;omega))
 case rest =>
  obtain ⟨hown,hm⟩:=hcut
  have HDC:Hid (wc.heap[D]?=some (.cells (digC cnt st v1) 292 (0,0))):=zh ((hm.block D (lt_of_heap HD1.out) id).trans HD1.out)
  have HEC:Hid (wc.heap[E]?=some (.cells (digC 0 st (.slice none 0 0)) 292 (0,0))):=zh ((hm.block E (lt_of_heap HE1.out) id).trans HE1.out)
  have HSC:=zh (HES.out.mv hm id id)
  have HMC:Hid (Mv (fun _=>False) w wc):=zh (HM1.out.trans hm)
  obtain ⟨B,hB⟩:=zg (W1.heap.size)
  rw [←hB] at hown
  have hEB:E<B:=by rw [hB,HSZ.out];omega
  have hDB:D<B:=by have:=HEE.out;omega
  have hBw:B≤wc.heap.size:=by rw [hB];exact hm.size
  have HOWN:=zh hown
  obtain ⟨a5,c5,rfl⟩:=owns_shape hown
  have HBB:=zh hB
  obtain ⟨Z,hZ⟩:=zg ((119 - n) % 64)
  have hZ1:(n+1+Z) % 64=56:=by omega
  have hZ2:∀ z,z<Z→(n+1+z) % 64≠56:=fun z hz=>by omega
  have hZ3:Z<64:=by omega
  have HZ:=zh hZ
  have HZ1:=zh hZ1
  have HZ2:=zh hZ2
  clear hown hm hB hZ hZ1 hZ2
  try clear hHeld
  go_wp2_with (first|(at_builtin;go_loud (refine wpList_append_own _ rfl _ _ 26 rfl B 5 i0 (.int .u8 0) 1 1 Tryz.underlying26 hi0 hz0 hz1 hz2 rfl (by decide) _ _ _ rfl (HOWN.out.alloc _) ⟨wc.heap.size,0,none⟩ 1 1 [_] rfl rfl (cell_one_new _ _ _) (by intro u hu;simp at hu;subst hu;rfl) (by unfold maxLen;omega) (by omega) (by simp;omega) ?_);intro v2 w2 hown2 hgrow2 hnil2;have HOWN2:=zh hown2;have HGROW2:=zh hgrow2;clear hown2 hgrow2 hnil2))
  have hm2:Mv (fun b=>B≤b) wc w2:=((Mv.refl _ _).alloc _).grown HGROW2.out (fun k hk=>.inl (HOWN.out.lt k hk).1)
  have HM2:=zh hm2
  clear hm2
  go_loopw [5] (fun s5 wr=>∃ z:Nat,z≤Z∧wr.ownsRow B 5 1 s5 (n+1+z) (((r++[128])++List.replicate z 0).map byteV)∧Mv (fun b=>B≤b) wc wr) (fun s5 _=>match s5 with|.slice _ k _=>200 - k|_=>0)
  case atStart=>exact ⟨0,by omega,by simpa [byteV] using HOWN2.out,HM2.out⟩
  case round =>
   obtain ⟨z,hz,hown,hm⟩:=hrel
   obtain ⟨a6,c6,rfl⟩:=owns_shape hown
   have HOWN3:=zh hown
   have HM3:=zh hm
   have hwz:=hm.size
   clear hown hm
   by_cases hzz:z<Z
   ·have g1:(((n+1+z:Nat):Int) % 64 != 56)=true:=by
     have:=HZ2.out z hzz
     simp;omega
    go_wp2_with (first|(at_builtin;go_loud (refine wpList_append_own _ rfl _ _ 26 rfl B 5 i0 (.int .u8 0) 1 1 Tryz.underlying26 hi0 hz0 hz1 hz2 rfl (by decide) _ _ _ rfl (HOWN3.out.alloc _) ⟨wr.heap.size,0,none⟩ 1 1 [_] rfl rfl (cell_one_new _ _ _) (by intro u hu;simp at hu;subst hu;rfl) (by unfold maxLen;omega) (by omega) (by simp;omega) ?_);intro v3 w3 hown3 hgrow3 hnil3;have HOWN4:=zh hown3;have HGROW4:=zh hgrow3;clear hown3 hgrow3 hnil3))
    go_roundw
    case rel =>
     refine ⟨z+1,by omega,?_,(HM3.out.alloc _).grown HGROW4.out (fun k hk=>.inl (HOWN3.out.lt k hk).1)⟩
     have h:=HOWN4.out
     rw [List.replicate_succ',←List.append_assoc,List.map_append]
     exact h
    case measure =>
     obtain ⟨a7,c7,h7⟩:=owns_shape HOWN4.out
     rw [h7]
     simp
     omega
   ·have hzZ:z=Z:=by omega
    subst hzZ
    have g1:(((n:Int)+1+(z:Int)) % 64 != 56)=false:=by
     have:=HZ1.out
     simp;omega
    have d1:wr.cell? ⟨D,1,none⟩=some (.int .i64 cnt):=by
     rw [HM3.out.cell (p:=⟨D,1,none⟩) (lt_of_heap HDC.out) (show ¬ B≤D by omega)]
     exact cell_of_heap HDC.out 1 rfl
    go_wp2_with fail
    obtain ⟨T0,hT0⟩:=zg ((r++[128])++List.replicate z 0)
    have hT0l:T0.length=n+1+z:=by rw [hT0,List.length_append,List.length_append,List.length_replicate,←HN.out];rfl
    have hM64:n+1+z<128:=by omega
    have hpad:padL r cnt=T0++be8 (cnt * 8):=by
     unfold padL
     rw [←HN.out,←HZ.out,hT0,Nat.mul_comm 8 cnt]
    have e0:(cnt:Int) * 8 / 72057594037927936 % 256=(cnt:Int) * 8 / 72057594037927936:=by omega
    have e1:(cnt:Int) * 8 / 281474976710656 % 256=(cnt:Int) * 8 / 281474976710656:=by omega
    have e2:(cnt:Int) * 8 / 1099511627776 % 256=(cnt:Int) * 8 / 1099511627776:=by omega
    have E0:=zh e0
    have E1:=zh e1
    have E2:=zh e2
    clear e0 e1 e2
    rw [←hT0] at HOWN3
    obtain ⟨M,hM⟩:=zg (n+1+z)
    rw [←hM] at HOWN3 hM64 hT0l
    have HPAD:=zh hpad
    have HT0L:=zh hT0l
    have hMz:(M+8) % 64=0:=by have:=HZ1.out;omega
    have HMZ:=zh hMz
    clear hT0 hT0l hpad hMz g1 d1
    have HCNT:=hcnt
    go_loopw [7,5] (fun i s5 wr=>∃ t:Nat,t≤8∧i=.int .i64 (7 - t)∧wr.ownsRow B 5 1 s5 (M+t) ((T0++(be8 (cnt * 8)).take t).map byteV)∧Mv (fun b=>B≤b) wc wr) (fun i _ _=>((intOf i)+1).toNat)
    case atStart=>exact ⟨0,by omega,rfl,by rw [hM];rw [hM] at HOWN3;simpa using HOWN3.out,HM3.out⟩
    case round =>
     obtain ⟨t,ht,rfl,hown,hm⟩:=hrel
     obtain ⟨a7,c7,rfl⟩:=owns_shape hown
     have HOWN5:=zh hown
     have HM5:=zh hm
     have hw5:=hm.size
     clear hown hm
     by_cases ht8:t<8
     ·rcases (by omega:t=0∨t=1∨t=2∨t=3∨t=4∨t=5∨t=6∨t=7) with rfl|rfl|rfl|rfl|rfl|rfl|rfl|rfl
      all_goals go_wp2_with (first|(at_builtin;go_loud (refine wpList_append_own _ rfl _ _ 26 rfl B 5 i0 (.int .u8 0) 1 1 Tryz.underlying26 hi0 hz0 hz1 hz2 rfl (by decide) _ _ _ rfl (HOWN5.out.alloc _) ⟨wr.heap.size,0,none⟩ 1 1 [_] rfl rfl (cell_one_new _ _ _) (by intro u hu;simp at hu;subst hu;rfl) (by unfold maxLen;omega) (by omega) (by simp;omega) ?_);intro v3 w3 hown3 hgrow3 hnil3;have HOWN4:=zh hown3;have HGROW4:=zh hgrow3;clear hown3 hgrow3 hnil3))
      ·go_roundw
       case rel =>
        refine ⟨1,by omega,by simp,?_,(HM5.out.alloc _).grown HGROW4.out (fun k hk=>.inl (HOWN5.out.lt k hk).1)⟩
        have h:=HOWN4.out
        simp [be8,byteV,Nat.add_assoc] at h ⊢
        first|exact h|(simp only [E0.out,E1.out,E2.out] at h ⊢;exact h)
       case measure=>simp [intOf]
      ·go_roundw
       case rel =>
        refine ⟨2,by omega,by simp,?_,(HM5.out.alloc _).grown HGROW4.out (fun k hk=>.inl (HOWN5.out.lt k hk).1)⟩
        have h:=HOWN4.out
        simp [be8,byteV,Nat.add_assoc] at h ⊢
        first|exact h|(simp only [E0.out,E1.out,E2.out] at h ⊢;exact h)
       case measure=>simp [intOf]
      ·go_roundw
       case rel =>
        refine ⟨3,by omega,by simp,?_,(HM5.out.alloc _).grown HGROW4.out (fun k hk=>.inl (HOWN5.out.lt k hk).1)⟩
        have h:=HOWN4.out
        simp [be8,byteV,Nat.add_assoc] at h ⊢
        first|exact h|(simp only [E0.out,E1.out,E2.out] at h ⊢;exact h)
       case measure=>simp [intOf]
      ·go_roundw
       case rel =>
        refine ⟨4,by omega,by simp,?_,(HM5.out.alloc _).grown HGROW4.out (fun k hk=>.inl (HOWN5.out.lt k hk).1)⟩
        have h:=HOWN4.out
        simp [be8,byteV,Nat.add_assoc] at h ⊢
        first|exact h|(simp only [E0.out,E1.out,E2.out] at h ⊢;exact h)
       case measure=>simp [intOf]
      ·go_roundw
       case rel =>
        refine ⟨5,by omega,by simp,?_,(HM5.out.alloc _).grown HGROW4.out (fun k hk=>.inl (HOWN5.out.lt k hk).1)⟩
        have h:=HOWN4.out
        simp [be8,byteV,Nat.add_assoc] at h ⊢
        first|exact h|(simp only [E0.out,E1.out,E2.out] at h ⊢;exact h)
       case measure=>simp [intOf]
      ·go_roundw
       case rel =>
        refine ⟨6,by omega,by simp,?_,(HM5.out.alloc _).grown HGROW4.out (fun k hk=>.inl (HOWN5.out.lt k hk).1)⟩
        have h:=HOWN4.out
        simp [be8,byteV,Nat.add_assoc] at h ⊢
        first|exact h|(simp only [E0.out,E1.out,E2.out] at h ⊢;exact h)
       case measure=>simp [intOf]
      ·go_roundw
       case rel =>
        refine ⟨7,by omega,by simp,?_,(HM5.out.alloc _).grown HGROW4.out (fun k hk=>.inl (HOWN5.out.lt k hk).1)⟩
        have h:=HOWN4.out
        simp [be8,byteV,Nat.add_assoc] at h ⊢
        first|exact h|(simp only [E0.out,E1.out,E2.out] at h ⊢;exact h)
       case measure=>simp [intOf]
      ·go_roundw
       case rel =>
        refine ⟨8,by omega,by simp,?_,(HM5.out.alloc _).grown HGROW4.out (fun k hk=>.inl (HOWN5.out.lt k hk).1)⟩
        have h:=HOWN4.out
        simp [be8,byteV,Nat.add_assoc] at h ⊢
        first|exact h|(simp only [E0.out,E1.out,E2.out] at h ⊢;exact h)
       case measure=>simp [intOf]
     ·have h8:t=8:=by omega
      subst h8
      rw [show (7 - ((8:Nat):Int))=-1 from rfl]
      have hown8:=HOWN5.out
      rw [show (be8 (cnt * 8)).take 8=be8 (cnt * 8) from rfl,←HPAD.out] at hown8
      have hpl:(padL r cnt).length=M+8:=by rw [HPAD.out,List.length_append,HT0L.out];rfl
      rw [←hpl] at hown8
      have hsl:=owns_slb hown8 (fun e=>by rw [e] at hpl;simp at hpl) hEB
      have HSL:=zh hsl
      have HPL:=zh hpl
      have hec:wr.heap[E]?=some (.cells (digC 0 st (.slice none 0 0)) 292 (0,0)):=(HM5.out.block E (lt_of_heap HEC.out) (show ¬ B≤E by omega)).trans HEC.out
      have HER:=zh hec
      have hes:EnvS wr:=HSC.out.mv HM5.out (show ¬ B≤3 by omega) (show ¬ B≤4 by omega)
      have HSR:=zh hes
      have hmr:Mv (fun b=>E≤b) wc wr:=HM5.out.mono (fun i _ h=>by omega)
      have HMR:=zh hmr
      clear hown8 hsl hpl hec hes hmr
      go_wp2_with fail
      go_loopw [5] (fun s5 wr=>∃ st':St8,∃ rest:Bs,SlB wr E s5 rest∧rest.length≤192∧mixAll st (padL r cnt)=mixAll st' rest∧wr.heap[E]?=some (.cells (digC 0 st' (.slice none 0 0)) 292 (0,0))∧EnvS wr∧Mv (fun b=>E≤b) wc wr) (fun s5 _=>match s5 with|.slice _ k _=>k|_=>0)
      case atStart=>exact ⟨st,padL r cnt,by rw [←HPL.out];exact HSL.out,by rw [HPL.out];omega,rfl,HER.out,HSR.out,HMR.out⟩
      case round =>
       obtain ⟨st',rest,hs,hrl,hmx,hd,he,hm⟩:=hrel
       have HMX:=zh hmx
       have HDR:=zh hd
       have HEV:=zh he
       have HMV:=zh hm
       clear hmx hd he hm
       rcases hs with ⟨rfl,hr⟩|⟨g,off,c,rfl,hrc,hb,hg⟩
       ·have HR:=zh hr
        clear hr
        go_wp2_with (first|(go_at_call 179;refine (words_any E st' 0 (.slice none 0 0) _ HDR.out).mono ?_;rintro e w9 ⟨hm9,v9,rfl,hown9⟩;have HM9:=zh hm9;have HOWN9:=zh hown9;clear hm9 hown9))
        go_ret
        have e2:(mixAll st (padL r cnt)).1=st':=by rw [HMX.out,HR.out,mixAll_small st' [] (by decide)]
        have hee:=HEE.out
        have hmw:Mv (fun _=>False) w wr:=HMC.out.trans' HMV.out (fun i hi h=>by omega)
        refine ⟨hmw.trans HM9.out,v9,rfl,?_⟩
        rw [e2]
        exact owns_mono HOWN9.out hmw.size
       ·have HB9:=zh hb
        clear hb
        obtain ⟨k,hk⟩:=zg (rest.length)
        have HK:=zh hk
        rw [←hk] at hrl hrc ⊢
        clear hk
        by_cases h64:64≤k
        ·have hmix:=mix_any E st' 0 (.slice none 0 0) g off c (rest.take 64) wr (by rw [List.length_take,←HK.out];omega) HDR.out (by omega) (HB9.out.take 64) HEV.out (by have:=HEE.out;omega)
         have HMIX:=zh hmix
         have hEE:=HEE.out
         clear hmix
         by_cases hc:c=64
         ·subst hc
          clear hEE
          go_wp2_with fail
          refine HMIX.out.mono ?_
          rintro e w2 ⟨rfl,hd2,hm2⟩
          have HD2:=zh hd2
          have HM2:=zh hm2
          clear hd2 hm2
          go_wp2_with fail
          go_roundw
          case rel =>
           have hEE:=HEE.out
           refine ⟨mixB st' (rest.take 64),rest.drop 64,.inr ⟨g,off,0,?_,?_,?_,by omega⟩,?_,?_,HD2.out,HEV.out.mv HM2.out (by omega) (by omega),HMV.out.trans (HM2.out.mono (fun _ _ h=>by omega))⟩
           ·rw [List.length_drop,←HK.out,show k - 64=0 by omega]
           ·rw [List.length_drop,←HK.out];omega
           ·intro j b hb
            rw [List.getElem?_drop,List.getElem?_eq_none (by rw [←HK.out];omega)] at hb;cases hb
           ·rw [List.length_drop,←HK.out];omega
           ·rw [HMX.out,mixAll_big st' rest (by rw [←HK.out];exact h64)]
          case measure=>simp;omega
         ·have hc64:64<c:=by omega
          clear hEE
          go_wp2_with fail
          refine HMIX.out.mono ?_
          rintro e w2 ⟨rfl,hd2,hm2⟩
          have HD2:=zh hd2
          have HM2:=zh hm2
          clear hd2 hm2
          go_wp2_with fail
          go_roundw
          case rel =>
           have hEE:=HEE.out
           refine ⟨mixB st' (rest.take 64),rest.drop 64,.inr ⟨g,off+64,c - 64,?_,?_,(HB9.out.drop 64).mv HM2.out hg,hg⟩,?_,?_,HD2.out,HEV.out.mv HM2.out (by omega) (by omega),HMV.out.trans (HM2.out.mono (fun _ _ h=>by omega))⟩
           ·rw [List.length_drop,←HK.out]
           ·rw [List.length_drop,←HK.out];omega
           ·rw [List.length_drop,←HK.out];omega
           ·rw [HMX.out,mixAll_big st' rest (by rw [←HK.out];exact h64)]
          case measure=>simp;omega
        ·go_wp2_with (first|(go_at_call 179;refine (words_any E st' 0 (.slice none 0 0) _ HDR.out).mono ?_;rintro e w9 ⟨hm9,v9,rfl,hown9⟩;have HM9:=zh hm9;have HOWN9:=zh hown9;clear hm9 hown9))
         go_ret
         have e2:(mixAll st (padL r cnt)).1=st':=by rw [HMX.out,mixAll_small st' rest (by rw [←HK.out];omega)]
         have hee:=HEE.out
         have hmw:Mv (fun _=>False) w wr:=HMC.out.trans' HMV.out (fun i hi h=>by omega)
         refine ⟨hmw.trans HM9.out,v9,rfl,?_⟩
         rw [e2]
         exact owns_mono HOWN9.out hmw.size
end Go.Proofs.YtdfdikpklddnhaaGreatDoor
namespace Go.Proofs.YtdfdikpklddnhaaGreatDoor
open Go.RowKit
def SlIn (w:World) (v:Value) (l:Bs):Prop :=
 (v=.slice none 0 0∧l=[])∨∃ g off cap,v=.slice (some ⟨g,off,none⟩) l.length cap∧l.length≤cap∧BytesAt w g off l∧g<w.heap.size
structure EnvH (w:World):Prop where
 s:EnvS w
 t:EnvT w
 big:20<w.heap.size
theorem EnvH.mv {F:Nat→Prop} {w w':World} (h:EnvH w) (hm:Mv F w w') (hF:∀ k,F k→20<k):EnvH w' :=
 ⟨h.s.mv hm (fun k=>absurd (hF _ k) (by decide)) (fun k=>absurd (hF _ k) (by decide)),h.t.mv hm (fun k=>absurd (hF _ k) (by decide)),Nat.lt_of_lt_of_le h.big hm.size⟩
theorem SlIn.mv {F:Nat→Prop} {w w':World} {v:Value} {l:Bs} (h:SlIn w v l) (hm:Mv F w w') (hF:∀ k,k<w.heap.size→¬ F k):SlIn w' v l:=by
 rcases h with h|⟨g,off,cap,h1,h2,h3,h4⟩
 ·exact .inl h
 ·exact .inr ⟨g,off,cap,h1,h2,h3.mv hm (hF g h4),Nat.lt_of_lt_of_le h4 hm.size⟩
theorem mixAll_lt (s:St8) (l:Bs):(mixAll s l).2.length<64:=by
 induction h:l.length using Nat.strongRecOn generalizing s l with
 | _ n ih =>
  by_cases h64:64≤l.length
  ·rw [mixAll_big s l h64]
   exact ih (l.drop 64).length (by rw [List.length_drop];omega) _ _ rfl
  ·rw [mixAll_small s l (by omega)];show l.length<64;omega
theorem info34:(Tryz.prog.info? 34).map (·.size)=some 32:=by kernel_rfl
def hashV (l:Bs):Value:=.agg (l.map byteV).toArray
theorem hash_one (l:Bs):(l.map byteV).toArray.all (·.oneCell')=true:=by
 rw [Array.all_eq_true]
 intro i hi
 simp [byteV,Value.oneCell']
theorem results_hash (fn:Func) (hr:fn.results=#[.cell 2 34]) (tmps:Array Value) (w:World) (b:Nat) (cs:Array Value) (hp:tmps.getD 2 undef=.pointer (some ⟨b,0,none⟩)) (hc:w.heap[b]?=some (.cells cs 34 (0,0))) (hs:cs.size=32) :
  (results fn tmps).run Tryz.prog w=.ok (.agg cs) w :=
 results_cell_row (fn:=fn) hr tmps w b 34 cs (0,0) _ hp hc Tryz.underlying34 rfl (by rw [hs];exact info34)
set_option maxRecDepth 100000 in
set_option maxHeartbeats 1600000 in
theorem sum256_any (v:Value) (l:Bs) (w:World) (hv:SlIn w v l) (hl:l.length≤1099511627776) (he:EnvH w) :
  Calls Tryz.prog 77 #[v] w fun e w'=>e=.returned (hashV (sha l))∧Mv (fun _=>False) w w':=by
 have HV:=zh hv
 have HE:=zh he
 have HL:=zh hl
 clear hv he hl
 go_enter Tryz.func77,Tryz.ntmps77
 go_wp2_with fail
 generalize hZ:(#[_,_,_,_,_,_,_,_,_,_,_,_,_,_,_,_,_,_,_,_,_,_,_,_,_,_,_,_,_,_,_,_]:Array Value)=Z
 have hZs:Z.size=32:=by rw [←hZ];rfl
 obtain ⟨R,hR⟩:=zg (w.heap.size)
 rw [←hR]
 generalize hW1:w.alloc _=W1
 have h1:W1.heap[R]?=some (.cells Z 34 (0,0)):=by rw [←hW1,hR];exact heap_alloc_new _ _
 have hm1:Mv (fun _=>False) w W1:=by rw [←hW1];exact (Mv.refl _ _).alloc _
 have H1:=zh h1
 have HM1:=zh hm1
 have HR:=zh hR
 have HZS:=zh hZs
 have HV1:=zh (HV.out.mv hm1 (fun _ _ h=>h))
 have HE1:=zh (HE.out.mv hm1 (fun _ h=>h.elim))
 clear hZ hZs hW1 h1 hm1 hR
 refine (new_256 W1 HE1.out.t).mono ?_
 rintro e w2 ⟨D,rfl,hDs,hd,hm2⟩
 have HD:=zh hd
 have HM2:=zh hm2
 have hw2:Hid (EnvH w2):=zh (HE1.out.mv hm2 (fun _ h=>h.elim))
 have HV2:Hid (SlB w2 D v l):=zh (by
  rcases HV1.out with h|⟨g,off,cap,h1,h2,h3,h4⟩
  ·exact .inl h
  ·exact .inr ⟨g,off,cap,h1,h2,h3.mv hm2 id,by omega⟩)
 have hD20:20<D:=Nat.lt_of_lt_of_le HE1.out.big hDs
 clear hd hm2
 go_wp2_with fail
 refine (write_any D v l w2 HD.out HV2.out HL.out hw2.out.s hD20).mono ?_
 rintro e w3 ⟨rfl,v1,hd3,hown,hm3,hnil⟩
 have HD3:=zh hd3
 have HM3:=zh hm3
 have HB3:Hid ((v1=.slice none 0 0∧(mixAll h0 l).2=[])∨∃ g1 cap1,v1=.slice (some ⟨g1,0,none⟩) (mixAll h0 l).2.length cap1∧BytesAt w3 g1 0 (mixAll h0 l).2∧(mixAll h0 l).2≠[]):=zh (by
  by_cases hz:(mixAll h0 l).2=[]
  ·exact .inl ⟨hnil hz,hz⟩
  ·rcases hown.2 with ⟨_,h⟩|⟨g,c,cur,rfl,hb,hg,hc,hm,hcs,htk⟩
   ·exact absurd (List.eq_nil_of_length_eq_zero h) hz
   ·refine .inr ⟨g,c,rfl,fun j b hj=>?_,hz⟩
    have hq:((mixAll h0 l).2.map byteV)[j]?=some (byteV b):=by rw [List.getElem?_map,hj];rfl
    rw [←htk,List.getElem?_take] at hq
    rw [Nat.zero_add,cell_of_row _ _ _ _ _ _ hg]
    split at hq
    ·simpa [byteV] using hq
    ·cases hq)
 have hw3:Hid (EnvH w3):=zh (hw2.out.mv hm3 (fun _ h=>by omega))
 clear hd3 hown hm3 hnil
 go_wp2_with fail
 refine (sum_256 D _ l.length _ v1 w3 HD3.out (mixAll_lt _ _) HB3.out HL.out hw3.out.s hD20).mono ?_
 rintro e w4 ⟨hm4,v4,rfl,hown4⟩
 have hsha:(mixAll (mixAll h0 l).1 (padL (mixAll h0 l).2 l.length)).1.bytes=sha l:=rfl
 rw [hsha] at hown4
 have HM4:=zh hm4
 rcases hown4.2 with ⟨_,h⟩|⟨g,c,cur,rfl,hb,hg,hc,hm,hcs,htk⟩
 ·cases h
 have hcells:∀ (j:Nat) u,((sha l).map byteV)[j]?=some u→w4.cell? ⟨g,0+j,none⟩=some u:=fun j u hu=>by
  rw [Nat.zero_add,cell_of_row _ _ _ _ _ _ hg]
  rw [←htk,List.getElem?_take] at hu
  split at hu
  ·simpa using hu
  ·cases hu
 have HC:=zh hcells
 have hsl:((sha l).map byteV).length=32:=by rw [List.length_map];rfl
 have HSL:=zh hsl
 have HONE:=zh (hash_one (sha l))
 have hRD:R≠D:=by have:=lt_of_heap H1.out;omega
 have hr4:Hid (w4.heap[R]?=some (.cells Z 34 (0,0))):=zh (by
  have hR1:=lt_of_heap H1.out
  have hR2:=Nat.lt_of_lt_of_le hR1 HM2.out.size
  have hR3:=Nat.lt_of_lt_of_le hR2 HM3.out.size
  rw [hm4.block R hR3 id,HM3.out.block R hR2 (by omega),HM2.out.block R hR1 id];exact H1.out)
 have HA:Hid (∃ cs,cs=(sha l).map byteV):=zh ⟨_,rfl⟩
 obtain ⟨cs,hcs⟩:=HA.out
 rw [←hcs] at HC HSL HONE
 have HCS:=zh hcs
 have HI34:Hid ((Tryz.prog.info? 34).map (·.size)=some cs.toArray.size):=zh (by rw [List.size_toArray,HSL.out];exact info34)
 have HZ34:Hid (Z.size=cs.toArray.size):=zh (HZS.out.trans (by simp [HSL.out]))
 have hat:(Instr.arrayAt 34 (.slice (some ⟨g,0,none⟩) 32 c)).run Tryz.prog w4=.ok (.pointer (some ⟨g,0,none⟩)) w4:=run_arrayAt w4 34 _ 32 _ 32 c Tryz.underlying34 (Nat.le_refl _)
 clear hcells hsl hown4 hm4 hb hg hc hm hcs htk hsha
 go_wp2_with (first
  | (refine wpList_load_cellsAt rfl 34 _ rfl g 0 rfl cs _ HC.out Tryz.underlying34 rfl (by rw [HSL.out];exact info34) ?_)
  | (refine wpList_store_row rfl 34 _ _ rfl R cs.toArray rfl rfl 34 Z hr4.out HI34.out HZ34.out HONE.out ?_))
 refine bodyPost_ret (results_hash Tryz.f77 rfl _ _ R cs.toArray rfl (setRow_heap _ _ _ _ _ _ hr4.out) (by simp [HSL.out])) rfl ?_
 refine ⟨by rw [HCS.out];rfl,?_⟩
 have hR:=HR.out
 have m3:Mv (fun b=>b=D) W1 w3:=(HM2.out.mono (fun _ _ h=>h.elim)).trans HM3.out
 have hD1:w.heap.size≤D:=Nat.le_trans HM1.out.size hDs
 have m4:Mv (fun _=>False) w w4:=(HM1.out.trans' m3 (fun i hi h=>by omega)).trans HM4.out
 exact m4.setRow (.inr (by omega)) _
end Go.Proofs.YtdfdikpklddnhaaGreatDoor
