/- Of the proof of EvidenceJudges, second form: for values of bulk at most 1048576. (Ej04) -/
import Derived.Test.YtdfdikpklddnhaaGreatDoorEj01
import Derived.Test.YtdfdikpklddnhaaGreatDoorEj02
import Derived.Test.YtdfdikpklddnhaaGreatDoorProg
import Derived.Test.YtdfdikpklddnhaaGreatDoorEj03
import Derived.RegionTactic
import Derived.IntWalk
import Derived.Deep.RegionWith
namespace Go.Proofs.YtdfdikpklddnhaaGreatDoor
open Go.RowKit
def preW (l:Bs) (i k:Nat):Nat:=((l.drop (4 * i)).take k).foldl (fun a b=>a * 256+b.toNat) 0
theorem preW_succ (l:Bs) (i k:Nat) (b:UInt8) (h:l[4 * i+k]?=some b):preW l i (k+1)=preW l i k * 256+b.toNat:=by
 unfold preW
 rw [List.take_add_one,List.getElem?_drop,h]
 simp [List.foldl_append]
theorem preW_lt (l:Bs) (i:Nat):∀ k,preW l i k<256 ^ k
 | 0=>by unfold preW;rw [List.take_zero];decide
 | k+1=>by
  have ih:=preW_lt l i k
  cases h:l[4 * i+k]? with
  | some b =>
   have hb:=b.toNat_lt
   rw [preW_succ l i k b h,Nat.pow_succ];omega
  | none =>
   have e:preW l i (k+1)=preW l i k:=by
    unfold preW
    rw [List.take_add_one,List.getElem?_drop,h]
    simp
   rw [e,Nat.pow_succ];omega
theorem preW_four (l:Bs) (i:Nat) (h:4 * i+3<l.length):UInt32.ofNat (preW l i 4)=msgW l i:=by
 have hg:∀ j,j<l.length→l[j]?=some (l.getD j 0):=fun j hj=>by simp [hj]
 rw [preW_succ l i 3 _ (hg _ h),preW_succ l i 2 _ (hg _ (by omega)),preW_succ l i 1 _ (hg _ (by omega)),preW_succ l i 0 _ (hg _ (by omega))]
 have e:preW l i 0=0:=rfl
 rw [e]
 unfold msgW word4
 simp
theorem getD_some (C:Array Value) (n:Nat) (h:n<C.size):C[n]?=some (C.getD n undef):=by
 rw [Array.getD_eq_getD_getElem?,Array.getElem?_eq_getElem h];rfl
theorem or_step (X b:Nat) (hX:X<16777216) (hb:b<256):Go.bits .or .u32 ((X:Int) * 256) (b:Int)=((X * 256+b:Nat):Int):=by
 have h:=u32_or_nat (X * 256) b (by omega) (by omega)
 rw [show ((X:Int) * 256)=((X * 256:Nat):Int) by omega,h,nat_join 8 (X * 256) b (by omega) (by omega)]
set_option maxRecDepth 100000 in
set_option maxHeartbeats 1600000 in
theorem load_any (wb:Nat) (g off cap:Nat) (l:Bs) (C:Array Value) (TW:TypeId) (w:World) (hl:l.length=64)
  (hW:w.heap[wb]?=some (.cells C TW (0,0))) (hC:C.size=64) (hg:g≠wb) (hcap:64≤cap)
  (hb:∀ (j:Nat) b,l[j]?=some b→w.cell? ⟨g,off+j,none⟩=some (.int .u8 b.toNat)) :
  Calls Tryz.prog 239 #[.slice (some ⟨wb,0,none⟩) 16 64,.slice (some ⟨g,off,none⟩) 64 cap,.int .i64 4] w fun e w' =>
   e=.returned (.tuple #[])∧(∃ C',w'.heap[wb]?=some (.cells C' TW (0,0))∧C'.size=64∧∀ j,j<16→C'[j]?=some (u32V (msgW l j)))∧Mv (fun b=>b=wb) w w':=by
 have HL:=zh hl
 have HW:=zh hW
 have HC:=zh hC
 have HB:=zh hb
 clear hl hW hC hb
 go_enter Tryz.func239,Tryz.ntmps239
 go_wp2_with fail
 go_loopw [12] (fun i wr=>∃ n:Nat,∃ C:Array Value,n≤16∧i=.int .i64 n∧wr.heap[wb]?=some (.cells C TW (0,0))∧C.size=64∧(∀ j,j<n→C[j]?=some (u32V (msgW l j)))∧Mv (fun b=>b=wb) w wr) (fun i _=>16 - (intOf i).toNat)
 case atStart=>exact ⟨0,C,by omega,rfl,HW.out,HC.out,fun j hj=>by omega,Mv.refl _ _⟩
 case round =>
  obtain ⟨n,C1,hn,rfl,h1,h2,h3,h4⟩:=hrel
  have H1:=zh h1
  have H2:=zh h2
  have H3:=zh h3
  have H4:=zh h4
  clear h1 h2 h3 h4
  by_cases hlt:n<16
  ·obtain ⟨wo,rfl⟩:∃ wo:World,wo=wr:=⟨_,rfl⟩
   have e4:(n+1) * 4 - n * 4=4:=by omega
   go_wp2_with fail
   go_loop [25,7] (fun i x=>∃ k:Nat,∃ X:Nat,k≤4∧i=.int .i64 k∧X=preW l n k∧x=.int .u32 X) (fun i _=>4 - (intOf i).toNat)
   case atStart=>exact ⟨0,0,by omega,rfl,rfl,rfl⟩
   case round =>
    obtain ⟨k,X,hk,rfl,hX,rfl⟩:=hrel
    have HX:=zh hX
    have hlt0:=preW_lt l n k
    rw [←hX] at hlt0
    clear hX
    by_cases hk4:k<4
    ·have hX24:X<16777216:=Nat.lt_of_lt_of_le hlt0 (by
      have:(256:Nat) ^ k≤256 ^ 3:=Nat.pow_le_pow_right (by decide) (by omega)
      omega)
     obtain ⟨b,hb⟩:∃ b,l[4 * n+k]?=some b:=⟨l[4 * n+k]'(by rw [HL.out];omega),List.getElem?_eq_getElem _⟩
     have hc:=HB.out _ b hb
     rw [←Mv.cell (p:=⟨g,off+(4 * n+k),none⟩) H4.out (World.block_lt_of_cell? _ _ hc) hg] at hc
     have hc':wo.cell? ⟨g,off+n * 4+k,none⟩=some (.int .u8 b.toNat):=by rw [show off+n * 4+k=off+(4 * n+k) by omega];exact hc
     have hps:=preW_succ l n k b hb
     rw [←HX.out] at hps
     have HPS:=zh hps
     have hb256:=b.toNat_lt
     have hor:=or_step X b.toNat hX24 (by omega)
     clear hb hc hps hlt0
     go_wp2_with fail
     go_round
     case rel=>exact ⟨k+1,X * 256+b.toNat,by omega,by go_num,HPS.out.symm,by go_num⟩
     case measure=>simp [intOf];omega
    ·have h4:k=4:=by omega
     subst h4
     have hpf:=preW_four l n (by rw [HL.out];omega)
     rw [←HX.out] at hpf
     have HPF:=zh hpf
     have hX32:X<4294967296:=hlt0
     have cf:=free_of_heap H1.out n
     have cw:wo.cell? ⟨wb,n,none⟩=some (C1.getD n undef):=cell_of_heap H1.out _ (getD_some _ _ (by rw [H2.out];omega))
     clear hpf hlt0
     go_wp2_with fail
     go_roundw
     case rel =>
      have hv:Value.int .u32 X=u32V (msgW l n):=by
       rw [←HPF.out];unfold u32V
       rw [UInt32.toNat_ofNat',Nat.mod_eq_of_lt hX32]
      rw [hv]
      refine ⟨n+1,C1.setIfInBounds n (u32V (msgW l n)),by omega,by go_num,heap_setCell_same H1.out _,by simp [H2.out],fun j hj=>?_,H4.out.setCell (.inl rfl) _⟩
      rw [Array.getElem?_setIfInBounds]
      by_cases hjn:n=j
      ·subst hjn;simp [H2.out];omega
      ·rw [if_neg hjn];exact H3.out j (by omega)
     case measure=>simp [intOf];omega
  ·have h16:n=16:=by omega
   subst h16
   go_wp2_with fail
   go_end0
   exact ⟨rfl,⟨C1,H1.out,H2.out,H3.out⟩,H4.out⟩
structure EnvS (w:World):Prop where
 rounds:∀ j,j<64→w.cell? ⟨3,j,none⟩=some (u32V (kc j))
 turns:∀ (j:Nat) v,turnsV[j]?=some v→w.cell? ⟨4,j,none⟩=some v
theorem EnvS.mv {F:Nat→Prop} {w w':World} (h:EnvS w) (hm:Mv F w w') (h3:¬ F 3) (h4:¬ F 4):EnvS w' :=
 ⟨fun j hj=>(Mv.cell (p:=⟨3,j,none⟩) hm (World.block_lt_of_cell? _ _ (h.rounds j hj)) h3).trans (h.rounds j hj),
  fun j v hv=>(Mv.cell (p:=⟨4,j,none⟩) hm (World.block_lt_of_cell? _ _ (h.turns j v hv)) h4).trans (h.turns j v hv)⟩
def BytesAt (w:World) (g off:Nat) (l:Bs):Prop:=∀ (j:Nat) b,l[j]?=some b→w.cell? ⟨g,off+j,none⟩=some (.int .u8 b.toNat)
theorem BytesAt.mv {F:Nat→Prop} {w w':World} {g off:Nat} {l:Bs} (h:BytesAt w g off l) (hm:Mv F w w') (hg:¬ F g):BytesAt w' g off l:=fun j b hb =>
 (Mv.cell (p:=⟨g,off+j,none⟩) hm (World.block_lt_of_cell? _ _ (h j b hb)) hg).trans (h j b hb)
set_option maxRecDepth 100000 in
set_option maxHeartbeats 1600000 in
theorem mix_any (D:Nat) (s:St8) (cnt:Int) (re:Value) (g off cap:Nat) (l:Bs) (w:World) (hl:l.length=64)
  (hD:w.heap[D]?=some (.cells (digC cnt s re) 292 (0,0))) (hcap:64≤cap) (hb:BytesAt w g off l) (he:EnvS w) (hD3:20<D) :
  Calls Tryz.prog 178 #[.pointer (some ⟨D,0,none⟩),.slice (some ⟨g,off,none⟩) 64 cap] w fun e w' =>
   e=.returned (.tuple #[])∧w'.heap[D]?=some (.cells (digC cnt (mixB s l) re) 292 (0,0))∧Mv (fun b=>b=D) w w':=by
 have HL:=zh hl
 have HD:=zh hD
 have HB:=zh hb
 have HE:=zh he
 have c0:w.cell? ⟨D,0,none⟩=some (.int .i64 256):=cell_of_heap hD 0 rfl
 clear hl hD hb he
 go_enter Tryz.func178,Tryz.ntmps178
 go_wp2_with fail
 obtain ⟨W,hW⟩:=zg (w.heap.size)
 rw [←hW]
 generalize hC0:(#[_,_,_,_,_,_,_,_,_,_,_,_,_,_,_,_,_,_,_,_,_,_,_,_,_,_,_,_,_,_,_,_,_,_,_,_,_,_,_,_,_,_,_,_,_,_,_,_,_,_,_,_,_,_,_,_,_,_,_,_,_,_,_,_]:Array Value)=C0
 have hC0s:C0.size=64:=by rw [←hC0];rfl
 generalize hW1:w.alloc _=W1
 have hg1:W1.heap[W]?=some (.cells C0 333 (0,0)):=by rw [←hW1,hW];exact heap_alloc_new _ _
 have hm1:Mv (fun _=>False) w W1:=by rw [←hW1];exact (Mv.refl _ _).alloc _
 have hb1:BytesAt W1 g off l:=HB.out.mv hm1 id
 have hd1:W1.heap[D]?=some (.cells (digC cnt s re) 292 (0,0)):=(hm1.block D (lt_of_heap HD.out) id).trans HD.out
 have he1:EnvS W1:=HE.out.mv hm1 id id
 have hDW:D<W:=by rw [hW];exact lt_of_heap HD.out
 have hgW:g<W:=by
  rw [hW]
  exact World.block_lt_of_cell? _ _ (HB.out 0 (l[0]'(by rw [HL.out];decide)) (List.getElem?_eq_getElem _))
 have HW1:=zh hg1
 have HM1:=zh hm1
 have HB1:=zh hb1
 have HD1:=zh hd1
 have HE1:=zh he1
 have HWE:=zh hW
 clear hC0 hW1 hg1 hm1 hb1 hd1 he1 hW
 refine (load_any W g off cap l C0 333 W1 HL.out HW1.out hC0s (by omega) hcap HB1.out).mono ?_
 rintro e w2 ⟨rfl,⟨C2,h1,h2,h3⟩,h4⟩
 have HW2:=zh h1
 have HC2:=zh h2
 have HM2:=zh h3
 have hd2:w2.heap[D]?=some (.cells (digC cnt s re) 292 (0,0)):=(h4.block D (lt_of_heap HD1.out) (by omega)).trans HD1.out
 have he2:EnvS w2:=HE1.out.mv h4 (by omega) (by omega)
 have HD2:=zh hd2
 have HE2:=zh he2
 have H4:=zh h4
 have k0:w2.cell? ⟨4,0,none⟩=some (.int .i64 2):=he2.turns 0 _ rfl
 have k1:w2.cell? ⟨4,1,none⟩=some (.int .i64 13):=he2.turns 1 _ rfl
 have k2:w2.cell? ⟨4,2,none⟩=some (.int .i64 22):=he2.turns 2 _ rfl
 have k3:w2.cell? ⟨4,3,none⟩=some (.int .i64 6):=he2.turns 3 _ rfl
 have k4:w2.cell? ⟨4,4,none⟩=some (.int .i64 11):=he2.turns 4 _ rfl
 have k5:w2.cell? ⟨4,5,none⟩=some (.int .i64 25):=he2.turns 5 _ rfl
 have k6:w2.cell? ⟨4,6,none⟩=some (.int .i64 7):=he2.turns 6 _ rfl
 have k7:w2.cell? ⟨4,7,none⟩=some (.int .i64 18):=he2.turns 7 _ rfl
 have k8:w2.cell? ⟨4,8,none⟩=some (.int .i64 3):=he2.turns 8 _ rfl
 have k9:w2.cell? ⟨4,9,none⟩=some (.int .i64 17):=he2.turns 9 _ rfl
 have k10:w2.cell? ⟨4,10,none⟩=some (.int .i64 19):=he2.turns 10 _ rfl
 have k11:w2.cell? ⟨4,11,none⟩=some (.int .i64 10):=he2.turns 11 _ rfl
 clear h1 h2 h3 h4 hd2 he2 c0 hC0s
 go_wp2_with fail
 have KC:Hid (Calls Tryz.prog 240 #[.pointer (some ⟨D,2,none⟩),.slice (some ⟨W,0,none⟩) 64 64,.slice (some ⟨3,0,none⟩) 64 64,.agg #[.int .i64 2,.int .i64 13,.int .i64 22,.int .i64 6,.int .i64 11,.int .i64 25,.int .i64 7,.int .i64 18,.int .i64 3,.int .i64 17,.int .i64 19,.int .i64 10],.int .i64 32] w2.drew fun e w' =>
   e=.returned (.tuple #[])∧w'.heap[D]?=some (.cells (digC cnt (mixB s l) re) 292 (0,0))∧Mv (fun b=>b=D∨b=W) w2 w'):=zh <|
  (compress_any D W 3 0 s (msgW l) cnt re C2 333 w2.drew HD2.out HW2.out HC2.out HM2.out (fun j hj=>by rw [Nat.zero_add];exact HE2.out.rounds j hj) (by omega) (by omega)).mono fun _ _ h =>
   ⟨h.1,h.2.1,⟨h.2.2.os,h.2.2.tape,h.2.2.output,h.2.2.size,h.2.2.block⟩⟩
 go_region_with (go_at_call 240;go_loud (refine KC.out.mono ?_;rintro e w3 ⟨rfl,hx,hy⟩;have HX:=zh hx;have HY:=zh hy;clear hx hy))
 go_wp2_with fail
 refine bodyPost_ret (results_none rfl _ _ _) rfl ?_
 have hW:=HWE.out
 refine ⟨rfl,HX.out,?_⟩
 have m1:Mv (fun b=>b=D) w W1:=HM1.out.mono (fun _ _ h=>h.elim)
 have m2:Mv (fun b=>b=D) w w2:=m1.trans' H4.out (fun i hi h=>by omega)
 exact m2.trans' HY.out (fun i hi h=>by omega)
end Go.Proofs.YtdfdikpklddnhaaGreatDoor
