/- Of the proof of EvidenceJudges, second form: for values of bulk at most 1048576. (Ej06) -/
import Derived.Test.YtdfdikpklddnhaaGreatDoorEj01
import Derived.Test.YtdfdikpklddnhaaGreatDoorEj04
import Derived.Test.YtdfdikpklddnhaaGreatDoorEj05
namespace Go.Proofs.YtdfdikpklddnhaaGreatDoor
open Go.RowKit
def St8.words (s:St8):List UInt32:=[s.a,s.b,s.c,s.d,s.e,s.f,s.g,s.h]
def St8.pre (s:St8) (j:Nat):Bs:=(s.words.take j).flatMap be4
theorem St8.pre_eight (s:St8):s.pre 8=s.bytes:=by simp [St8.pre,St8.words,St8.bytes]
theorem St8.pre_succ (s:St8) (j:Nat) (x:UInt32) (h:s.words[j]?=some x):s.pre (j+1)=s.pre j++be4 x:=by
 unfold St8.pre
 rw [List.take_add_one,h,List.flatMap_append]
 simp
theorem St8.pre_length (s:St8) (j:Nat) (h:j≤8):(s.pre j).length=4 * j:=by
 unfold St8.pre
 rcases (by omega:j=0∨j=1∨j=2∨j=3∨j=4∨j=5∨j=6∨j=7∨j=8) with rfl|rfl|rfl|rfl|rfl|rfl|rfl|rfl|rfl <;> rfl
set_option maxRecDepth 100000 in
set_option maxHeartbeats 1600000 in
theorem lay_any (D base:Nat) (s:St8) (v:Value) (w:World) (hv:w.ownsRow base 5 1 v 0 []) (hbase:base≤w.heap.size)
  (hc:∀ j x,s.words[j]?=some x→w.cell? ⟨D,2+j,none⟩=some (.int .u32 x.toNat)) (hD:D<base) :
  Calls Tryz.prog 243 #[v,.slice (some ⟨D,2,none⟩) 8 8,.int .i64 4] w fun e w' =>
   Mv (fun b=>base≤b) w w'∧∃ v',e=.returned v'∧w'.ownsRow base 5 1 v' 32 (s.bytes.map byteV):=by
 obtain ⟨i0,hi0,hz0,hz1,hz2⟩:=info_parts Tryz.info5
 have HV:=zh hv
 have HC:=zh hc
 clear hv hc
 go_enter Tryz.func243,Tryz.ntmps243
 go_wp2_with fail
 go_loopw [12,0] (fun i o wr=>∃ j:Nat,∃ v:Value,j≤8∧i=.int .i64 j∧o=v∧wr.ownsRow base 5 1 v (s.pre j).length ((s.pre j).map byteV)∧Mv (fun b=>base≤b) w wr) (fun i _ _=>8 - (intOf i).toNat)
 case atStart=>exact ⟨0,_,Nat.zero_le _,rfl,rfl,HV.out,Mv.refl _ _⟩
 case round =>
  obtain ⟨j,v,hj,rfl,rfl,hown,hB⟩:=hrel
  have HOWN:=zh hown
  have HB:=zh hB
  clear hown hB
  by_cases hj8:j<8
  ·obtain ⟨x,hx⟩:∃ x,s.words[j]?=some x:=⟨s.words[j]'(by simpa [St8.words] using hj8),List.getElem?_eq_getElem _⟩
   have hq:=HC.out j x hx
   have hDw:D<w.heap.size:=by omega
   have hq2:wr.cell? ⟨D,2+j,none⟩=some (.int .u32 x.toNat):=(Mv.cell (p:=⟨D,2+j,none⟩) HB.out hDw (show ¬ base≤D by omega)).trans hq
   have hnx:=s.pre_succ j x hx
   have hlen:=s.pre_length j hj
   obtain ⟨pre,hp⟩:=zg (s.pre j)
   rw [←hp] at HOWN hnx hlen
   have HNX:=zh hnx
   have hl32:pre.length≤32:=by omega
   have hx32:=x.toNat_lt
   obtain ⟨wo,rfl⟩:∃ wo:World,wo=wr:=⟨_,rfl⟩
   have hj1:(j:Int)<8:=by omega
   clear hq hp hnx hx hlen
   go_wp2_with fail
   go_loopw [9,0] (fun i o wr=>∃ t:Nat,∃ v:Value,t≤4∧i=.int .i64 (3 - t)∧o=v∧wr.ownsRow base 5 1 v (pre++(be4 x).take t).length ((pre++(be4 x).take t).map byteV)∧Mv (fun b=>base≤b) w wr) (fun i _ _=>((intOf i)+1).toNat)
   case atStart=>exact ⟨0,_,Nat.zero_le _,rfl,rfl,by simpa using HOWN.out,HB.out⟩
   case round =>
    obtain ⟨t,v2,ht,rfl,rfl,hown2,hB2⟩:=hrel
    have HOWN2:=zh hown2
    have HB2:=zh hB2
    have hw2:=hB2.size
    clear hown2 hB2
    by_cases h4:t<4
    ·rcases (by omega:t=0∨t=1∨t=2∨t=3) with rfl|rfl|rfl|rfl
     all_goals go_wp2_with (first|(at_builtin;go_loud (refine wpList_append_own _ rfl _ _ 26 rfl base 5 i0 (.int .u8 0) 1 1 Tryz.underlying26 hi0 hz0 hz1 hz2 rfl (by decide) _ _ _ rfl (HOWN2.out.alloc _) ⟨wr.heap.size,0,none⟩ 1 1 [_] rfl rfl (cell_one_new _ _ _) (by intro u hu;simp at hu;subst hu;rfl) (by simp [be4];unfold maxLen;omega) (by simp [be4];omega) (by simp;omega) ?_);intro v1 w2 hown1 hgrow1 hnil1))
     ·go_roundw
      case rel =>
       refine ⟨1,v1,by omega,by simp,rfl,?_,(HB2.out.alloc _).grown hgrow1 (fun k hk=>.inl (HOWN2.out.lt k hk).1)⟩
       have h:=hown1
       simp [be4,byteV] at h ⊢
       rw [show (x.toNat:Int) / 16777216 % 256=(x.toNat:Int) / 16777216 by omega]
       exact h
      case measure=>simp [intOf]
     ·go_roundw
      case rel =>
       refine ⟨2,v1,by omega,by simp,rfl,?_,(HB2.out.alloc _).grown hgrow1 (fun k hk=>.inl (HOWN2.out.lt k hk).1)⟩
       have h:=hown1
       simp [be4,byteV,Nat.add_assoc] at h ⊢
       exact h
      case measure=>simp [intOf]
     ·go_roundw
      case rel =>
       refine ⟨3,v1,by omega,by simp,rfl,?_,(HB2.out.alloc _).grown hgrow1 (fun k hk=>.inl (HOWN2.out.lt k hk).1)⟩
       have h:=hown1
       simp [be4,byteV,Nat.add_assoc] at h ⊢
       exact h
      case measure=>simp [intOf]
     ·go_roundw
      case rel =>
       refine ⟨4,v1,by omega,by simp,rfl,?_,(HB2.out.alloc _).grown hgrow1 (fun k hk=>.inl (HOWN2.out.lt k hk).1)⟩
       have h:=hown1
       simp [be4,byteV,Nat.add_assoc] at h ⊢
       exact h
      case measure=>simp [intOf]
    ·have h44:t=4:=by omega
     subst h44
     go_wp2_with fail
     have h:=HOWN2.out
     rw [show (be4 x).take 4=be4 x from rfl,←HNX.out] at h
     refine ⟨⟨j+1,_,by omega,rfl,rfl,h,HB2.out⟩,by simp [intOf];omega⟩
  ·have h8:j=8:=by omega
   subst h8
   go_wp2_with fail
   go_ret
   refine ⟨HB.out,_,rfl,?_⟩
   have:=HOWN.out
   rw [s.pre_eight] at this
   exact this
def zb (n:Nat):Array Value:=Array.replicate n (.int .u8 0)
theorem make32:∀ w:World,(Instr.makeSlice 26 (.int .i64 0) (.int .i64 32)).run Tryz.prog w=.ok (.slice (some ⟨w.heap.size,0,none⟩) 0 32) (w.alloc (.cells (zb 32) 5)):=fun _=>by kernel_rfl
theorem word_cell (s:St8) (j:Nat) (x:UInt32) (h:s.words[j]?=some x):s.cells[j]?=some (u32V x):=by
 have e:s.cells=s.words.map u32V:=rfl
 rw [e,List.getElem?_map,h];rfl
set_option maxRecDepth 100000 in
set_option maxHeartbeats 1600000 in
theorem words_any (D:Nat) (s:St8) (cnt:Int) (re:Value) (w:World) (hD:w.heap[D]?=some (.cells (digC cnt s re) 292 (0,0))) :
  Calls Tryz.prog 179 #[.pointer (some ⟨D,0,none⟩)] w fun e w' =>
   Mv (fun _=>False) w w'∧∃ v',e=.returned v'∧w'.ownsRow w.heap.size 5 1 v' 32 (s.bytes.map byteV):=by
 have HD:=zh hD
 have c0:w.cell? ⟨D,0,none⟩=some (.int .i64 256):=cell_of_heap hD 0 rfl
 have hmk:=make32
 clear hD
 go_enter Tryz.func179,Tryz.ntmps179
 go_wp2_with fail
 have KL:∀ W:World,W=(w.drew.alloc (.cells (zb 32) 5))→Calls Tryz.prog 243 #[.slice (some ⟨w.heap.size,0,none⟩) 0 32,.slice (some ⟨D,2,none⟩) 8 8,.int .i64 4] W fun e w'=>Mv (fun _=>False) w w'∧∃ v',e=.returned v'∧w'.ownsRow w.heap.size 5 1 v' 32 (s.bytes.map byteV):=by
  intro W hW
  have m1:Mv (fun _=>False) w W:=by rw [hW];exact ((Mv.refl _ _).drew).alloc _
  have hown:W.ownsRow w.heap.size 5 1 (.slice (some ⟨w.heap.size,0,none⟩) 0 32) 0 []:=by
   rw [hW];exact World.ownsRow_made w.drew (zb 32) 32 (Nat.le_refl _) (by unfold maxLen;decide) (by unfold zb;simp)
  have hD1:D<w.heap.size:=lt_of_heap HD.out
  refine (lay_any D w.heap.size s _ W hown m1.size (fun j x hx=>?_) hD1).mono fun e w' h=>⟨m1.trans' h.1 (fun i hi h=>by omega),h.2⟩
  rw [m1.cell (p:=⟨D,2+j,none⟩) hD1 id]
  exact st8_cells_at w D s _ _ HD.out j _ (word_cell s j x hx)
 have KLH:=zh KL
 clear KL
 go_region_with (go_at_call 243;refine (KLH.out _ rfl).mono ?_;rintro e w1 ⟨hm,v1,rfl,hown⟩;have HM:=zh hm;have HOWN:=zh hown;clear hm hown)
 go_wp2_with fail
 go_ret
 exact ⟨HM.out,_,rfl,HOWN.out⟩
end Go.Proofs.YtdfdikpklddnhaaGreatDoor
