/- Of the proof of EvidenceJudges, second form: for values of bulk at most 1048576. (Ej07) -/
import Derived.Test.YtdfdikpklddnhaaGreatDoorEj01
import Derived.Test.YtdfdikpklddnhaaGreatDoorEj05
import Derived.Test.YtdfdikpklddnhaaGreatDoorEj06
import Derived.Laws.AppendOwnNone
namespace Go.Proofs.YtdfdikpklddnhaaGreatDoor
open Go.RowKit
def SlB (w:World) (D:Nat) (v:Value) (l:Bs):Prop :=
 (v=.slice none 0 0∧l=[])∨∃ g off cap,v=.slice (some ⟨g,off,none⟩) l.length cap∧l.length≤cap∧BytesAt w g off l∧g≠D
theorem BytesAt.drop {w:World} {g off:Nat} {l:Bs} (h:BytesAt w g off l) (k:Nat):BytesAt w g (off+k) (l.drop k):=fun j b hb=>by
 rw [List.getElem?_drop] at hb
 rw [Nat.add_assoc];exact h _ _ hb
theorem BytesAt.take {w:World} {g off:Nat} {l:Bs} (h:BytesAt w g off l) (k:Nat):BytesAt w g off (l.take k):=fun j b hb=>by
 rw [List.getElem?_take] at hb
 split at hb
 ·exact h _ _ hb
 ·cases hb
theorem addr_add (g off j:Nat):(⟨g,off,none⟩:Addr).add j=⟨g,off+j,none⟩:=by unfold Addr.add;split <;> simp_all
theorem BytesAt.news {w:World} {g off:Nat} {l:Bs} (h:BytesAt w g off l) (j:Nat) (u:Value) (hu:(l.map byteV)[j]?=some u):w.cell? ((⟨g,off,none⟩:Addr).add j)=some u:=by
 rw [addr_add]
 rw [List.getElem?_map] at hu
 cases hb:l[j]? with
 | none=>rw [hb] at hu;cases hu
 | some b =>
  rw [hb] at hu
  cases hu
  exact h j b hb
theorem byteV_one (l:Bs):∀ u∈l.map byteV,u.oneCell'=true:=fun u hu=>by
 obtain ⟨b,_,rfl⟩:=List.mem_map.1 hu
 rfl
theorem owns_shape {w:World} {base:Nat} {e:TypeId} {sz:Nat} {v:Value} {n:Nat} {xs:List Value} (h:w.ownsRow base e sz v n xs):∃ a c,v=.slice a n c:=by
 rcases h.2 with ⟨rfl,rfl⟩|⟨g,c,cur,rfl,_⟩
 ·exact ⟨_,_,rfl⟩
 ·exact ⟨_,_,rfl⟩
theorem owns_setCell {w:World} {base:Nat} {e:TypeId} {sz:Nat} {v:Value} {n:Nat} {xs:List Value} (h:w.ownsRow base e sz v n xs) (D j:Nat) (u:Value) (hD:D<base):(w.setCell ⟨D,j,none⟩ u).ownsRow base e sz v n xs:=by
 refine ⟨h.1,?_⟩
 rcases h.2 with ⟨rfl,h0⟩|⟨g,c,cur,rfl,hb,hg,hr⟩
 ·exact .inl ⟨rfl,h0⟩
 ·exact .inr ⟨g,c,cur,rfl,hb,(heap_setCell_other (by omega) u).trans hg,hr⟩
set_option maxRecDepth 100000 in
set_option maxHeartbeats 1600000 in
theorem write_any (D:Nat) (v:Value) (l:Bs) (w:World) (hD:w.heap[D]?=some (.cells (digC 0 h0 (.slice none 0 0)) 292 (0,0))) (hv:SlB w D v l)
  (hl:l.length≤1099511627776) (he:EnvS w) (hD3:20<D) :
  Calls Tryz.prog 125 #[.pointer (some ⟨D,0,none⟩),v] w fun e w' =>
   e=.returned (.tuple #[])∧∃ v1,w'.heap[D]?=some (.cells (digC l.length (mixAll h0 l).1 v1) 292 (0,0)) ∧
    w'.ownsRow w.heap.size 5 1 v1 (mixAll h0 l).2.length ((mixAll h0 l).2.map byteV)∧Mv (fun b=>b=D) w w'∧((mixAll h0 l).2=[]→v1=.slice none 0 0):=by
 obtain ⟨i0,hi0,hz0,hz1,hz2⟩:=info_parts Tryz.info5
 have HD:=zh hD
 have HE:=zh he
 have c1:w.cell? ⟨D,1,none⟩=some (.int .i64 0):=cell_of_heap hD 1 rfl
 have f1:w.frozen? ⟨D,1,none⟩=false:=free_of_heap hD 1
 have c18:w.cell? ⟨D,18,none⟩=some (.slice none 0 0):=cell_of_heap hD 18 rfl
 obtain ⟨n,hn⟩:=zg (l.length)
 obtain ⟨a,cap,hva,hvb⟩:∃ a cap,v=.slice a n cap∧(a=none→l=[]):=by
  rcases hv with ⟨rfl,rfl⟩|⟨g,off,cap,rfl,_⟩
  ·exact ⟨none,0,by rw [hn];rfl,fun _=>rfl⟩
  ·exact ⟨some ⟨g,off,none⟩,cap,by rw [hn],fun h=>by cases h⟩
 subst hva
 have HV:=zh hv
 have HN:=zh hn
 rw [←hn] at hl
 clear hD he hv hn hvb
 go_enter Tryz.func125,Tryz.ntmps125
 go_wp2_with (first|(go_at_call 177;refine (block_256 D _ _ _ _ HD.out).mono ?_;rintro e w1 ⟨rfl,rfl⟩))
 have hd1:(w.setCell ⟨D,1,none⟩ (.int .i64 n)).heap[D]?=some (.cells (digC n h0 (.slice none 0 0)) 292 (0,0)):=heap_setCell_same HD.out _
 have hm1:Mv (fun b=>b=D) w (w.setCell ⟨D,1,none⟩ (.int .i64 n)):=Mv.setCell (F:=fun b=>b=D) (Mv.refl _ _) (.inl rfl) _
 generalize hW1:w.setCell ⟨D,1,none⟩ _=W1
 rw [hW1] at hd1 hm1
 have HD1:=zh hd1
 have HM1:=zh hm1
 clear hd1 hm1 hW1 c1 f1 c18
 go_loopw [1] (fun p wr=>∃ st:St8,∃ rest:Bs,SlB wr D p rest∧rest.length≤n∧mixAll h0 l=mixAll st rest∧wr.heap[D]?=some (.cells (digC n st (.slice none 0 0)) 292 (0,0))∧EnvS wr∧Mv (fun b=>b=D) w wr) (fun p _=>match p with|.slice _ k _=>k|_=>0)
 case atStart =>
  refine ⟨h0,l,?_,by rw [HN.out];exact Nat.le_refl _,rfl,HD1.out,HE.out.mv HM1.out (by omega) (by omega),HM1.out⟩
  rcases HV.out with ⟨h,h2⟩|⟨g,off,c,h,h2,h3,h4⟩
  ·exact .inl ⟨h,h2⟩
  ·exact .inr ⟨g,off,c,h,h2,h3.mv HM1.out h4,h4⟩
 case round =>
  obtain ⟨st,rest,hs,hrl,hmx,hd,he,hm⟩:=hrel
  have HMX:=zh hmx
  have HDR:=zh hd
  have HER:=zh he
  have HMR:=zh hm
  clear hmx hd he hm
  rcases hs with ⟨rfl,hr⟩|⟨g,off,c,rfl,hrc,hb,hg⟩
  ·have HR:=zh hr
   have cd:wr.cell? ⟨D,18,none⟩=some (.slice none 0 0):=cell_of_heap HDR.out 18 rfl
   have cf:wr.frozen? ⟨D,18,none⟩=false:=free_of_heap HDR.out 18
   clear hr
   go_wp2_with (first|(at_builtin;go_loud (refine wpList_append_own_none rfl _ _ 26 rfl w.heap.size 5 i0 1 Tryz.underlying26 hi0 (.slice none 0 0) 0 [] rfl (World.ownsRow_nil _ _ _ _) rfl ?_)))
   go_end0
   have e2:mixAll h0 l=(st,[]):=by rw [HMX.out,HR.out];exact mixAll_small _ _ (by decide)
   rw [e2]
   refine ⟨rfl,.slice none 0 0,?_,World.ownsRow_nil _ _ _ _,HMR.out.setCell (.inl rfl) _,fun _=>rfl⟩
   rw [←HN.out]
   exact (heap_setCell_same HDR.out _)
  ·have HB:=zh hb
   clear hb
   obtain ⟨k,hk⟩:=zg (rest.length)
   have HK:=zh hk
   rw [←hk] at hrl hrc ⊢
   clear hk
   by_cases h64:64≤k
   ·have hmix:=mix_any D st n (.slice none 0 0) g off c (rest.take 64) wr (by rw [List.length_take,←HK.out];omega) HDR.out (by omega) (HB.out.take 64) HER.out hD3
    have HMIX:=zh hmix
    clear hmix
    by_cases hc:c=64
    ·subst hc
     go_wp2_with fail
     refine HMIX.out.mono ?_
     rintro e w2 ⟨rfl,hd2,hm2⟩
     have HD2:=zh hd2
     have HM2:=zh hm2
     clear hd2 hm2
     go_wp2_with fail
     go_roundw
     case rel =>
      refine ⟨mixB st (rest.take 64),rest.drop 64,.inr ⟨g,off,0,?_,?_,?_,by omega⟩,?_,?_,HD2.out,HER.out.mv HM2.out (by omega) (by omega),HMR.out.trans HM2.out⟩
      ·rw [List.length_drop,←HK.out,show k - 64=0 by omega]
      ·rw [List.length_drop,←HK.out];omega
      ·intro j b hb
       rw [List.getElem?_drop,List.getElem?_eq_none (by rw [←HK.out];omega)] at hb;cases hb
      ·rw [List.length_drop,←HK.out];omega
      ·rw [HMX.out,mixAll_big st rest (by rw [←HK.out];exact h64)]
     case measure=>simp;omega
    ·have hc64:64<c:=by omega
     go_wp2_with fail
     refine HMIX.out.mono ?_
     rintro e w2 ⟨rfl,hd2,hm2⟩
     have HD2:=zh hd2
     have HM2:=zh hm2
     clear hd2 hm2
     go_wp2_with fail
     go_roundw
     case rel =>
      refine ⟨mixB st (rest.take 64),rest.drop 64,.inr ⟨g,off+64,c - 64,?_,?_,(HB.out.drop 64).mv HM2.out hg,hg⟩,?_,?_,HD2.out,HER.out.mv HM2.out (by omega) (by omega),HMR.out.trans HM2.out⟩
      ·rw [List.length_drop,←HK.out]
      ·rw [List.length_drop,←HK.out];omega
      ·rw [List.length_drop,←HK.out];omega
      ·rw [HMX.out,mixAll_big st rest (by rw [←HK.out];exact h64)]
     case measure=>simp;omega
   ·have cd:wr.cell? ⟨D,18,none⟩=some (.slice none 0 0):=cell_of_heap HDR.out 18 rfl
    have hDw:D<w.heap.size:=lt_of_heap HD.out
    have hwr:=HMR.out.size
    have hnews:=zh (HB.out.news)
    have hlen:(rest.map byteV).length=k * 1:=by rw [List.length_map,←HK.out,Nat.mul_one]
    have HLEN:=zh hlen
    clear hlen
    go_wp2_with (first|(at_builtin;go_loud (refine wpList_append_own _ rfl _ _ 26 rfl w.heap.size 5 i0 (.int .u8 0) 1 1 Tryz.underlying26 hi0 hz0 hz1 hz2 rfl (by decide) (.slice none 0 0) 0 [] rfl (World.ownsRow_nil _ _ _ _) ⟨g,off,none⟩ k c (rest.map byteV) rfl HLEN.out hnews.out (byteV_one rest) (by unfold maxLen;omega) (by omega) hwr ?_);intro v1 w2 hown hgrow hnil;have HOWN:=zh hown;have HGROW:=zh hgrow;obtain ⟨a1,c1,rfl⟩:=owns_shape hown;have hdg:w2.heap[D]?=some (.cells (digC n st (.slice none 0 0)) 292 (0,0)):=(hgrow.block D (lt_of_heap HDR.out) (by simp [Value.ownBlock])).trans HDR.out;have HDG:=zh hdg;have cd2:=cell_of_heap hdg 18 rfl;have cf2:=free_of_heap hdg 18;have HNIL:=zh hnil;clear hown hgrow hnil hdg))
    go_end0
    have e2:mixAll h0 l=(st,rest):=by rw [HMX.out];exact mixAll_small _ _ (by rw [←HK.out];omega)
    rw [e2]
    refine ⟨rfl,_,(heap_setCell_same HDG.out _).trans (by rw [←HN.out];rfl),?_,?_,fun h=>?_⟩
    ·have h:=HOWN.out
     simp only [Nat.zero_add,List.nil_append] at h
     have h2:=owns_setCell h D 18 (.slice a1 k c1) hDw
     rw [show (st,rest).2.length=k from HK.out.symm]
     exact h2
    ·exact (HMR.out.grown HGROW.out (fun k hk=>by simp [Value.ownBlock] at hk)).setCell (.inl rfl) _
    ·have h0:k=0:=by rw [HK.out];rw [show rest=[] from h];rfl
     have:=HNIL.out.2 ⟨trivial,h0⟩
     simpa using this
end Go.Proofs.YtdfdikpklddnhaaGreatDoor
