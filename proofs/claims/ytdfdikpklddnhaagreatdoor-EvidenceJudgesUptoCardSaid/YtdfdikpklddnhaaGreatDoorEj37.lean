/- Of the proof of EvidenceJudges, second form: for values of bulk at most 1048576. (Ej37) -/
import Derived.Test.YtdfdikpklddnhaaGreatDoorEj01
import Derived.Test.YtdfdikpklddnhaaGreatDoorEj10
import Derived.Lib.AppendZerosOnto
namespace Go.Proofs.YtdfdikpklddnhaaGreatDoor
open Go.RowKit Go.Lib
set_option linter.unusedSimpArgs false
set_option maxRecDepth 100000 in
set_option maxHeartbeats 3200000 in
theorem growNil_any (n:Nat) (w:World) (h1:1≤n) (hn:n≤70368744177664) :
  Calls Tryz.prog 300 #[.slice none 0 0,.int .i64 n] w fun e w'=>∃ v,e=.returned v∧w'.ownsRow w.heap.size 5 1 v 0 []∧Mv (fun _=>False) w w':=by
 obtain ⟨i0,hi0,hz0,hz1,hz2⟩:=info_parts Tryz.info5
 have h3:¬ ((n:Int)<0):=by omega
 have h4:(n:Int) > 0:=by omega
 have hold:(Builtin.firstCells i0.size 0 (.slice none 0 0)).run Tryz.prog w.drew=.ok ([]:List Value).toArray w.drew:=run_firstCells_none w.drew i0.size 0 0 0
 have hrz:∀ ty,(Builtin.append_ #[26,3] ty #[.slice none 0 0,.int .i64 n]).run Tryz.prog w =
   .ok (.slice (some ⟨w.heap.size,0,none⟩) n (grownCap w n 0 5)) (w.drew.alloc (.cells (([]:List Value).toArray++Builtin.zeroCells (Value.int .u8 0).cells n++Builtin.zeroCells (Value.int .u8 0).cells (grownCap w n 0 5 - n)) 5)):=fun ty=>by
  have h:=Lib.run_append_grow_zeros w 26 3 ty 5 i0 (.int .u8 0) .i64 .i64 Tryz.underlying26 Tryz.underlying3 hi0 hz0 none 0 0 [] hold n (by omega) (by rw [hz1];decide) (by omega) (by omega)
   (by rw [hz2];omega) (by rw [hz2,Nat.zero_add];exact growslice_fits (by omega) (by omega))
  rw [Nat.zero_add] at h
  exact h
 have hGn:n≤grownCap w n 0 5:=grownCap_ge w _ _ _
 have hGm:grownCap w n 0 5≤maxLen:=grownCap_le_maxLen w n 0 5 (by unfold maxLen;omega)
 obtain ⟨G,hG⟩:=zg (grownCap w n 0 5)
 rw [←hG] at hrz hGn hGm
 obtain ⟨C,hC⟩:=zg (([]:List Value).toArray++Builtin.zeroCells (Value.int .u8 0).cells n++Builtin.zeroCells (Value.int .u8 0).cells (G - n))
 have hCs:C.size=G:=by
  rw [hC]
  simp [Builtin.zeroCells,Value.cells]
  omega
 rw [←hC] at hrz
 have HCS:=zh hCs
 have HG:=zh hGm
 have hG63:G≤9223372036854775807:=by unfold maxLen at hGm;omega
 clear hold hG hC hCs hGm hz0 hz1 hz2 hi0
 go_enter Tryz.func300,Tryz.ntmps300
 go_wp2_with (at_builtin;refine Lib.wpList_append_run _ rfl _ _ _ _ rfl _ _ rfl rfl _ _ (hrz _) ?_)
 go_ret
 refine ⟨_,rfl,⟨rfl,.inr ⟨w.heap.size,G,C,rfl,Nat.le_refl _,heap_alloc_new w.drew _,Nat.zero_le _,HG.out,by rw [HCS.out,Nat.mul_one],by simp⟩⟩,((Mv.refl _ _).drew).alloc _⟩
theorem flat_take (Ls:List Bs) (j:Nat) (l:Bs) (h:Ls[j]?=some l):(Ls.take (j+1)).flatten=(Ls.take j).flatten++l:=by
 obtain ⟨h1,h2⟩:=List.getElem?_eq_some_iff.1 h
 rw [List.take_succ_eq_append_getElem h1,h2,List.flatten_append]
 simp
theorem flat_le (Ls:List Bs) (hb:∀ l∈Ls,l.length≤1048576):Ls.flatten.length≤Ls.length * 1048576:=by
 induction Ls with
 | nil=>simp
 | cons x r ih =>
  have h1:=ih fun l hl=>hb l (List.mem_cons_of_mem _ hl)
  have h2:=hb x (List.mem_cons_self ..)
  simp only [List.flatten_cons,List.length_append,List.length_cons]
  omega
theorem SlIn.shape0 {w:World} {v:Value} {l:Bs} (h:SlIn w v l):∃ a c,v=.slice a l.length c:=by
 rcases h with ⟨rfl,rfl⟩|⟨g,off,cap,rfl,_⟩
 ·exact ⟨_,_,rfl⟩
 ·exact ⟨_,_,rfl⟩
set_option maxRecDepth 100000 in
set_option maxHeartbeats 3200000 in
theorem concat_any (A:Nat) (vs:List Value) (Ls:List Bs) (w:World) (hA:w.heap[A]?=some (.cells vs.toArray 26 (0,0))) (hvn:vs.length=Ls.length) (h8:Ls.length≤8) (hpos:1≤Ls.flatten.length)
  (hs:∀ (j:Nat) v l,vs[j]?=some v→Ls[j]?=some l→SlIn w v l) (hb:∀ l∈Ls,l.length≤1048576) :
  Calls Tryz.prog 266 #[.slice (some ⟨A,0,none⟩) Ls.length Ls.length] w fun e w'=>∃ v,e=.returned v∧w'.ownsRow w.heap.size 5 1 v Ls.flatten.length (Ls.flatten.map byteV)∧Mv (fun _=>False) w w':=by
 obtain ⟨n,hn⟩:=zg (Ls.length)
 have HB:=zh hb
 have hfl:=flat_le Ls hb
 rw [←hn] at hvn h8 hfl ⊢
 have HA:=zh hA
 have HS:=zh hs
 have HN:=zh hn
 have HVN:=zh hvn
 have HPOS:=zh hpos
 have HFL:Hid (Ls.flatten.length≤8388608):=zh (by have:n * 1048576≤8 * 1048576:=Nat.mul_le_mul_right _ h8;omega)
 have HTL:Hid (∀ j,((Ls.take j).flatten).length≤8388608):=zh fun j=>by
  have h2:=flat_le (Ls.take j) fun l hl=>hb l (List.mem_of_mem_take hl)
  have h3:(Ls.take j).length≤8:=by rw [List.length_take];omega
  have:(Ls.take j).length * 1048576≤8 * 1048576:=Nat.mul_le_mul_right _ h3
  omega
 clear hb hA hs hn hvn hpos hfl
 go_enter Tryz.func266,Tryz.ntmps266
 go_wp2_with fail
 go_loopw [3,11] (fun s3 i wr=>∃ (j:Nat),j≤n∧i=.int .i64 j∧s3=.int .i64 ((Ls.take j).flatten.length:Nat)∧w=wr) (fun _ i _=>n - (intOf i).toNat)
 case atStart=>exact ⟨0,by omega,rfl,rfl,rfl⟩
 case round =>
  obtain ⟨j,hj,rfl,rfl,rfl⟩:=hrel
  by_cases hjn:j<n
  ·obtain ⟨sv,hsv⟩:∃ v,vs[j]?=some v:=⟨vs[j]'(by rw [HVN.out];exact hjn),List.getElem?_eq_getElem _⟩
   obtain ⟨l,hl⟩:∃ l,Ls[j]?=some l:=⟨Ls[j]'(by rw [←HN.out];exact hjn),List.getElem?_eq_getElem _⟩
   obtain ⟨sa,sc,hsh⟩:=(HS.out j sv l hsv hl).shape0
   have hc:w.cell? ⟨A,j,none⟩=some sv:=by rw [cell_of_row _ _ _ _ _ _ HA.out];simpa using hsv
   subst hsh
   have hjc:(j:Int)<n:=by omega
   have HT:Hid ((Ls.take (j+1)).flatten.length=(Ls.take j).flatten.length+l.length):=zh (by rw [flat_take Ls j l hl,List.length_append])
   have ht1:=HTL.out (j+1)
   rw [HT.out] at ht1
   obtain ⟨a0,ha0⟩:=zg ((Ls.take j).flatten.length)
   obtain ⟨b0,hb0⟩:=zg (l.length)
   rw [←ha0] at ht1 ⊢
   rw [←hb0] at ht1 hc
   have HAB:=zh (show (Ls.take (j+1)).flatten.length=a0+b0 by rw [HT.out,←ha0,←hb0])
   clear ha0 hb0 hsv hl
   have hge:¬ ((a0:Int)+(b0:Int)<0):=by omega
   go_wp2_with fail
   go_roundw
   case rel=>exact ⟨j+1,by omega,by go_num,by rw [HAB.out];go_num,by trivial⟩
   case measure=>simp [intOf];omega
  ·have hjn2:j=n:=by omega
   subst hjn2
   have hall:(Ls.take j).flatten=Ls.flatten:=by rw [List.take_of_length_le (by rw [←HN.out];exact Nat.le_refl _)]
   rw [hall]
   obtain ⟨t,ht⟩:=zg (Ls.flatten.length)
   have hp:=HPOS.out
   have hf:=HFL.out
   rw [←ht] at hp hf ⊢
   have HT:=zh ht
   clear ht hall
   go_wp2_with fail
   refine (growNil_any t w hp (by omega)).mono ?_
   rintro e w2 ⟨v2,rfl,hown,hm2⟩
   have HOWN:=zh hown
   have HM2:=zh hm2
   clear hown hm2
   go_wp2_with fail
   go_loopw [6,27] (fun s6 i wr=>∃ (q:Nat),q≤j∧i=.int .i64 q∧wr.ownsRow w.heap.size 5 1 s6 (Ls.take q).flatten.length ((Ls.take q).flatten.map byteV)∧Mv (fun _=>False) w wr) (fun _ i _=>j - (intOf i).toNat)
   case atStart=>exact ⟨0,by omega,rfl,HOWN.out,HM2.out⟩
   case round =>
    obtain ⟨q,hq,rfl,hown,hmv⟩:=hrel
    obtain ⟨xa,xc,hxs⟩:=owns_shape hown
    subst hxs
    have HO:=zh hown
    have HMV:=zh hmv
    have hws:=hmv.size
    clear hown hmv
    by_cases hqn:q<j
    ·obtain ⟨sv,hsv⟩:∃ v,vs[q]?=some v:=⟨vs[q]'(by rw [HVN.out];exact hqn),List.getElem?_eq_getElem _⟩
     obtain ⟨l,hl⟩:∃ l,Ls[q]?=some l:=⟨Ls[q]'(by rw [←HN.out];exact hqn),List.getElem?_eq_getElem _⟩
     have HSL:Hid (SlIn wr sv l):=zh ((HS.out q sv l hsv hl).mv HMV.out (fun _ _ h=>h))
     obtain ⟨sa,sc,hsh⟩:=HSL.out.shape0
     have hc:wr.cell? ⟨A,q,none⟩=some sv:=by rw [cell_of_row _ _ _ _ _ _ ((HMV.out.block A (lt_of_heap HA.out) id).trans HA.out)];simpa using hsv
     have hqc:(q:Int)<j:=by omega
     have HT:Hid ((Ls.take (q+1)).flatten=(Ls.take q).flatten++l):=zh (flat_take Ls q l hl)
     have HBD:Hid ((Ls.take q).flatten.length+l.length≤70368744177664):=zh (by
      have:=HTL.out (q+1)
      rw [HT.out,List.length_append] at this;omega)
     have HSH:=zh hsh
     clear hsv hl hsh
     go_wp2_with (at_builtin;go_loud (refine wpList_append_slin rfl _ _ rfl w.heap.size _ (Ls.take q).flatten rfl HO.out sv l rfl HSL.out HBD.out hws ?_);intro v5 w5 hown5 hm5;have HOWN5:=zh hown5;have HM5:=zh hm5;clear hown5 hm5)
     go_roundw
     case rel=>exact ⟨q+1,by omega,by go_num,by rw [HT.out];exact HOWN5.out,HMV.out.trans' HM5.out (fun i hi h=>by omega)⟩
     case measure=>simp [intOf];omega
    ·have hqn2:q=j:=by omega
     subst hqn2
     have hall:Ls.take q=Ls:=List.take_of_length_le (by rw [←HN.out];exact Nat.le_refl _)
     have ho:=HO.out
     rw [hall] at ho ⊢
     have HO2:=zh ho
     clear ho hall
     go_wp2_with fail
     go_ret
     refine ⟨_,rfl,?_,HMV.out⟩
     rw [HT.out]
     exact HO2.out
end Go.Proofs.YtdfdikpklddnhaaGreatDoor
