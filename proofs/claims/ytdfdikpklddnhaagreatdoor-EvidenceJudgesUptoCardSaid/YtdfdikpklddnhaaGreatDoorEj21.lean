/- Of the proof of EvidenceJudges, second form: for values of bulk at most 1048576. (Ej21) -/
import Derived.Test.YtdfdikpklddnhaaGreatDoorEj01
import Derived.Test.YtdfdikpklddnhaaGreatDoorEj20
import Derived.Test.YtdfdikpklddnhaaGreatDoorEj05
import Derived.Laws.BitsLemmas
import Derived.Laws.Bits64
namespace Go.Proofs.YtdfdikpklddnhaaGreatDoor
open Go.RowKit
def step64 (st:Nat × Nat × Bs) (v:Nat):Nat × Nat × Bs :=
 if st.2.1<2 then (st.1 * 64+v,st.2.1+6,st.2.2)
 else ((st.1 * 64+v) % 2 ^ (st.2.1 - 2),st.2.1 - 2,st.2.2++[UInt8.ofNat ((st.1 * 64+v) / 2 ^ (st.2.1 - 2))])
def st64 (l:Bs):Nat × Nat × Bs:=l.foldl (fun st b=>step64 st (b64 b.toNat).toNat) (0,0,[])
def ok64 (b:UInt8):Bool:=decide (0≤b64 b.toNat)
def body64 (l:Bs):Bs:=Lib.trimSuffix (Lib.trimSuffix l [61]) [61]
def dec64 (l:Bs):Option Bs:=if l.length % 4=0∧(body64 l).all ok64=true∧(st64 (body64 l)).1=0 then some (st64 (body64 l)).2.2 else none
theorem st64_snoc (l:Bs) (b:UInt8):st64 (l++[b])=step64 (st64 l) (b64 b.toNat).toNat:=by simp [st64,List.foldl_append]
theorem step64_inv (st:Nat × Nat × Bs) (v:Nat) (hv:v<64) (h:(st.2.1=0∨st.2.1=2∨st.2.1=4∨st.2.1=6)∧st.1<2 ^ st.2.1) :
  ((step64 st v).2.1=0∨(step64 st v).2.1=2∨(step64 st v).2.1=4∨(step64 st v).2.1=6)∧(step64 st v).1<2 ^ (step64 st v).2.1∧(step64 st v).2.2.length≤st.2.2.length+1:=by
 obtain ⟨bits,held,out⟩:=st
 simp only at h
 obtain ⟨h1,h2⟩:=h
 rcases h1 with rfl|rfl|rfl|rfl <;> simp [step64] <;> omega
theorem snoc_ind {α:Type} {P:List α→Prop} (h0:P []) (h1:∀ l b,P l→P (l++[b])) (l:List α):P l:=by
 have key:∀ (n:Nat) (l:List α),l.length=n→P l:=fun n=>by
  induction n with
  | zero=>exact fun l hl=>by rw [List.length_eq_zero_iff.1 hl];exact h0
  | succ n ih =>
   intro l hl
   have hne:l≠[]:=fun e=>by rw [e] at hl;cases hl
   rw [←List.dropLast_concat_getLast hne]
   exact h1 _ _ (ih _ (by rw [List.length_dropLast,hl];rfl))
 exact key _ l rfl
theorem st64_inv (l:Bs):((st64 l).2.1=0∨(st64 l).2.1=2∨(st64 l).2.1=4∨(st64 l).2.1=6)∧(st64 l).1<2 ^ (st64 l).2.1∧(st64 l).2.2.length≤l.length:=by
 refine snoc_ind (P:=fun l=>((st64 l).2.1=0∨(st64 l).2.1=2∨(st64 l).2.1=4∨(st64 l).2.1=6)∧(st64 l).1<2 ^ (st64 l).2.1∧(st64 l).2.2.length≤l.length) ⟨.inl rfl,by decide,Nat.le_refl _⟩ (fun l b ih=>?_) l
 have:=step64_inv (st64 l) (b64 b.toNat).toNat (by have:=b64_range b.toNat;omega) ⟨ih.1,ih.2.1⟩
 rw [st64_snoc]
 refine ⟨this.1,this.2.1,?_⟩
 rw [List.length_append]
 have h2:=ih.2.2
 have h3:=this.2.2
 simp only [List.length_singleton]
 omega
theorem or64_f:∀ b n:Fin 64,Go.bits .or .i64 ((b.val * 64:Nat):Int) ((n.val:Nat):Int)=((b.val * 64+n.val:Nat):Int):=by decide +kernel
theorem or64 (b n:Nat) (hb:b<64) (hn:n<64):Go.bits .or .i64 ((b:Int) * 64) (n:Int)=((b * 64+n:Nat):Int):=by
 have h:=or64_f ⟨b,hb⟩ ⟨n,hn⟩
 rw [show (b:Int) * 64=((b * 64:Nat):Int) from by omega];exact h
theorem wraps_i64_63 (n:Int) (h₀:0≤n) (h₁:n<2 ^ 63):IntKind.i64.wrap n=n:=IntWalk.i64_in _ (by omega)
theorem and3 (y:Nat) (hy:y<4096):Go.bits .and .i64 (y:Int) 3=((y % 4:Nat):Int):=by
 have h:=bits_mask .i64 63 (by decide) wraps_i64_63 2 (by decide) (y:Int) (by omega) (by omega)
 have e:((2:Int) ^ 2 - 1)=3:=by decide
 have e2:((2:Int) ^ 2)=4:=by decide
 rw [e,e2] at h
 rw [h];omega
theorem and15 (y:Nat) (hy:y<4096):Go.bits .and .i64 (y:Int) 15=((y % 16:Nat):Int):=by
 have h:=bits_mask .i64 63 (by decide) wraps_i64_63 4 (by decide) (y:Int) (by omega) (by omega)
 have e:((2:Int) ^ 4 - 1)=15:=by decide
 have e2:((2:Int) ^ 4)=16:=by decide
 rw [e,e2] at h
 rw [h];omega
theorem and0 (y:Nat) (hy:y<4096):Go.bits .and .i64 (y:Int) 0=((y % 1:Nat):Int):=by
 have h:=bits_mask .i64 63 (by decide) wraps_i64_63 0 (by decide) (y:Int) (by omega) (by omega)
 have e:((2:Int) ^ 0 - 1)=0:=by decide
 have e2:((2:Int) ^ 0)=1:=by decide
 rw [e,e2] at h
 rw [h];omega
theorem ok64_of (c:UInt8) (n:Nat) (h:b64 c.toNat=n):ok64 c=true:=by unfold ok64;rw [h];exact decide_eq_true (Int.natCast_nonneg n)
theorem all_snoc64 (l:Bs) (c:UInt8) (h:l.all ok64=true) (hc:ok64 c=true):(l++[c]).all ok64=true:=by rw [List.all_append,h];simp [hc]
def Decoded (w:World) (l:Bs) (e:Ending) (w':World):Prop :=
 Below w.heap.size w w'∧match dec64 l with
 | none=>∃ er:Int,er≠0∧e=.returned (.tuple #[.slice none 0 0,.int .i64 er])
 | some out=>∃ v,e=.returned (.tuple #[v,.int .i64 0])∧w'.ownsRow w.heap.size 5 1 v out.length (out.map byteV)∧v≠.slice none 0 0
set_option maxRecDepth 100000 in
set_option maxHeartbeats 1600000 in
theorem decode_any (s:ByteArray) (w:World) (hsz:s.size≤1048576):Calls Tryz.prog 144 #[.string s] w (Decoded w s.data.toList):=by
 obtain ⟨i0,hi0,hz0,hz1,hz2⟩:=info_parts Tryz.info5
 have elen:s.data.toList.length=s.size:=by simp
 have hnb:¬ (1048576:Int)<s.size:=by omega
 by_cases h4:s.size % 4=0
 ·have g4:(((s.size:Int) % 4) != 0)=false:=by simp;omega
  obtain ⟨l1,hl1⟩:=zg (Lib.trimSuffix s.data.toList [61])
  obtain ⟨l,hl⟩:=zg (Lib.trimSuffix l1 [61])
  have hb:body64 s.data.toList=l:=by rw [hl,hl1];rfl
  have hl1n:l1.length≤s.size:=by rw [hl1,←elen];unfold Lib.trimSuffix;split;exact List.length_take_le' ..;exact Nat.le_refl _
  have hln:l.length≤s.size:=by refine Nat.le_trans ?_ hl1n;rw [hl];unfold Lib.trimSuffix;split;exact List.length_take_le' ..;exact Nat.le_refl _
  have K1:Hid (∀ w,Calls Tryz.prog 200 #[.string s,.string ⟨#[61]⟩] w fun e w'=>e=.returned (.string ⟨l1.toArray⟩)∧w=w'):=zh fun w=>by
   rw [hl1];exact (Tryz.strings_TrimSuffix s ⟨#[61]⟩ w (by omega)).mono fun _ _ h=>⟨h.1,h.2.symm⟩
  have K2:Hid (∀ w,Calls Tryz.prog 200 #[.string ⟨l1.toArray⟩,.string ⟨#[61]⟩] w fun e w'=>e=.returned (.string ⟨l.toArray⟩)∧w=w'):=zh fun w=>by
   rw [hl];exact (Tryz.strings_TrimSuffix ⟨l1.toArray⟩ ⟨#[61]⟩ w (by simp [ByteArray.size];omega)).mono fun _ _ h=>⟨h.1,h.2.symm⟩
  have hd:dec64 s.data.toList=if l.all ok64=true∧(st64 l).1=0 then some (st64 l).2.2 else none:=by
   unfold dec64
   rw [hb,elen]
   simp [h4]
  have HD:=zh hd
  obtain ⟨T,hT⟩:∃ T:ByteArray,T=⟨l.toArray⟩:=⟨_,rfl⟩
  have hTl:T.data.toList=l:=by rw [hT]
  have hTz:T.size=l.length:=by rw [hT];simp [ByteArray.size]
  rw [←hT] at K2
  have HTL:=zh hTl
  have HTZ:=zh hTz
  have hTI:(T.size:Int)≤1048576:=by omega
  have hq1:IntKind.i64.wrap ((s.size:Int) / 4 * 3)=(s.size:Int) / 4 * 3:=IntWalk.i64_in _ (by omega)
  clear hl1 hl hb hl1n hln hd hT hTl hTz elen
  go_enter Tryz.func144,Tryz.ntmps144
  go_wp2_with (first|(go_at_call 200;refine (K1.out _).mono ?_;rintro e w1 ⟨rfl,rfl⟩))
  refine (K2.out _).mono ?_
  rintro e w2 ⟨rfl,rfl⟩
  have HCP:Hid ((s.size:Int) / 4 * 3=((s.size / 4 * 3:Nat):Int)):=zh (by omega)
  go_wp2_with (first|(at_make;go_loud (refine wpList_make_own _ rfl _ _ 26 rfl _ 5 i0 (.int .u8 0) 1 Tryz.underlying26 hi0 hz0 hz1 .i64 .i64 ((s.size:Int) / 4 * 3) (s.size / 4 * 3) rfl rfl HCP.out (by rw [hz2];omega) (by unfold maxLen;omega) (Nat.le_refl w.heap.size) ?_)))
  intro w1 hown0 hgrow0
  have HB0:Hid (Below w.heap.size w w1):=zh ((Below.refl _ _).grown hgrow0 (Nat.le_refl _) (fun k h=>by cases h))
  clear hgrow0
  go_wp2_with fail
  go_loopw [27,5,6,7] (fun i o bi he wr=>∃ j bits held:Nat,∃ out:Bs,∃ v:Value,j≤T.size∧i=.int .i64 j∧o=v∧bi=.int .i64 bits∧he=.int .i64 held∧st64 (l.take j)=(bits,held,out)∧(l.take j).all ok64=true∧wr.ownsRow w.heap.size 5 1 v out.length (out.map byteV)∧Below w.heap.size w wr∧v≠.slice none 0 0) (fun i _ _ _ _=>T.size - (intOf i).toNat)
  case atStart=>exact ⟨0,0,0,[],_,Nat.zero_le _,rfl,rfl,rfl,rfl,rfl,rfl,hown0,HB0.out,by simp⟩
  case round =>
   obtain ⟨j,bits,held,out,v,hj,rfl,rfl,rfl,rfl,hst,hall,hown,hB,hnn⟩:=hrel
   have HST:=zh hst
   have HALL:=zh hall
   have HB:=zh hB
   have HNN:=zh hnn
   have HOWN:=zh hown
   have hwsz:=hB.size
   have hinv:=st64_inv (l.take j)
   rw [hst] at hinv
   simp only at hinv
   clear hst hall hB hnn hown
   by_cases hjl:j<T.size
   ·obtain ⟨c,hc⟩:=zg (T[j])
    have hlj:l[j]?=some c:=by
     rw [←HTL.out,hc]
     simp [ByteArray.getElem_eq_getElem_data]
    have hsn:l.take (j+1)=l.take j++[c]:=by rw [List.take_add_one,hlj];rfl
    have HSN:=zh hsn
    clear hsn
    have K3:Hid (∀ w,Calls Tryz.prog 201 #[.int .u8 c.toNat] w fun e w'=>e=.returned (.int .i64 (b64 c.toNat))∧w=w'):=zh fun w=>value_any _ c.toNat_lt w
    have hix:∀ w,(Instr.index 9 (.string T) (.int .i64 j)).run Tryz.prog w=.ok (.int .u8 c.toNat) w:=fun w=>by rw [hc,run_index_string w 9 T .i64 j Tryz.underlying9,dif_pos ⟨by omega,by omega⟩];simp
    have hr:=b64_range c.toNat
    obtain ⟨x,hx⟩:=zg (b64 c.toNat)
    rw [←hx] at hr
    have HX:=zh hx
    rw [←hx] at K3
    clear hx hlj hc
    by_cases hneg:x<0
    ·have hd:dec64 s.data.toList=none:=by
      rw [HD.out,if_neg]
      intro h
      have h1:=List.all_eq_true.1 h.1 c (List.mem_of_mem_take (HSN.out ▸ List.mem_append_right _ List.mem_cons_self:c∈l.take (j+1)))
      rw [ok64,←HX.out] at h1
      have:=of_decide_eq_true h1
      omega
     have HD2:=zh hd
     clear hd hinv
     go_wp2_with (first|(go_at_call 201;refine (K3.out _).mono ?_;rintro e w' ⟨rfl,rfl⟩))
     go_ret2
     refine ⟨HB.out,?_⟩
     rw [HD2.out]
     exact ⟨60,by decide,rfl⟩
    ·obtain ⟨hh,hbits,hlen⟩:=hinv
     have hlen2:out.length≤1048576:=by rw [List.length_take] at hlen;omega
     obtain ⟨n,hn⟩:∃ n:Nat,x=n:=⟨x.toNat,by omega⟩
     have hn64:n<64:=by omega
     have hb64:bits<64:=by rcases hh with rfl|rfl|rfl|rfl <;> omega
     obtain ⟨y,hy⟩:∃ y:Nat,y=bits * 64+n:=⟨_,rfl⟩
     have hy2:y<4096:=by omega
     have HOR:Hid (Go.bits .or .i64 ((bits:Int) * 64) (n:Int)=(y:Int)):=zh (by rw [hy];exact or64 _ _ hb64 hn64)
     have HA0:=zh (and0 y hy2)
     have HA3:=zh (and3 y hy2)
     have HA15:=zh (and15 y hy2)
     have hstep:st64 (l.take (j+1))=step64 (bits,held,out) n:=by rw [HSN.out,st64_snoc,HST.out,←HX.out,hn];rfl
     have HALL2:Hid ((l.take (j+1)).all ok64=true):=zh (by rw [HSN.out];exact all_snoc64 _ _ HALL.out (ok64_of _ _ (by rw [←HX.out,hn])))
     have HSTEP:=zh hstep
     have HBITS:=zh hbits
     have HY:=zh hy
     subst hn
     clear hlen hbits hstep hy hr HX hneg
     rcases hh with rfl|rfl|rfl|rfl
     ·have hs:st64 (l.take (j+1))=(y,6,out):=by rw [HSTEP.out];unfold step64;simp only [];rw [←HY.out];rfl
      have HS:=zh hs
      clear hs
      go_wp2_with (first|(go_at_call 201;refine (K3.out _).mono ?_;rintro e w' ⟨rfl,rfl⟩))
      go_roundw
      case rel=>exact ⟨j+1,y,6,out,_,by omega,rfl,rfl,by rw [HOR.out],rfl,HS.out,HALL2.out,HOWN.out,HB.out,HNN.out⟩
      case measure=>simp [intOf];omega
     ·have hs:st64 (l.take (j+1))=(y % 1,0,out++[UInt8.ofNat (y / 1)]):=by rw [HSTEP.out];unfold step64;simp only [];rw [←HY.out];rfl
      have HS:=zh hs
      clear hs
      go_wp2_with (first|(go_at_call 201;refine (K3.out _).mono ?_;rintro e w' ⟨rfl,rfl⟩)|(at_builtin;go_loud (refine wpList_append_own _ rfl _ _ 26 rfl w.heap.size 5 i0 (.int .u8 0) 1 1 Tryz.underlying26 hi0 hz0 hz1 hz2 rfl (by decide) _ _ _ rfl (HOWN.out.alloc _) ⟨wr.heap.size,0,none⟩ 1 1 [_] rfl rfl (cell_one_new _ _ _) (by intro u hu;simp at hu;subst hu;rfl) (by unfold maxLen;omega) (by omega) (by simp;omega) ?_);intro v1 w2 hown1 hgrow1 hnil1))
      go_roundw
      case rel=>exact ⟨j+1,y % 1,0,_,v1,by omega,rfl,rfl,by rw [HOR.out,HA0.out],rfl,HS.out,HALL2.out,by simpa [byteV,HOR.out] using hown1,(HB.out.alloc hwsz _).grown hgrow1 (by simp;omega) (fun k hk=>(HOWN.out.lt k hk).1),fun h=>by have:=(hnil1.1 h).2;omega⟩
      case measure=>simp [intOf];omega
     ·have hs:st64 (l.take (j+1))=(y % 4,2,out++[UInt8.ofNat (y / 4)]):=by rw [HSTEP.out];unfold step64;simp only [];rw [←HY.out];rfl
      have HS:=zh hs
      clear hs
      go_wp2_with (first|(go_at_call 201;refine (K3.out _).mono ?_;rintro e w' ⟨rfl,rfl⟩)|(at_builtin;go_loud (refine wpList_append_own _ rfl _ _ 26 rfl w.heap.size 5 i0 (.int .u8 0) 1 1 Tryz.underlying26 hi0 hz0 hz1 hz2 rfl (by decide) _ _ _ rfl (HOWN.out.alloc _) ⟨wr.heap.size,0,none⟩ 1 1 [_] rfl rfl (cell_one_new _ _ _) (by intro u hu;simp at hu;subst hu;rfl) (by unfold maxLen;omega) (by omega) (by simp;omega) ?_);intro v1 w2 hown1 hgrow1 hnil1))
      go_roundw
      case rel=>exact ⟨j+1,y % 4,2,_,v1,by omega,rfl,rfl,by rw [HOR.out,HA3.out],rfl,HS.out,HALL2.out,by simpa [byteV,HOR.out] using hown1,(HB.out.alloc hwsz _).grown hgrow1 (by simp;omega) (fun k hk=>(HOWN.out.lt k hk).1),fun h=>by have:=(hnil1.1 h).2;omega⟩
      case measure=>simp [intOf];omega
     ·have hs:st64 (l.take (j+1))=(y % 16,4,out++[UInt8.ofNat (y / 16)]):=by rw [HSTEP.out];unfold step64;simp only [];rw [←HY.out];rfl
      have HS:=zh hs
      clear hs
      go_wp2_with (first|(go_at_call 201;refine (K3.out _).mono ?_;rintro e w' ⟨rfl,rfl⟩)|(at_builtin;go_loud (refine wpList_append_own _ rfl _ _ 26 rfl w.heap.size 5 i0 (.int .u8 0) 1 1 Tryz.underlying26 hi0 hz0 hz1 hz2 rfl (by decide) _ _ _ rfl (HOWN.out.alloc _) ⟨wr.heap.size,0,none⟩ 1 1 [_] rfl rfl (cell_one_new _ _ _) (by intro u hu;simp at hu;subst hu;rfl) (by unfold maxLen;omega) (by omega) (by simp;omega) ?_);intro v1 w2 hown1 hgrow1 hnil1))
      go_roundw
      case rel=>exact ⟨j+1,y % 16,4,_,v1,by omega,rfl,rfl,by rw [HOR.out,HA15.out],rfl,HS.out,HALL2.out,by simpa [byteV,HOR.out] using hown1,(HB.out.alloc hwsz _).grown hgrow1 (by simp;omega) (fun k hk=>(HOWN.out.lt k hk).1),fun h=>by have:=(hnil1.1 h).2;omega⟩
      case measure=>simp [intOf];omega
   ·have htk:l.take j=l:=List.take_of_length_le (by rw [←HTZ.out];omega)
    have hst2:st64 l=(bits,held,out):=by rw [←htk];exact HST.out
    have hall2:l.all ok64=true:=by rw [←htk];exact HALL.out
    by_cases hb0:bits=0
    ·have hd:dec64 s.data.toList=some out:=by rw [HD.out,hst2,if_pos ⟨hall2,hb0⟩]
     have HD2:=zh hd
     subst hb0
     clear htk hst2 hall2 hd hinv
     go_wp2
     go_ret2
     refine ⟨HB.out,?_⟩
     rw [HD2.out]
     exact ⟨_,rfl,HOWN.out,HNN.out⟩
    ·have hd:dec64 s.data.toList=none:=by rw [HD.out,hst2,if_neg (fun h=>hb0 h.2)]
     have HD2:=zh hd
     have gb:((bits:Int) == 0)=false:=by simpa using hb0
     clear htk hst2 hall2 hd hinv
     go_wp2
     go_ret2
     refine ⟨HB.out,?_⟩
     rw [HD2.out]
     exact ⟨60,by decide,rfl⟩
 ·have g4:(((s.size:Int) % 4) != 0)=true:=by simp;omega
  have hd:dec64 s.data.toList=none:=by unfold dec64;rw [if_neg (fun h=>h4 (by rw [←elen];exact h.1))]
  have HD:=zh hd
  clear hd
  go_enter Tryz.func144,Tryz.ntmps144
  go_wp2
  go_ret2
  refine ⟨Below.refl _ _,?_⟩
  rw [HD.out]
  exact ⟨60,by decide,rfl⟩
end Go.Proofs.YtdfdikpklddnhaaGreatDoor
