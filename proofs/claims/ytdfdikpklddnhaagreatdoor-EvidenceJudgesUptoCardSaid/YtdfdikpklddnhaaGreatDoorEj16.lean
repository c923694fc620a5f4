/- Of the proof of EvidenceJudges, second form: for values of bulk at most 1048576. (Ej16) -/
import Derived.Test.YtdfdikpklddnhaaGreatDoorEj01
import Derived.Test.YtdfdikpklddnhaaGreatDoorProg
import Derived.WalkKit
import Derived.WalkLawsBesides
import Derived.WalkSpells
import Derived.Lib.Hide
import Derived.Laws.RangeAny
import Derived.Laws.RangeString
namespace Go.Proofs.YtdfdikpklddnhaaGreatDoor
open Go.RowKit
def digR (r:Int):Bool:=decide (48≤r∧r≤57)
def smlR (r:Int):Bool:=decide (97≤r∧r≤122)
def cptR (r:Int):Bool:=decide (65≤r∧r≤90)
def markR (r:Int):Bool:=decide (r=45∨r=46∨r=95∨r=126∨r=47)
theorem isDigit_any (r:Int) (w:World):Calls Tryz.prog 251 #[.int .i32 r] w fun e w'=>e=.returned (.bool (digR r))∧w'=w:=by
 go_enter Tryz.func251,Tryz.ntmps251
 go_wp2
 all_goals go_ret
 all_goals refine ⟨?_,rfl⟩
 all_goals simp [digR]
 all_goals omega
theorem isSmall_any (r:Int) (w:World):Calls Tryz.prog 252 #[.int .i32 r] w fun e w'=>e=.returned (.bool (smlR r))∧w'=w:=by
 go_enter Tryz.func252,Tryz.ntmps252
 go_wp2
 all_goals go_ret
 all_goals refine ⟨?_,rfl⟩
 all_goals simp [smlR]
 all_goals omega
theorem isCapital_any (r:Int) (w:World):Calls Tryz.prog 253 #[.int .i32 r] w fun e w'=>e=.returned (.bool (cptR r))∧w'=w:=by
 go_enter Tryz.func253,Tryz.ntmps253
 go_wp2
 all_goals go_ret
 all_goals refine ⟨?_,rfl⟩
 all_goals simp [cptR]
 all_goals omega
def MarksIn (w:World):Prop:=w.cell? ⟨8,0,none⟩=some (.int .i32 45)∧w.cell? ⟨8,1,none⟩=some (.int .i32 46)∧w.cell? ⟨8,2,none⟩=some (.int .i32 95)∧w.cell? ⟨8,3,none⟩=some (.int .i32 126)∧w.cell? ⟨8,4,none⟩=some (.int .i32 47)
def pathR (r:Int):Bool:=digR r || smlR r || cptR r || markR r
set_option maxRecDepth 100000 in
theorem isPathRune_any (r:Int) (w:World) (hm:MarksIn w):Calls Tryz.prog 186 #[.int .i32 r] w fun e w'=>e=.returned (.bool (pathR r))∧w'=w:=by
 obtain ⟨m0,m1,m2,m3,m4⟩:=hm
 obtain ⟨p1,hp1⟩:=zg (digR r)
 obtain ⟨p2,hp2⟩:=zg (smlR r)
 obtain ⟨p3,hp3⟩:=zg (cptR r)
 have c1:∀ w,Calls Tryz.prog 251 #[.int .i32 r] w fun e w'=>e=.returned (.bool p1)∧w=w':=fun w=>by rw [hp1];exact (isDigit_any r w).mono fun _ _ h=>⟨h.1,h.2.symm⟩
 have c2:∀ w,Calls Tryz.prog 252 #[.int .i32 r] w fun e w'=>e=.returned (.bool p2)∧w=w':=fun w=>by rw [hp2];exact (isSmall_any r w).mono fun _ _ h=>⟨h.1,h.2.symm⟩
 have c3:∀ w,Calls Tryz.prog 253 #[.int .i32 r] w fun e w'=>e=.returned (.bool p3)∧w=w':=fun w=>by rw [hp3];exact (isCapital_any r w).mono fun _ _ h=>⟨h.1,h.2.symm⟩
 have C1:=zh c1
 have C2:=zh c2
 have C3:=zh c3
 have hres:pathR r=(p1 || p2 || p3 || markR r):=by rw [hp1,hp2,hp3];rfl
 rw [hres]
 clear hp1 hp2 hp3 c1 c2 c3 hres
 by_cases hp:(p1 || p2 || p3)=true
 ·rw [hp]
  go_enter Tryz.func186,Tryz.ntmps186
  cases p1 <;> cases p2 <;> cases p3 <;> first|(exact absurd hp (by decide))|skip
  all_goals clear hp
  all_goals go_wp2_with (first|(go_at_call 251;refine (C1.out _).mono ?_;rintro e w' ⟨rfl,rfl⟩)|(go_at_call 252;refine (C2.out _).mono ?_;rintro e w' ⟨rfl,rfl⟩)|(go_at_call 253;refine (C3.out _).mono ?_;rintro e w' ⟨rfl,rfl⟩))
  all_goals go_ret
  all_goals exact ⟨rfl,rfl⟩
 ·obtain rfl:p1=false:=by cases p1 <;> simp_all
  obtain rfl:p2=false:=by cases p2 <;> simp_all
  obtain rfl:p3=false:=by cases p3 <;> simp_all
  clear hp
  simp only [Bool.false_or]
  have i0:∀ w,(Instr.index 354 (.agg #[.int .i32 45,.int .i32 46,.int .i32 95,.int .i32 126,.int .i32 47]) (.int .i64 0)).run Tryz.prog w=.ok (.int .i32 45) w:=fun _=>by kernel_rfl
  have i1:∀ w,(Instr.index 354 (.agg #[.int .i32 45,.int .i32 46,.int .i32 95,.int .i32 126,.int .i32 47]) (.int .i64 1)).run Tryz.prog w=.ok (.int .i32 46) w:=fun _=>by kernel_rfl
  have i2:∀ w,(Instr.index 354 (.agg #[.int .i32 45,.int .i32 46,.int .i32 95,.int .i32 126,.int .i32 47]) (.int .i64 2)).run Tryz.prog w=.ok (.int .i32 95) w:=fun _=>by kernel_rfl
  have i3:∀ w,(Instr.index 354 (.agg #[.int .i32 45,.int .i32 46,.int .i32 95,.int .i32 126,.int .i32 47]) (.int .i64 3)).run Tryz.prog w=.ok (.int .i32 126) w:=fun _=>by kernel_rfl
  have i4:∀ w,(Instr.index 354 (.agg #[.int .i32 45,.int .i32 46,.int .i32 95,.int .i32 126,.int .i32 47]) (.int .i64 4)).run Tryz.prog w=.ok (.int .i32 47) w:=fun _=>by kernel_rfl
  go_enter Tryz.func186,Tryz.ntmps186
  go_wp2_with (first|(go_at_call 251;refine (C1.out _).mono ?_;rintro e w' ⟨rfl,rfl⟩)|(go_at_call 252;refine (C2.out _).mono ?_;rintro e w' ⟨rfl,rfl⟩)|(go_at_call 253;refine (C3.out _).mono ?_;rintro e w' ⟨rfl,rfl⟩))
  go_loopw [16] (fun i wr=>wr=w∧((i=.int .i64 0)∨(i=.int .i64 1∧r≠45)∨(i=.int .i64 2∧r≠45∧r≠46)∨(i=.int .i64 3∧r≠45∧r≠46∧r≠95)∨(i=.int .i64 4∧r≠45∧r≠46∧r≠95∧r≠126)∨(i=.int .i64 5∧r≠45∧r≠46∧r≠95∧r≠126∧r≠47))) (fun i _=>5 - (intOf i).toNat)
  case atStart=>exact ⟨rfl,.inl rfl⟩
  case round =>
   obtain ⟨rfl,hrel⟩:=hrel
   rcases hrel with rfl|⟨rfl,g0⟩|⟨rfl,g0,g1⟩|⟨rfl,g0,g1,g2⟩|⟨rfl,g0,g1,g2,g3⟩|⟨rfl,g0,g1,g2,g3,g4⟩
   ·by_cases hr:r=45
    ·subst hr
     go_wp2
     go_ret
     exact ⟨rfl,rfl⟩
    ·go_wp2
     go_roundw
     case rel=>exact ⟨trivial,.inr (.inl ⟨rfl,hr⟩)⟩
     case measure=>simp [intOf]
   ·by_cases hr:r=46
    ·subst hr
     go_wp2
     go_ret
     exact ⟨rfl,rfl⟩
    ·go_wp2
     go_roundw
     case rel=>exact ⟨trivial,.inr (.inr (.inl ⟨rfl,g0,hr⟩))⟩
     case measure=>simp [intOf]
   ·by_cases hr:r=95
    ·subst hr
     go_wp2
     go_ret
     exact ⟨rfl,rfl⟩
    ·go_wp2
     go_roundw
     case rel=>exact ⟨trivial,.inr (.inr (.inr (.inl ⟨rfl,g0,g1,hr⟩)))⟩
     case measure=>simp [intOf]
   ·by_cases hr:r=126
    ·subst hr
     go_wp2
     go_ret
     exact ⟨rfl,rfl⟩
    ·go_wp2
     go_roundw
     case rel=>exact ⟨trivial,.inr (.inr (.inr (.inr (.inl ⟨rfl,g0,g1,g2,hr⟩))))⟩
     case measure=>simp [intOf]
   ·by_cases hr:r=47
    ·subst hr
     go_wp2
     go_ret
     exact ⟨rfl,rfl⟩
    ·go_wp2
     go_roundw
     case rel=>exact ⟨trivial,.inr (.inr (.inr (.inr (.inr (⟨rfl,g0,g1,g2,g3,hr⟩)))))⟩
     case measure=>simp [intOf]
   ·go_wp2
    go_ret
    have hf:markR r=false:=by simp only [markR,decide_eq_false_iff_not];omega
    rw [hf]
    exact ⟨rfl,rfl⟩
theorem byte_at (s:ByteArray) (pos:Nat) (h:pos<s.size):s.data.toList[pos]?=some (s[pos]'h):=by
 rw [Array.getElem?_toList]
 exact Array.getElem?_eq_getElem h
def Upto (p:UInt8→Bool) (s:ByteArray) (pos:Nat):Prop:=(s.data.toList.take pos).all p=true
theorem Upto.start (p:UInt8→Bool) (s:ByteArray):Upto p s 0:=rfl
theorem Upto.step {p:UInt8→Bool} {s:ByteArray} {pos:Nat} (h:Upto p s pos) (hp:pos<s.size) (hb:p (s[pos]'hp)=true):Upto p s (pos+1):=by
 have hl:pos<s.data.toList.length:=by simpa using hp
 unfold Upto at h ⊢
 rw [List.take_succ_eq_append_getElem hl,List.all_append,h]
 have e:s.data.toList[pos]'hl=s[pos]'hp:=by
  have:=byte_at s pos hp
  rw [List.getElem?_eq_getElem hl] at this
  exact Option.some.inj this
 simp [e,hb]
theorem Upto.stop {p:UInt8→Bool} {s:ByteArray} {pos:Nat} (hp:pos<s.size) (hb:p (s[pos]'hp)=false):s.data.toList.all p=false:=by
 rw [List.all_eq_false]
 exact ⟨_,List.mem_of_getElem? (byte_at s pos hp),by simp [hb]⟩
theorem Upto.all {p:UInt8→Bool} {s:ByteArray} {pos:Nat} (h:Upto p s pos) (hp:¬ pos<s.size):s.data.toList.all p=true:=by
 unfold Upto at h
 rwa [List.take_of_length_le (by
  have:s.data.toList.length=s.size:=by simp
  omega)] at h
theorem rune_step (s:ByteArray) (pos:Nat) (hp:pos<s.size):∃ r d:Nat,(∀ (P:Program) (w:World) ty,(Instr.next (.pointer (some ⟨w.heap.size,0,none⟩)) true ty).run P (w.iter s pos)=.ok (.tuple #[.bool true,.int .i64 pos,.int .i32 r]) (w.iter s (pos+d))) ∧
  1≤d∧(((s[pos]'hp).toNat<128∧r=(s[pos]'hp).toNat∧d=1)∨(128≤(s[pos]'hp).toNat∧128≤r)):=by
 by_cases ha:(s[pos]'hp).toNat<128
 ·exact ⟨_,1,fun P w ty=>run_next_ascii w s pos ty hp ha,Nat.le_refl _,.inl ⟨ha,rfl,rfl⟩⟩
 ·exact ⟨_,_,fun P w ty=>run_next_any w s pos ty hp,(decode_high s pos hp (by omega)).2,.inr ⟨by omega,(decode_high s pos hp (by omega)).1⟩⟩
theorem head_ne (s:ByteArray) (h:0<s.size) (c:UInt8) (k:Int) (hk:(c.toNat:Int)=k):((((s[0]'h).toNat:Nat):Int) != k)=(s.data.toList.head? != some c):=by
 have hb:=byte_at s 0 h
 rw [←List.head?_eq_getElem?] at hb
 rw [hb,←hk]
 by_cases e:s[0]'h=c
 ·rw [e];simp
 ·have e2:¬ (((s[0]'h).toNat:Nat):Int)=(c.toNat:Int):=fun e3=>e (UInt8.toNat_inj.1 (by omega))
  rw [bne_iff_ne.2 e2]
  symm
  rw [bne_iff_ne]
  exact fun e3=>e (Option.some.inj e3)
set_option maxRecDepth 100000 in
theorem isNumber_any (s:ByteArray) (w:World):Calls Tryz.prog 193 #[.string s] w fun e w'=>e=.returned (.bool (num s.data.toList))∧Below w.heap.size w w':=by
 have c1:∀ (r:Int) w,Calls Tryz.prog 251 #[.int .i32 r] w fun e w'=>e=.returned (.bool (digR r))∧w=w':=fun r w=>(isDigit_any r w).mono fun _ _ h=>⟨h.1,h.2.symm⟩
 have C1:=zh c1
 clear c1
 go_enter Tryz.func193,Tryz.ntmps193
 go_wp2
 go_loopw [4] (fun r wr=>∃ pos:Nat,wr=w.iter s pos∧Upto dig s pos) (fun _ wr=>s.size - wr.iterPos w.heap.size)
 case atStart=>exact ⟨0,rfl,Upto.start _ _⟩
 case round =>
  obtain ⟨pos,rfl,hu⟩:=hrel
  have HU:=zh hu
  clear hu
  by_cases hp:pos<s.size
  ·obtain ⟨r,d,hnx,hd,hr⟩:=rune_step s pos hp
   have hnx1:=fun ty=>hnx Tryz.prog w ty
   have HR:=zh hr
   clear hnx hr
   by_cases hg:dig (s[pos]'hp)=true
   ·have hdr:digR r=true:=by
     rcases HR.out with ⟨h1,h2,h3⟩|⟨h1,h2⟩
     ·rw [h2];simp only [dig,decide_eq_true_eq] at hg;simp only [digR,decide_eq_true_eq];omega
     ·simp only [dig,decide_eq_true_eq] at hg;omega
    have hd1:d=1:=by
     rcases HR.out with ⟨h1,h2,h3⟩|⟨h1,h2⟩
     ·exact h3
     ·simp only [dig,decide_eq_true_eq] at hg;omega
    have HG:=zh hg
    clear hg
    have c2:∀ w,Calls Tryz.prog 251 #[.int .i32 r] w fun e w'=>e=.returned (.bool true)∧w=w':=fun w=>by rw [←hdr];exact C1.out _ w
    have C2:=zh c2
    clear c2 hdr
    go_wp2_with (first|(go_at_call 251;refine (C2.out _).mono ?_;rintro e w' ⟨rfl,rfl⟩))
    go_roundw
    case rel=>exact ⟨pos+1,by first|rfl|rw [hd1],HU.out.step hp HG.out⟩
    case measure=>simp;omega
   ·have hdr:digR r=false:=by
     simp only [dig,decide_eq_true_eq] at hg
     simp only [digR,decide_eq_false_iff_not]
     rcases HR.out with ⟨h1,h2,h3⟩|⟨h1,h2⟩ <;> omega
    have hnum:num s.data.toList=false:=by
     have:digs s.data.toList=false:=Upto.stop hp (by simpa using hg)
     simp [num,this]
    have HN:=zh hnum
    have c2:∀ w,Calls Tryz.prog 251 #[.int .i32 r] w fun e w'=>e=.returned (.bool false)∧w=w':=fun w=>by rw [←hdr];exact C1.out _ w
    have C2:=zh c2
    clear c2 hdr hnum hg
    go_wp2_with (first|(go_at_call 251;refine (C2.out _).mono ?_;rintro e w' ⟨rfl,rfl⟩))
    go_ret
    exact ⟨by rw [HN.out];rfl,(Below.refl _ _).alloc (Nat.le_refl _) _⟩
  ·have hnx:∀ ty,(Instr.next (.pointer (some ⟨w.heap.size,0,none⟩)) true ty).run Tryz.prog (w.iter s pos)=_:=fun ty=>run_next_end w s pos ty hp
   have hall:=HU.out.all hp
   have hdg:digs s.data.toList=true:=hall
   have HDG:=zh hdg
   clear hall hdg
   have hB:Below w.heap.size w (w.iter s pos):=(Below.refl _ _).alloc (Nat.le_refl _) _
   have HB:=zh hB
   clear hB
   by_cases h0:s.data.toList=[]
   ·have f0:s.toList.isEmpty=true:=by rw [ByteArray.toList_eq,h0];rfl
    have hn:num s.data.toList=false:=by rw [h0];rfl
    have HN:=zh hn
    clear h0 hn
    go_wp2
    go_ret
    exact ⟨by rw [HN.out];rfl,HB.out⟩
   ·have f0:s.toList.isEmpty=false:=by rw [ByteArray.toList_eq];simpa using h0
    have hsz:(0:Int)<s.size:=by
     have:=List.length_pos_iff.2 h0
     have e:s.data.toList.length=s.size:=by simp
     omega
    by_cases h1:s.data.toList=[48]
    ·have f1:(s.toList == [48])=true:=by rw [ByteArray.toList_eq,h1];rfl
     have hn:num s.data.toList=true:=by rw [h1];rfl
     have HN:=zh hn
     clear h0 h1 hn
     go_wp2
     go_ret
     exact ⟨by rw [HN.out];rfl,HB.out⟩
    ·have f1:(s.toList == [48])=false:=by rw [ByteArray.toList_eq];simpa using h1
     have H0:=zh h0
     have H1:=zh h1
     clear h0 h1
     go_wp2
     go_ret
     refine ⟨?_,HB.out⟩
     have hs0:0<s.size:=by omega
     have e:=head_ne s hs0 48 48 (by decide)
     have hn:num s.data.toList=((((s[0]'hs0).toNat:Nat):Int) != 48):=by
      rw [e]
      have e0:s.data.toList.isEmpty=false:=by simpa using H0.out
      have e1:(s.data.toList == [48])=false:=by simpa using H1.out
      simp [num,HDG.out,e0,e1]
     rw [hn]
     rfl
end Go.Proofs.YtdfdikpklddnhaaGreatDoor
