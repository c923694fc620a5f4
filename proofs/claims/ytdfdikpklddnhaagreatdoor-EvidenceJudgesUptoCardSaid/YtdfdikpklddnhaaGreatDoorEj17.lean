/- Of the proof of EvidenceJudges, second form: for values of bulk at most 1048576. (Ej17) -/
import Derived.Test.YtdfdikpklddnhaaGreatDoorEj01
import Derived.Test.YtdfdikpklddnhaaGreatDoorEj16
import Derived.Test.YtdfdikpklddnhaaGreatDoorEj12
import Derived.Test.YtdfdikpklddnhaaGreatDoorEj02
namespace Go.Proofs.YtdfdikpklddnhaaGreatDoor
open Go.RowKit
theorem below_trans {a b c:World} (h:Below a.heap.size a b) (k:Below b.heap.size b c):Below a.heap.size a c :=
 ⟨k.os.trans h.os,k.tape.trans h.tape,k.output.trans h.output,Nat.le_trans h.size k.size,fun i hi=>(k.block i (Nat.lt_of_lt_of_le hi h.size)).trans (h.block i hi)⟩
structure Env (w:World):Prop where
 maxLen:∃ m:Int,w.cell? ⟨0,0,none⟩=some (.int .i64 m)
 marks:MarksIn w
theorem Env.still {w w':World} (h:Env w) (hb:Below w.heap.size w w'):Env w':=by
 have key:∀ (p:Addr) v,w.cell? p=some v→w'.cell? p=some v:=fun p v hp=>(hb.cell (World.block_lt_of_cell? _ _ hp)).trans hp
 obtain ⟨⟨m,hm⟩,h0,h1,h2,h3,h4⟩:=h
 exact ⟨⟨m,key _ _ hm⟩,key _ _ h0,key _ _ h1,key _ _ h2,key _ _ h3,key _ _ h4⟩
def Ascii (s:ByteArray):Prop:=∀ (j:Nat) (b:UInt8),s.data.toList[j]?=some b→b.toNat<128
theorem Ascii.at {s:ByteArray} (h:Ascii s) {pos:Nat} (hp:pos<s.size):(s[pos]'hp).toNat<128:=h pos _ (byte_at s pos hp)
def hostB (b:UInt8):Bool:=decide (¬ ((65≤b.toNat∧b.toNat≤90)∨b.toNat=95∨b.toNat=126))
def hostP (l:Bs):Bool:=l.all hostB && (decide (0≤Lib.indexByte l 46) && l.head? != some 45)
set_option maxRecDepth 100000 in
theorem isHost_any (s:ByteArray) (w:World) (ha:Ascii s):Calls Tryz.prog 188 #[.string s] w fun e w'=>e=.returned (.bool (hostP s.data.toList))∧Below w.heap.size w w':=by
 have HA:=zh ha
 clear ha
 have c1:∀ (r:Int) w,Calls Tryz.prog 253 #[.int .i32 r] w fun e w'=>e=.returned (.bool (cptR r))∧w=w':=fun r w=>(isCapital_any r w).mono fun _ _ h=>⟨h.1,h.2.symm⟩
 have C1:=zh c1
 clear c1
 go_enter Tryz.func188,Tryz.ntmps188
 go_wp2
 go_loopw [4] (fun r wr=>∃ pos:Nat,wr=w.iter s pos∧Upto hostB s pos) (fun _ wr=>s.size - wr.iterPos w.heap.size)
 case atStart=>exact ⟨0,rfl,Upto.start _ _⟩
 case round =>
  obtain ⟨pos,rfl,hu⟩:=hrel
  have HU:=zh hu
  clear hu
  by_cases hp:pos<s.size
  ·have hlt:=HA.out.at hp
   obtain ⟨r,hr⟩:=zg ((s[pos]'hp).toNat)
   have hnx:∀ ty,(Instr.next (.pointer (some ⟨w.heap.size,0,none⟩)) true ty).run Tryz.prog (w.iter s pos)=.ok (.tuple #[.bool true,.int .i64 pos,.int .i32 r]) (w.iter s (pos+1)):=fun ty=>by rw [hr];exact run_next_ascii w s pos ty hp hlt
   have HR:=zh hr
   clear hlt hr
   by_cases hg:hostB (s[pos]'hp)=true
   ·have HG:=zh hg
    have hg':¬ ((65≤r∧r≤90)∨r=95∨r=126):=by rw [HR.out];simp only [hostB,decide_eq_true_eq] at hg;exact hg
    have c2:∀ w,Calls Tryz.prog 253 #[.int .i32 r] w fun e w'=>e=.returned (.bool false)∧w=w':=fun w=>by
     have e:cptR r=false:=by simp only [cptR,decide_eq_false_iff_not];omega
     rw [←e];exact C1.out _ w
    have C2:=zh c2
    have n1:¬ (r:Int)=95:=by omega
    have n2:¬ (r:Int)=126:=by omega
    have m1:((r:Int) == 95)=false:=by simpa using n1
    have m2:((r:Int) == 126)=false:=by simpa using n2
    clear c2 hg hg' n1 n2
    go_wp2_with (first|(go_at_call 253;refine (C2.out _).mono ?_;rintro e w' ⟨rfl,rfl⟩))
    go_roundw
    case rel=>exact ⟨pos+1,rfl,HU.out.step hp HG.out⟩
    case measure=>simp;omega
   ·have hno:hostP s.data.toList=false:=by
     have:s.data.toList.all hostB=false:=Upto.stop hp (by simpa using hg)
     simp [hostP,this]
    have HN:=zh hno
    have hg':(65≤r∧r≤90)∨r=95∨r=126:=by
     rw [HR.out]
     simp only [hostB,decide_eq_true_eq,Classical.not_not] at hg
     exact hg
    clear hg hno
    by_cases hc:65≤r∧r≤90
    ·have c2:∀ w,Calls Tryz.prog 253 #[.int .i32 r] w fun e w'=>e=.returned (.bool true)∧w=w':=fun w=>by
      have e:cptR r=true:=by simp only [cptR,decide_eq_true_eq];omega
      rw [←e];exact C1.out _ w
     have C2:=zh c2
     clear c2 hc hg'
     go_wp2_with (first|(go_at_call 253;refine (C2.out _).mono ?_;rintro e w' ⟨rfl,rfl⟩))
     go_ret
     exact ⟨by rw [HN.out];rfl,(Below.refl _ _).alloc (Nat.le_refl _) _⟩
    ·have c2:∀ w,Calls Tryz.prog 253 #[.int .i32 r] w fun e w'=>e=.returned (.bool false)∧w=w':=fun w=>by
      have e:cptR r=false:=by simp only [cptR,decide_eq_false_iff_not];omega
      rw [←e];exact C1.out _ w
     have C2:=zh c2
     by_cases h1:r=95
     ·have m1:((r:Int) == 95)=true:=by simp;omega
      clear c2 hc hg' h1
      go_wp2_with (first|(go_at_call 253;refine (C2.out _).mono ?_;rintro e w' ⟨rfl,rfl⟩))
      go_ret
      exact ⟨by rw [HN.out];rfl,(Below.refl _ _).alloc (Nat.le_refl _) _⟩
     ·have m1:((r:Int) == 95)=false:=by simp;omega
      have m2:((r:Int) == 126)=true:=by simp;omega
      clear c2 hc hg' h1
      go_wp2_with (first|(go_at_call 253;refine (C2.out _).mono ?_;rintro e w' ⟨rfl,rfl⟩))
      go_ret
      exact ⟨by rw [HN.out];rfl,(Below.refl _ _).alloc (Nat.le_refl _) _⟩
  ·have hnx:∀ ty,(Instr.next (.pointer (some ⟨w.heap.size,0,none⟩)) true ty).run Tryz.prog (w.iter s pos)=_:=fun ty=>run_next_end w s pos ty hp
   have hall:=HU.out.all hp
   have HALL:=zh hall
   have hB:Below w.heap.size w (w.iter s pos):=(Below.refl _ _).alloc (Nat.le_refl _) _
   have HB:=zh hB
   obtain ⟨bc,hbc⟩:=zg (decide (0≤Lib.indexByte s.data.toList 46))
   have c2:∀ w,Calls Tryz.prog 218 #[.string s,.string ⟨#[46]⟩] w fun e w'=>e=.returned (.bool bc)∧w=w':=fun w=>by
    rw [hbc];exact (Tryz.strings_Contains_one s 46 w).mono fun _ _ h=>⟨h.1,h.2.symm⟩
   have C2:=zh c2
   have hres:hostP s.data.toList=(bc && s.data.toList.head? != some 45):=by rw [hbc];simp [hostP,hall]
   have HRES:=zh hres
   have HBC:=zh hbc
   clear hall hB c2 hres hbc
   cases bc
   ·go_wp2_with (first|(go_at_call 218;refine (C2.out _).mono ?_;rintro e w' ⟨rfl,rfl⟩))
    go_ret
    exact ⟨by rw [HRES.out];rfl,HB.out⟩
   ·have hs0:0<s.size:=by
     rcases Nat.eq_zero_or_pos s.size with h0|h0
     ·have:s.data.toList=[]:=List.eq_nil_of_length_eq_zero (by have:s.data.toList.length=s.size:=(by simp);omega)
      have h2:=HBC.out
      rw [this] at h2
      exact absurd h2 (by decide)
     ·exact h0
    have hsz:(0:Int)<s.size:=by omega
    go_wp2_with (first|(go_at_call 218;refine (C2.out _).mono ?_;rintro e w' ⟨rfl,rfl⟩))
    go_ret
    refine ⟨?_,HB.out⟩
    rw [HRES.out,Bool.true_and,←head_ne s hs0 45 45 (by decide)]
    rfl
def wordN (n:Nat):Bool:=decide ((48≤n∧n≤57)∨(97≤n∧n≤122)∨(65≤n∧n≤90)∨n=45)
def wordB (b:UInt8):Bool:=wordN b.toNat
def wordP (l:Bs):Bool:=l.all wordB && (!l.isEmpty && (!digs l || num l))
theorem take_all (p:UInt8→Bool) (s:ByteArray) (pos:Nat) (hp:pos<s.size):(s.data.toList.take (pos+1)).all p=((s.data.toList.take pos).all p && p (s[pos]'hp)):=by
 have hl:pos<s.data.toList.length:=by simpa using hp
 have e:s.data.toList[pos]'hl=s[pos]'hp:=by
  have:=byte_at s pos hp
  rw [List.getElem?_eq_getElem hl] at this
  exact Option.some.inj this
 rw [List.take_succ_eq_append_getElem hl,List.all_append,e]
 simp
set_option maxRecDepth 100000 in
theorem isWord_any (s:ByteArray) (w:World):Calls Tryz.prog 192 #[.string s] w fun e w'=>e=.returned (.bool (wordP s.data.toList))∧Below w.heap.size w w':=by
 have C251:=zh (fun (r:Int) w=>(isDigit_any r w).mono (R':=fun e w'=>e=.returned (.bool (digR r))∧w=w') fun _ _ h=>⟨h.1,h.2.symm⟩)
 have C252:=zh (fun (r:Int) w=>(isSmall_any r w).mono (R':=fun e w'=>e=.returned (.bool (smlR r))∧w=w') fun _ _ h=>⟨h.1,h.2.symm⟩)
 have C253:=zh (fun (r:Int) w=>(isCapital_any r w).mono (R':=fun e w'=>e=.returned (.bool (cptR r))∧w=w') fun _ _ h=>⟨h.1,h.2.symm⟩)
 go_enter Tryz.func192,Tryz.ntmps192
 go_wp2
 go_loopw [3,5] (fun d r wr=>∃ pos:Nat,wr=w.iter s pos∧Upto wordB s pos∧d=.bool ((s.data.toList.take pos).all dig)) (fun _ _ wr=>s.size - wr.iterPos w.heap.size)
 case atStart=>exact ⟨0,rfl,Upto.start _ _,rfl⟩
 case round =>
  obtain ⟨pos,rfl,hu,rfl⟩:=hrel
  have HU:=zh hu
  obtain ⟨dg,hdg⟩:=zg ((s.data.toList.take pos).all dig)
  rw [←hdg]
  have HDG:=zh hdg
  clear hu hdg
  by_cases hp:pos<s.size
  ·obtain ⟨r,d,hnx,hd,hr⟩:=rune_step s pos hp
   have hnx1:=fun ty=>hnx Tryz.prog w ty
   have HR:=zh hr
   clear hnx hr
   have hnext:wordB (s[pos]'hp)=true→d=1∧Upto wordB s (pos+1):=fun hg=>by
    refine ⟨?_,HU.out.step hp hg⟩
    rcases HR.out with ⟨h1,h2,h3⟩|⟨h1,h2⟩
    ·exact h3
    ·simp only [wordB,wordN,decide_eq_true_eq] at hg;omega
   have HNX:=zh hnext
   have hcase:((48≤r∧r≤57)∧dig (s[pos]'hp)=true∧wordB (s[pos]'hp)=true)∨(¬ (48≤r∧r≤57)∧((97≤r∧r≤122)∨(65≤r∧r≤90)∨r=45)∧dig (s[pos]'hp)=false∧wordB (s[pos]'hp)=true)∨(¬ (48≤r∧r≤57)∧¬ ((97≤r∧r≤122)∨(65≤r∧r≤90)∨r=45)∧wordB (s[pos]'hp)=false):=by
    simp only [wordB,wordN,dig,decide_eq_true_eq,decide_eq_false_iff_not]
    rcases HR.out with ⟨h1,h2,h3⟩|⟨h1,h2⟩
    ·rw [←h2];omega
    ·omega
   clear hnext
   rcases hcase with ⟨h1,h2,h3⟩|⟨h1,h2,h3,h4⟩|⟨h1,h2,h3⟩
   ·have D:=HNX.out h3
    obtain ⟨hd1,hu1⟩:=D
    have HU1:=zh hu1
    have hv:dg=(s.data.toList.take (pos+1)).all dig:=by rw [take_all dig s pos hp,h2,Bool.and_true];exact HDG.out
    have HV:=zh hv
    have e:digR r=true:=by simp only [digR,decide_eq_true_eq];omega
    have c1:∀ w,Calls Tryz.prog 251 #[.int .i32 r] w fun e w'=>e=.returned (.bool true)∧w=w':=fun w=>by rw [←e];exact C251.out _ w
    have D1:=zh c1
    clear c1 e hv hu1 h1 h2 h3
    go_wp2_with (first|(go_at_call 251;refine (D1.out _).mono ?_;rintro e w' ⟨rfl,rfl⟩))
    go_roundw
    case rel=>exact ⟨pos+1,by first|rfl|rw [hd1],HU1.out,by rw [←HV.out]⟩
    case measure=>simp;omega
   ·obtain ⟨hd1,hu1⟩:=HNX.out h4
    have HU1:=zh hu1
    have hv:(s.data.toList.take (pos+1)).all dig=false:=by rw [take_all dig s pos hp,h3,Bool.and_false]
    have HV:=zh hv
    have e:digR r=false:=by simp only [digR,decide_eq_false_iff_not];omega
    have c1:∀ w,Calls Tryz.prog 251 #[.int .i32 r] w fun e w'=>e=.returned (.bool false)∧w=w':=fun w=>by rw [←e];exact C251.out _ w
    have D1:=zh c1
    have D2:Hid (∀ w,Calls Tryz.prog 252 #[.int .i32 r] w fun e w'=>e=.returned (.bool (smlR r))∧w=w'):=zh fun w=>C252.out _ w
    have D3:Hid (∀ w,Calls Tryz.prog 253 #[.int .i32 r] w fun e w'=>e=.returned (.bool (cptR r))∧w=w'):=zh fun w=>C253.out _ w
    clear c1 e hv hu1 h1 h3 h4
    by_cases g1:97≤r∧r≤122
    ·have e:smlR r=true:=by simp only [smlR,decide_eq_true_eq];omega
     rw [e] at D2
     clear e g1 h2
     go_wp2_with (first|(go_at_call 251;refine (D1.out _).mono ?_;rintro e w' ⟨rfl,rfl⟩)|(go_at_call 252;refine (D2.out _).mono ?_;rintro e w' ⟨rfl,rfl⟩)|(go_at_call 253;refine (D3.out _).mono ?_;rintro e w' ⟨rfl,rfl⟩))
     go_roundw
     case rel=>exact ⟨pos+1,by first|rfl|rw [hd1],HU1.out,by rw [HV.out]⟩
     case measure=>simp;omega
    ·have e:smlR r=false:=by simp only [smlR,decide_eq_false_iff_not];omega
     rw [e] at D2
     by_cases g2:65≤r∧r≤90
     ·have e2:cptR r=true:=by simp only [cptR,decide_eq_true_eq];omega
      rw [e2] at D3
      clear e e2 g1 g2 h2
      go_wp2_with (first|(go_at_call 251;refine (D1.out _).mono ?_;rintro e w' ⟨rfl,rfl⟩)|(go_at_call 252;refine (D2.out _).mono ?_;rintro e w' ⟨rfl,rfl⟩)|(go_at_call 253;refine (D3.out _).mono ?_;rintro e w' ⟨rfl,rfl⟩))
      go_roundw
      case rel=>exact ⟨pos+1,by first|rfl|rw [hd1],HU1.out,by rw [HV.out]⟩
      case measure=>simp;omega
     ·have e2:cptR r=false:=by simp only [cptR,decide_eq_false_iff_not];omega
      rw [e2] at D3
      have m1:((r:Int) != 45)=false:=by simp;omega
      clear e e2 g1 g2 h2
      go_wp2_with (first|(go_at_call 251;refine (D1.out _).mono ?_;rintro e w' ⟨rfl,rfl⟩)|(go_at_call 252;refine (D2.out _).mono ?_;rintro e w' ⟨rfl,rfl⟩)|(go_at_call 253;refine (D3.out _).mono ?_;rintro e w' ⟨rfl,rfl⟩))
      go_roundw
      case rel=>exact ⟨pos+1,by first|rfl|rw [hd1],HU1.out,by rw [HV.out]⟩
      case measure=>simp;omega
   ·have hno:wordP s.data.toList=false:=by
     have:s.data.toList.all wordB=false:=Upto.stop hp h3
     simp [wordP,this]
    have HN:=zh hno
    have e1:digR r=false:=by simp only [digR,decide_eq_false_iff_not];omega
    have e2:smlR r=false:=by simp only [smlR,decide_eq_false_iff_not];omega
    have e3:cptR r=false:=by simp only [cptR,decide_eq_false_iff_not];omega
    have D1:Hid (∀ w,Calls Tryz.prog 251 #[.int .i32 r] w fun e w'=>e=.returned (.bool false)∧w=w'):=zh fun w=>by rw [←e1];exact C251.out _ w
    have D2:Hid (∀ w,Calls Tryz.prog 252 #[.int .i32 r] w fun e w'=>e=.returned (.bool false)∧w=w'):=zh fun w=>by rw [←e2];exact C252.out _ w
    have D3:Hid (∀ w,Calls Tryz.prog 253 #[.int .i32 r] w fun e w'=>e=.returned (.bool false)∧w=w'):=zh fun w=>by rw [←e3];exact C253.out _ w
    have m1:((r:Int) != 45)=true:=by simp;omega
    clear hno e1 e2 e3 h1 h2 h3
    go_wp2_with (first|(go_at_call 251;refine (D1.out _).mono ?_;rintro e w' ⟨rfl,rfl⟩)|(go_at_call 252;refine (D2.out _).mono ?_;rintro e w' ⟨rfl,rfl⟩)|(go_at_call 253;refine (D3.out _).mono ?_;rintro e w' ⟨rfl,rfl⟩))
    go_ret
    exact ⟨by rw [HN.out];rfl,(Below.refl _ _).alloc (Nat.le_refl _) _⟩
  ·have hnx:∀ ty,(Instr.next (.pointer (some ⟨w.heap.size,0,none⟩)) true ty).run Tryz.prog (w.iter s pos)=_:=fun ty=>run_next_end w s pos ty hp
   have hall:=HU.out.all hp
   have hB:Below w.heap.size w (w.iter s pos):=(Below.refl _ _).alloc (Nat.le_refl _) _
   have HB:=zh hB
   have hdd:dg=digs s.data.toList:=by
    rw [HDG.out,List.take_of_length_le]
    ·rfl
    ·have:s.data.toList.length=s.size:=by simp
     omega
   have hres:wordP s.data.toList=(!s.data.toList.isEmpty && (!dg || num s.data.toList)):=by rw [hdd];simp [wordP,hall]
   have HRES:=zh hres
   obtain ⟨bn,hbn⟩:=zg (num s.data.toList)
   have D4:Hid (∀ w,Calls Tryz.prog 193 #[.string s] w fun e w'=>e=.returned (.bool bn)∧Below w.heap.size w w'):=zh fun w=>by rw [hbn];exact isNumber_any s w
   have HBN:=zh hbn
   obtain ⟨be,hbe⟩:=zg (s.toList.isEmpty)
   have f0:s.toList.isEmpty=be:=hbe.symm
   have HBE:Hid (be=s.data.toList.isEmpty):=zh (by rw [hbe,ByteArray.toList_eq])
   clear hall hB hdd hres hbn hbe
   cases be <;> cases dg <;> cases bn
   all_goals go_wp2_with (first|(go_at_call 193;refine (D4.out _).mono ?_;rintro e w' ⟨rfl,hb⟩;have HB2:=zh hb;clear hb))
   all_goals go_ret
   all_goals refine ⟨by rw [HRES.out,←HBE.out,←HBN.out];rfl,?_⟩
   all_goals first|exact HB.out|exact below_trans HB.out HB2.out
end Go.Proofs.YtdfdikpklddnhaaGreatDoor
