/- Of the proof of EvidenceJudges, second form: for values of bulk at most 1048576. (Ej18) -/
import Derived.Test.YtdfdikpklddnhaaGreatDoorEj01
import Derived.Test.YtdfdikpklddnhaaGreatDoorEj17
import Derived.Shelf.Strings.SlTrimAscii
namespace Go.Proofs.YtdfdikpklddnhaaGreatDoor
open Go.RowKit
def devs:List Bs:=[[99,111,110],[112,114,110],[97,117,120],[110,117,108],[99,111,109,49],[99,111,109,50],[99,111,109,51],[99,111,109,52],[99,111,109,53],[99,111,109,54],[99,111,109,55],[99,111,109,56],[99,111,109,57],[108,112,116,49],[108,112,116,50],[108,112,116,51],[108,112,116,52],[108,112,116,53],[108,112,116,54],[108,112,116,55],[108,112,116,56],[108,112,116,57]]
def DevsIn (w:World) (g:Nat):Prop:=∀ (j:Nat) v,(devs.map fun d=>Value.string ⟨d.toArray⟩)[j]?=some v→w.cell? ⟨g,j,none⟩=some v
theorem DevsIn.still {w w':World} {g:Nat} (h:DevsIn w g) (hb:Below w.heap.size w w'):DevsIn w' g:=fun j v hv =>
 (hb.cell (World.block_lt_of_cell? _ _ (h j v hv))).trans (h j v hv)
theorem run_loadVar_cells {P:Program} (w:World) (g:Nat) (ty:TypeId) (cs:List Value) (d:TypeDesc) (hc:∀ (j:Nat) v,cs[j]?=some v→w.cell? ⟨g,j,none⟩=some v)
  (hu:P.underlying ty=some d) (hd:(match d with|.struct _|.array _ _=>true|_=>false)=true) (hi:(P.info? ty).map (·.size)=some cs.length) :
  (loadVar ty ⟨g,0,none⟩).run P w=.ok (.agg cs.toArray) w:=by
 have hl:(loadCells ⟨g,0,none⟩ cs.length).run P w=.ok cs.toArray w :=
  run_loadCells_list (P:=P) w ⟨g,0,none⟩ cs (fun j v hv=>by
   have hadd:(⟨g,0,none⟩:Addr).add j=⟨g,j,none⟩:=by unfold Addr.add;split <;> simp_all
   rw [hadd]
   exact hc j v hv)
 cases hq:P.info? ty with
 | none=>simp [hq] at hi
 | some i =>
  have hs:i.size=cs.length:=by simpa [hq] using hi
  have hagg:(isAgg ty).run P w=.ok true w:=by
   unfold isAgg
   rw [Sem.run_bind,run_underlying hu w]
   cases d <;> simp_all
  simp [loadVar,Sem.run_bind,hagg,sizeOf,typeInfo,hq,hs,hl]
theorem wpList_load_cells {P:Program} {ops:Array Oper} {rest:List Oper} {o:Oper} {a:Act} {w:World} {Q:Exit→Act→World→Prop} (hgd:o.guard=none) (ty:TypeId) (x:Operand) (ho:o.op=.load ty x)
  (g:Nat) (hx:a.eval x=.pointer (some ⟨g,0,none⟩)) (cs:List Value) (d:TypeDesc) (hc:∀ (j:Nat) v,cs[j]?=some v→w.cell? ⟨g,j,none⟩=some v)
  (hu:P.underlying ty=some d) (hd:(match d with|.struct _|.array _ _=>true|_=>false)=true) (hi:(P.info? ty).map (·.size)=some cs.length)
  (h:wpList P ops Q rest (a.put o.dst (.agg cs.toArray)) w):wpList P ops Q (o :: rest) a w :=
 wpList_plain hgd fun _ hK=>by
  unfold Oper.wp execOp
  simp only [ho,hx,Instr.loadAt,Instr.sureAddr,Sem.run_bind,Sem.run_pure,Result.andThen_ok,run_loadVar_cells w g ty cs d hc hu hd hi]
  exact hK _ _ h
def digitsL:Bs:=[48,49,50,51,52,53,54,55,56,57]
def elemP (e:Bs):Bool :=
 !(e.isEmpty || e.head? == some 46 || e.getLast? == some 46) && !(devs.contains (Lib.toLowerA (Lib.cut e [46]).1)) &&
  (Lib.trimRightS (Lib.cut e [46]).1 digitsL == (Lib.cut e [46]).1 || !Lib.hasSuffix (Lib.trimRightS (Lib.cut e [46]).1 digitsL) [126])
theorem Tryz.trimRight_digits (s:ByteArray) (w:World) (hs:s.size≤9223372036854775807) :
  Calls Tryz.prog 255 #[.string s,.string ⟨#[48,49,50,51,52,53,54,55,56,57]⟩] w fun e w'=>e=.returned (.string ⟨(Lib.trimRightS s.data.toList digitsL).toArray⟩)∧Below w.heap.size w w' :=
 Any.strings_TrimRight_ascii Tryz.lays162 (fun _=>by kernel_rfl) (by kernel_rfl) s ⟨#[48,49,50,51,52,53,54,55,56,57]⟩ w hs (by decide) (fun j b hb=>by
  have:b∈digitsL:=List.mem_of_getElem? hb
  simp [digitsL] at this
  rcases this with rfl|rfl|rfl|rfl|rfl|rfl|rfl|rfl|rfl|rfl <;> decide)
def devsV:Value:=.agg #[.string ⟨#[99,111,110]⟩,.string ⟨#[112,114,110]⟩,.string ⟨#[97,117,120]⟩,.string ⟨#[110,117,108]⟩,.string ⟨#[99,111,109,49]⟩,.string ⟨#[99,111,109,50]⟩,.string ⟨#[99,111,109,51]⟩,.string ⟨#[99,111,109,52]⟩,.string ⟨#[99,111,109,53]⟩,.string ⟨#[99,111,109,54]⟩,.string ⟨#[99,111,109,55]⟩,.string ⟨#[99,111,109,56]⟩,.string ⟨#[99,111,109,57]⟩,.string ⟨#[108,112,116,49]⟩,.string ⟨#[108,112,116,50]⟩,.string ⟨#[108,112,116,51]⟩,.string ⟨#[108,112,116,52]⟩,.string ⟨#[108,112,116,53]⟩,.string ⟨#[108,112,116,54]⟩,.string ⟨#[108,112,116,55]⟩,.string ⟨#[108,112,116,56]⟩,.string ⟨#[108,112,116,57]⟩]
theorem devsAt (j:Nat) (d:Bs) (hj:devs[j]?=some d) (w:World):(Instr.index 355 devsV (.int .i64 j)).run Tryz.prog w=.ok (.string ⟨d.toArray⟩) w:=by
 have hl:j<22:=(List.getElem?_eq_some_iff.1 hj).1
 rcases (show j=0∨j=1∨j=2∨j=3∨j=4∨j=5∨j=6∨j=7∨j=8∨j=9∨j=10∨j=11∨j=12∨j=13∨j=14∨j=15∨j=16∨j=17∨j=18∨j=19∨j=20∨j=21 by omega) with rfl|rfl|rfl|rfl|rfl|rfl|rfl|rfl|rfl|rfl|rfl|rfl|rfl|rfl|rfl|rfl|rfl|rfl|rfl|rfl|rfl|rfl
 ·have e:∀ w,(Instr.index 355 devsV (.int .i64 0)).run Tryz.prog w=.ok (.string ⟨#[99,111,110]⟩) w:=fun _=>by kernel_rfl
  obtain rfl:=Option.some.inj hj
  exact e w
 ·have e:∀ w,(Instr.index 355 devsV (.int .i64 1)).run Tryz.prog w=.ok (.string ⟨#[112,114,110]⟩) w:=fun _=>by kernel_rfl
  obtain rfl:=Option.some.inj hj
  exact e w
 ·have e:∀ w,(Instr.index 355 devsV (.int .i64 2)).run Tryz.prog w=.ok (.string ⟨#[97,117,120]⟩) w:=fun _=>by kernel_rfl
  obtain rfl:=Option.some.inj hj
  exact e w
 ·have e:∀ w,(Instr.index 355 devsV (.int .i64 3)).run Tryz.prog w=.ok (.string ⟨#[110,117,108]⟩) w:=fun _=>by kernel_rfl
  obtain rfl:=Option.some.inj hj
  exact e w
 ·have e:∀ w,(Instr.index 355 devsV (.int .i64 4)).run Tryz.prog w=.ok (.string ⟨#[99,111,109,49]⟩) w:=fun _=>by kernel_rfl
  obtain rfl:=Option.some.inj hj
  exact e w
 ·have e:∀ w,(Instr.index 355 devsV (.int .i64 5)).run Tryz.prog w=.ok (.string ⟨#[99,111,109,50]⟩) w:=fun _=>by kernel_rfl
  obtain rfl:=Option.some.inj hj
  exact e w
 ·have e:∀ w,(Instr.index 355 devsV (.int .i64 6)).run Tryz.prog w=.ok (.string ⟨#[99,111,109,51]⟩) w:=fun _=>by kernel_rfl
  obtain rfl:=Option.some.inj hj
  exact e w
 ·have e:∀ w,(Instr.index 355 devsV (.int .i64 7)).run Tryz.prog w=.ok (.string ⟨#[99,111,109,52]⟩) w:=fun _=>by kernel_rfl
  obtain rfl:=Option.some.inj hj
  exact e w
 ·have e:∀ w,(Instr.index 355 devsV (.int .i64 8)).run Tryz.prog w=.ok (.string ⟨#[99,111,109,53]⟩) w:=fun _=>by kernel_rfl
  obtain rfl:=Option.some.inj hj
  exact e w
 ·have e:∀ w,(Instr.index 355 devsV (.int .i64 9)).run Tryz.prog w=.ok (.string ⟨#[99,111,109,54]⟩) w:=fun _=>by kernel_rfl
  obtain rfl:=Option.some.inj hj
  exact e w
 ·have e:∀ w,(Instr.index 355 devsV (.int .i64 10)).run Tryz.prog w=.ok (.string ⟨#[99,111,109,55]⟩) w:=fun _=>by kernel_rfl
  obtain rfl:=Option.some.inj hj
  exact e w
 ·have e:∀ w,(Instr.index 355 devsV (.int .i64 11)).run Tryz.prog w=.ok (.string ⟨#[99,111,109,56]⟩) w:=fun _=>by kernel_rfl
  obtain rfl:=Option.some.inj hj
  exact e w
 ·have e:∀ w,(Instr.index 355 devsV (.int .i64 12)).run Tryz.prog w=.ok (.string ⟨#[99,111,109,57]⟩) w:=fun _=>by kernel_rfl
  obtain rfl:=Option.some.inj hj
  exact e w
 ·have e:∀ w,(Instr.index 355 devsV (.int .i64 13)).run Tryz.prog w=.ok (.string ⟨#[108,112,116,49]⟩) w:=fun _=>by kernel_rfl
  obtain rfl:=Option.some.inj hj
  exact e w
 ·have e:∀ w,(Instr.index 355 devsV (.int .i64 14)).run Tryz.prog w=.ok (.string ⟨#[108,112,116,50]⟩) w:=fun _=>by kernel_rfl
  obtain rfl:=Option.some.inj hj
  exact e w
 ·have e:∀ w,(Instr.index 355 devsV (.int .i64 15)).run Tryz.prog w=.ok (.string ⟨#[108,112,116,51]⟩) w:=fun _=>by kernel_rfl
  obtain rfl:=Option.some.inj hj
  exact e w
 ·have e:∀ w,(Instr.index 355 devsV (.int .i64 16)).run Tryz.prog w=.ok (.string ⟨#[108,112,116,52]⟩) w:=fun _=>by kernel_rfl
  obtain rfl:=Option.some.inj hj
  exact e w
 ·have e:∀ w,(Instr.index 355 devsV (.int .i64 17)).run Tryz.prog w=.ok (.string ⟨#[108,112,116,53]⟩) w:=fun _=>by kernel_rfl
  obtain rfl:=Option.some.inj hj
  exact e w
 ·have e:∀ w,(Instr.index 355 devsV (.int .i64 18)).run Tryz.prog w=.ok (.string ⟨#[108,112,116,54]⟩) w:=fun _=>by kernel_rfl
  obtain rfl:=Option.some.inj hj
  exact e w
 ·have e:∀ w,(Instr.index 355 devsV (.int .i64 19)).run Tryz.prog w=.ok (.string ⟨#[108,112,116,55]⟩) w:=fun _=>by kernel_rfl
  obtain rfl:=Option.some.inj hj
  exact e w
 ·have e:∀ w,(Instr.index 355 devsV (.int .i64 20)).run Tryz.prog w=.ok (.string ⟨#[108,112,116,56]⟩) w:=fun _=>by kernel_rfl
  obtain rfl:=Option.some.inj hj
  exact e w
 ·have e:∀ w,(Instr.index 355 devsV (.int .i64 21)).run Tryz.prog w=.ok (.string ⟨#[108,112,116,57]⟩) w:=fun _=>by kernel_rfl
  obtain rfl:=Option.some.inj hj
  exact e w
theorem byte_eq (b c:UInt8) (k:Int) (hk:(c.toNat:Int)=k):(some b == some c)=(((b.toNat:Nat):Int) == k):=by
 subst hk
 by_cases e:b=c
 ·subst e;simp
 ·have e2:¬ ((b.toNat:Nat):Int)=c.toNat:=fun e3=>e (UInt8.toNat_inj.1 (by omega))
  rw [beq_eq_false_iff_ne.2 e2,beq_eq_false_iff_ne]
  exact fun e3=>e (Option.some.inj e3)
set_option maxRecDepth 100000 in
theorem isElement_any (s:ByteArray) (w:World) (ha:Ascii s) (hsz:s.size≤1048576) (hm:∃ m:Int,w.cell? ⟨0,0,none⟩=some (.int .i64 m)) (hd:DevsIn w 9) :
  Calls Tryz.prog 187 #[.string s] w fun e w'=>e=.returned (.bool (elemP s.data.toList))∧Below w.heap.size w w':=by
 have HA:=zh ha
 obtain ⟨m,hm0⟩:=hm
 have HM:=zh hm0
 obtain ⟨stem,hstem⟩:=zg ((Lib.cut s.data.toList [46]).1)
 obtain ⟨beh,hbeh⟩:=zg ((Lib.cut s.data.toList [46]).2.1)
 obtain ⟨fnd,hfnd⟩:=zg ((Lib.cut s.data.toList [46]).2.2)
 have hsub:∀ b,b∈stem→b∈s.data.toList:=fun b hb=>by
  rw [hstem] at hb
  unfold Lib.cut at hb
  split at hb
  ·exact List.mem_of_mem_take hb
  ·exact hb
 have hlen:stem.length≤s.size:=by
  have e:s.data.toList.length=s.size:=by simp
  rw [hstem,←e]
  unfold Lib.cut
  split
  ·exact List.length_take_le' ..
  ·exact Nat.le_refl _
 have hst:Ascii ⟨stem.toArray⟩:=fun j b hb=>by
  have h1:b∈stem:=List.mem_of_getElem? (l:=stem) (by simpa using hb)
  obtain ⟨k,hk⟩:=List.getElem?_of_mem (hsub b h1)
  exact ha k b hk
 have hstz:(⟨stem.toArray⟩:ByteArray).size=stem.length:=by simp [ByteArray.size]
 obtain ⟨low,hlow⟩:=zg (Lib.toLowerA stem)
 obtain ⟨bare,hbare⟩:=zg (Lib.trimRightS stem digitsL)
 have hbl:bare.length≤stem.length:=by
  rw [hbare]
  unfold Lib.trimRightS
  rw [List.length_reverse]
  refine Nat.le_trans (List.dropWhile_sublist _).length_le ?_
  simp
 obtain ⟨hs,hhs⟩:=zg (Lib.hasSuffix bare [126])
 have K155:Hid (∀ w,w.cell? ⟨0,0,none⟩=some (.int .i64 m)→Calls Tryz.prog 155 #[.string s,.string ⟨#[46]⟩] w fun e w'=>e=.returned (.tuple #[.string ⟨stem.toArray⟩,.string ⟨beh.toArray⟩,.bool fnd])∧∃ n,w'=w.drewN n):=zh fun w hm=>by
  rw [hstem,hbeh,hfnd];exact Tryz.strings_Cut s ⟨#[46]⟩ m w (by omega) hm
 have K254:Hid (∀ w,Calls Tryz.prog 254 #[.string ⟨stem.toArray⟩] w fun e w'=>e=.returned (.string ⟨low.toArray⟩)∧Below w.heap.size w w'):=zh fun w=>by
  rw [hlow];exact Tryz.strings_ToLower_ascii ⟨stem.toArray⟩ w (by omega) hst
 have K255:Hid (∀ w,Calls Tryz.prog 255 #[.string ⟨stem.toArray⟩,.string ⟨#[48,49,50,51,52,53,54,55,56,57]⟩] w fun e w'=>e=.returned (.string ⟨bare.toArray⟩)∧Below w.heap.size w w'):=zh fun w=>by
  rw [hbare];exact Tryz.trimRight_digits ⟨stem.toArray⟩ w (by omega)
 have K94:Hid (∀ w,Calls Tryz.prog 94 #[.string ⟨bare.toArray⟩,.string ⟨#[126]⟩] w fun e w'=>e=.returned (.bool hs)∧w=w'):=zh fun w=>by
  rw [hhs];exact (Tryz.strings_HasSuffix ⟨bare.toArray⟩ ⟨#[126]⟩ w (by simp [ByteArray.size];omega)).mono fun _ _ h=>⟨h.1,h.2.symm⟩
 have hres:elemP s.data.toList=(!(s.data.toList.isEmpty || s.data.toList.head? == some 46 || s.data.toList.getLast? == some 46) && !(devs.contains low) && (bare == stem || !hs)):=by
  rw [hhs,hbare,hlow,hstem];rfl
 have HRES:=zh hres
 have HD:=zh hd
 clear ha hm0 hstem hbeh hfnd hsub hst hstz hlow hbare hbl hhs hres hd
 by_cases h0:s.data.toList=[]
 ·have f0:s.toList.isEmpty=true:=by rw [ByteArray.toList_eq,h0];rfl
  have hn:elemP s.data.toList=false:=by rw [h0];rfl
  have HN:=zh hn
  clear h0 hn
  go_enter Tryz.func187,Tryz.ntmps187
  go_wp2
  go_ret
  exact ⟨by rw [HN.out];rfl,Below.refl _ _⟩
 ·have f0:s.toList.isEmpty=false:=by rw [ByteArray.toList_eq];simpa using h0
  have hpos:0<s.size:=by
   have:=List.length_pos_iff.2 h0
   have e:s.data.toList.length=s.size:=by simp
   omega
  have hposI:(0:Int)<s.size:=by omega
  have hlast:s.size - 1<s.size:=by omega
  have hszI:(s.size:Int)≤1048576:=by omega
  have hw:IntKind.i64.wrap ((s.size:Int) - 1)=(s.size:Int) - 1:=IntWalk.i64_in _ (by omega)
  have hlI:(s.size:Int) - 1<(s.size:Int):=by omega
  have hl0:(0:Int)≤(s.size:Int) - 1:=by omega
  have htn:((s.size:Int) - 1).toNat=s.size - 1:=by omega
  have hhead:s.data.toList.head?=some (s[0]'hpos):=by rw [List.head?_eq_getElem?];exact byte_at s 0 hpos
  have hgl:s.data.toList.getLast?=some (s[s.size - 1]'hlast):=by
   rw [List.getLast?_eq_getElem?]
   have e:s.data.toList.length=s.size:=by simp
   rw [e]
   exact byte_at s (s.size - 1) hlast
  have h46:∀ b:UInt8,(some b == some (46:UInt8))=(((b.toNat:Nat):Int) == 46):=fun b=>byte_eq b 46 46 rfl
  obtain ⟨b0,hb0⟩:=zg (((((s[0]'hpos).toNat:Nat):Int) == 46))
  obtain ⟨b1,hb1⟩:=zg (((((s[s.size - 1]'hlast).toNat:Nat):Int) == 46))
  have hr2:elemP s.data.toList=(!(b0 || b1) && !(devs.contains low) && (bare == stem || !hs)):=by
   have e0:s.data.toList.isEmpty=false:=by simpa using h0
   rw [HRES.out,e0,hhead,hgl,h46,h46,←hb0,←hb1,Bool.false_or]
  have HR2:=zh hr2
  have g0:((((s[0]'hpos).toNat:Nat):Int) == 46)=b0:=hb0.symm
  have g1:((((s[s.size - 1]'hlast).toNat:Nat):Int) == 46)=b1:=hb1.symm
  clear h0 hhead hgl h46 hr2 hb0 hb1
  by_cases hbb:(b0 || b1)=true
  ·have hn:elemP s.data.toList=false:=by rw [HR2.out,hbb];rfl
   have HN:=zh hn
   clear hn
   cases b0 <;> cases b1 <;> first|(exact absurd hbb (by decide))|skip
   all_goals clear hbb
   all_goals go_enter Tryz.func187,Tryz.ntmps187
   all_goals go_wp2_with fail
   all_goals go_ret
   all_goals exact ⟨by rw [HN.out];rfl,Below.refl _ _⟩
  ·obtain rfl:b0=false:=by cases b0 <;> simp_all
   obtain rfl:b1=false:=by cases b1 <;> simp_all
   clear hbb
   obtain ⟨cs,hcs⟩:=zg (devs.map fun d=>Value.string ⟨d.toArray⟩)
   have hcl:cs.length=22:=by rw [hcs];rfl
   have HCS:=zh hcs
   have HCL:=zh hcl
   clear hcs hcl
   go_enter Tryz.func187,Tryz.ntmps187
   go_wp2_with (first
    | (go_at_call 155;refine (K155.out _ HM.out).mono ?_;rintro e w1 ⟨rfl,n1,rfl⟩)
    | (go_at_call 254;refine (K254.out _).mono ?_;rintro e w2 ⟨rfl,hb2⟩;have hb3:Below w.heap.size w w2:=below_trans (b:=w.drewN n1) ⟨rfl,rfl,rfl,Nat.le_refl _,fun _ _=>rfl⟩ hb2;have HD2:Hid (∀ (j:Nat) v,cs[j]?=some v→w2.cell? ⟨9,j,none⟩=some v):=zh (by rw [HCS.out];exact HD.out.still hb3);have HB2:=zh hb3;clear hb2 hb3)
    | (refine wpList_load_cells rfl 355 _ rfl 9 rfl cs _ HD2.out Tryz.underlying355 rfl (by rw [HCL.out];kernel_rfl) ?_))
   go_loopw [34] (fun i wr=>∃ j:Nat,j≤22∧i=.int .i64 j∧wr=w2∧(devs.take j).contains low=false) (fun i _=>22 - (intOf i).toNat)
   case atStart=>exact ⟨0,Nat.zero_le _,rfl,rfl,rfl⟩
   case round =>
    obtain ⟨j,hj,rfl,rfl,hno⟩:=hrel
    have HNO:=zh hno
    clear hno
    have hj0:(0:Int)≤j:=by omega
    by_cases hlt:j<22
    ·have hjI:(j:Int)<22:=by omega
     obtain ⟨d,hd⟩:∃ d,devs[j]?=some d:=⟨_,List.getElem?_eq_getElem (show j<devs.length from hlt)⟩
     have hix:∀ w,(Instr.index 355 (.agg cs.toArray) (.int .i64 j)).run Tryz.prog w=.ok (.string ⟨d.toArray⟩) w:=by
      rw [HCS.out,show Value.agg (devs.map fun d=>Value.string ⟨d.toArray⟩).toArray=devsV from rfl]
      exact devsAt j d hd
     have hnext:(devs.take (j+1)).contains low=(low == d):=by
      have hl:j<devs.length:=hlt
      have e:devs[j]'hl=d:=by
       rw [List.getElem?_eq_getElem hl] at hd
       exact Option.some.inj hd
      have h1:=HNO.out
      rw [List.take_succ_eq_append_getElem hl,e]
      simp only [List.contains_eq_mem,List.mem_append,List.mem_singleton] at h1 ⊢
      simp only [decide_eq_false_iff_not] at h1
      by_cases g:low=d <;> simp [h1,g]
     have HNX:=zh hnext
     have HDJ:=zh hd
     clear hnext hd
     by_cases hld:(low == d)=true
     ·have hn:elemP s.data.toList=false:=by
       have hc:devs.contains low=true:=by
        rw [List.contains_eq_mem,decide_eq_true_eq]
        rw [beq_iff_eq.1 hld]
        exact List.mem_of_getElem? HDJ.out
       rw [HR2.out,hc];simp
      have HN:=zh hn
      clear hn
      go_wp2_with fail
      go_ret
      exact ⟨by rw [HN.out];rfl,HB2.out⟩
     ·have hld':(low == d)=false:=by simpa using hld
      clear hld
      go_wp2_with fail
      go_roundw
      case rel=>exact ⟨j+1,by omega,by go_num,trivial,by rw [HNX.out];exact hld'⟩
      case measure=>simp [intOf];omega
    ·obtain rfl:j=22:=by omega
     have hc:devs.contains low=false:=HNO.out
     have hr3:elemP s.data.toList=(bare == stem || !hs):=by rw [HR2.out,hc];simp
     have HR3:=zh hr3
     clear hlt hc hr3
     cases hbs:(bare == stem) <;> cases hs
     all_goals go_wp2_with (first
      | (go_at_call 255;refine (K255.out _).mono ?_;rintro e w3 ⟨rfl,hb4⟩;have HB4:=zh hb4;clear hb4)
      | (go_at_call 94;refine (K94.out _).mono ?_;rintro e w3 ⟨rfl,rfl⟩))
     all_goals go_ret
     all_goals exact ⟨by rw [HR3.out,hbs];rfl,below_trans HB2.out HB4.out⟩
end Go.Proofs.YtdfdikpklddnhaaGreatDoor
