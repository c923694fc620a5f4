/- Of the proof of EvidenceJudges, second form: for values of bulk at most 1048576. (Ej20) -/
import Derived.Test.YtdfdikpklddnhaaGreatDoorEj01
import Derived.Test.YtdfdikpklddnhaaGreatDoorEj19
import Derived.BigRegion
namespace Go.Proofs.YtdfdikpklddnhaaGreatDoor
open Go.RowKit
def incL:Bs:=[43,105,110,99,111,109,112,97,116,105,98,108,101]
def verInc (l:Bs):Bool:=Lib.hasSuffix (l.drop 1) incL
def verRest (l:Bs):Bs:=Lib.trimSuffix (l.drop 1) incL
def verNums (l:Bs):List Bs:=pcs 46 (Lib.cut (verRest l) [45]).1
def verP (l:Bs):Bool :=
 (decide (l.length≤128) && Lib.hasPrefix l [118]) && (!(Lib.cut (verRest l) [45]).2.2 || (pcs 46 (Lib.cut (verRest l) [45]).2.1).all wordP) &&
  (decide ((verNums l).length=3) && (verNums l).all num) && (!verInc l || ((verNums l).headD [] != [48] && (verNums l).headD [] != [49]))
def Parsed (w:World) (l:Bs) (e:Ending) (w':World):Prop :=
 ∃ (n0 n1 n2:ByteArray) (a:Option Addr) (n c:Nat) (inc:Bool),e=.returned (.tuple #[.agg #[.string n0,.string n1,.string n2,.slice a n c,.bool inc],.bool (verP l)]) ∧
  (verP l=true→n0.data.toList=(verNums l).headD []∧inc=verInc l)∧Below w.heap.size w w'
theorem results_ver (tmps:Array Value) (w:World) (b:Nat) (v0 v1 v2 v3 v4 u:Value) (hp:tmps.getD 2 undef=.pointer (some ⟨b,0,none⟩)) (hc:w.heap[b]?=some (.cells #[v0,v1,v2,v3,v4] 240 (0,0))) (hu:tmps.getD 3 undef=u) :
  (results Tryz.f131 tmps).run Tryz.prog w=.ok (.tuple #[.agg #[v0,v1,v2,v3,v4],u]) w:=by
 rw [results_cell_tmp (fn:=Tryz.f131) (p:=2) (u:=3) (ty:=240) rfl,hp,hu]
 simp only [asAddr,Sem.run_pure,Result.andThen]
 rw [run_loadVar_row w b 240 240 #[v0,v1,v2,v3,v4] (0,0) _ hc Tryz.underlying240 rfl (by kernel_rfl)]
def verObj (x0 x1 x2 x3 x4:Value):Obj:=.cells #[x0,x1,x2,x3,x4] 240
theorem below_drew {B:Nat} {a W:World} (h:Below B a W):Below B a W.drew:=⟨h.os,h.tape,h.output,h.size,h.block⟩
def set5 (W:World) (R:Nat) (v0 v1 v2 v3 v4:Value):World:=((((W.setCell ⟨R,0,none⟩ v0).setCell ⟨R,1,none⟩ v1).setCell ⟨R,2,none⟩ v2).setCell ⟨R,3,none⟩ v3).setCell ⟨R,4,none⟩ v4
theorem set5_heap {W:World} {R:Nat} {x0 x1 x2 x3 x4:Value} (h:W.heap[R]?=some (verObj x0 x1 x2 x3 x4)) (v0 v1 v2 v3 v4:Value):(set5 W R v0 v1 v2 v3 v4).heap[R]?=some (.cells #[v0,v1,v2,v3,v4] 240 (0,0)):=by
 have h0:=heap_setCell_same (j:=0) h v0
 have h1:=heap_setCell_same (j:=1) h0 v1
 have h2:=heap_setCell_same (j:=2) h1 v2
 have h3:=heap_setCell_same (j:=3) h2 v3
 have h4:=heap_setCell_same (j:=4) h3 v4
 exact h4
theorem set5_below {a W:World} {R:Nat} (h:Below a.heap.size a W) (hR:a.heap.size≤R) (v0 v1 v2 v3 v4:Value):Below a.heap.size a (set5 W R v0 v1 v2 v3 v4) :=
 ((((h.setCell hR _).setCell hR _).setCell hR _).setCell hR _).setCell hR _
theorem set5_drew {a W:World} {R:Nat} (h:Below a.heap.size a W) (hR:a.heap.size≤R) (v0 v1 v2 v3 v4:Value):Below a.heap.size a (set5 W R v0 v1 v2 v3 v4).drew :=
 below_drew (set5_below h hR v0 v1 v2 v3 v4)
structure VR (w W3:World) (V R:Nat) (x0 x1 x2 v3 v4:Value) (wr:World):Prop where
 below:Below w.heap.size w wr
 v:wr.heap[V]?=some (verObj x0 x1 x2 v3 v4)
 r:wr.heap[R]?=some (verObj (.string ⟨#[]⟩) (.string ⟨#[]⟩) (.string ⟨#[]⟩) (.slice none 0 0) (.bool false))
 rest:∀ b,b<W3.heap.size→b≠V→wr.heap[b]?=W3.heap[b]?
 size:W3.heap.size≤wr.heap.size
theorem VR.call {w W3:World} {V R:Nat} {x0 x1 x2 v3 v4:Value} {wr wr':World} (h:VR w W3 V R x0 x1 x2 v3 v4 wr) (hb:Below wr.heap.size wr wr'):VR w W3 V R x0 x1 x2 v3 v4 wr' :=
 ⟨below_trans h.below hb,(hb.block _ (lt_of_heap h.v)).trans h.v,(hb.block _ (lt_of_heap h.r)).trans h.r,fun b h1 h2=>(hb.block b (Nat.lt_of_lt_of_le h1 h.size)).trans (h.rest b h1 h2),Nat.le_trans h.size hb.size⟩
theorem VR.set {w W3:World} {V R:Nat} {x0 x1 x2 v3 v4:Value} {wr:World} (h:VR w W3 V R x0 x1 x2 v3 v4 wr) (hV:w.heap.size≤V) (hVR:V≠R) (j:Nat) (y y0 y1 y2:Value) (hy:(#[x0,x1,x2,v3,v4]:Array Value).setIfInBounds j y=#[y0,y1,y2,v3,v4]):VR w W3 V R y0 y1 y2 v3 v4 (wr.setCell ⟨V,j,none⟩ y):=by
 refine ⟨h.below.setCell hV _,?_,(heap_setCell_other (fun e=>hVR e.symm) _).trans h.r,fun b h1 h2=>(heap_setCell_other h2 _).trans (h.rest b h1 h2),by simpa [World.setCell] using h.size⟩
 rw [heap_setCell_same h.v,hy]
 rfl
set_option maxRecDepth 100000 in
set_option maxHeartbeats 6400000 in
theorem parse_none (s:ByteArray) (w:World) (hsz:s.size≤1048576) (henv:EnvP w) (hcase:(Lib.cut (verRest s.data.toList) [45]).2.2=false) :
  Calls Tryz.prog 131 #[.string s] w (Parsed w s.data.toList):=by
 have HE:=zh henv
 have elen:s.data.toList.length=s.size:=by simp
 have HEL:=zh elen
 obtain ⟨bp,hbp⟩:=zg (Lib.hasPrefix s.data.toList [118])
 have K190:Hid (∀ w,Calls Tryz.prog 190 #[.string s,.string ⟨#[118]⟩] w fun e w'=>e=.returned (.bool bp)∧w=w'):=zh fun w=>by
  rw [hbp];exact (Tryz.strings_HasPrefix s ⟨#[118]⟩ w).mono fun _ _ h=>⟨h.1,h.2.symm⟩
 have HBP:=zh hbp
 have hB2:∀ o1 o2:Obj,Below w.heap.size w ((w.alloc o1).alloc o2):=fun o1 o2=>((Below.refl _ _).alloc (Nat.le_refl _) _).alloc (by simp) _
 have HB2:=zh hB2
 have hR2:∀ o1 o2:Obj,((w.alloc o1).alloc o2).heap[w.heap.size]?=some o1:=fun o1 o2=>by
  rw [heap_alloc_old _ _ (by simp)];exact heap_alloc_new _ _
 have HR2:=zh hR2
 clear henv elen hbp hB2 hR2
 by_cases h1:128<s.size
 ·have g1:(128:Int)<s.size:=by omega
  have hn:verP s.data.toList=false:=by
   have:decide (s.data.toList.length≤128)=false:=by rw [decide_eq_false_iff_not,HEL.out];omega
   simp only [verP,this,Bool.false_and]
  have HN:=zh hn
  clear hn
  go_enter Tryz.func131,Tryz.ntmps131
  go_wp2
  refine bodyPost_ret (results_ver _ _ w.heap.size _ _ _ _ _ _ rfl (HR2.out _ _) rfl) rfl ?_
  exact ⟨_,_,_,_,_,_,_,by rw [HN.out];rfl,fun h=>(by rw [HN.out] at h;cases h),HB2.out _ _⟩
 ·have g1:¬ (128:Int)<s.size:=by omega
  cases bp
  ·have hn:verP s.data.toList=false:=by simp [verP,←HBP.out]
   have HN:=zh hn
   clear hn
   go_enter Tryz.func131,Tryz.ntmps131
   go_wp2_with (first|(go_at_call 190;refine (K190.out _).mono ?_;rintro e w1 ⟨rfl,rfl⟩))
   refine bodyPost_ret (results_ver _ _ w.heap.size _ _ _ _ _ _ rfl (HR2.out _ _) rfl) rfl ?_
   exact ⟨_,_,_,_,_,_,_,by rw [HN.out];rfl,fun h=>(by rw [HN.out] at h;cases h),HB2.out _ _⟩
  ·obtain ⟨S1,hS1⟩:∃ S:ByteArray,S=s.extract 1 s.size:=⟨_,rfl⟩
   have hs1:1≤s.size:=by
    have h2:=HBP.out
    rcases Nat.eq_zero_or_pos s.size with h0|h0
    ·have:s.data.toList=[]:=List.eq_nil_of_length_eq_zero (by rw [HEL.out];exact h0)
     rw [this] at h2
     exact absurd h2 (by decide)
    ·exact h0
   have hs1I:(1:Int)≤s.size:=by omega
   have hS1l:S1.data.toList=s.data.toList.drop 1:=by
    rw [hS1,Lib.extract_eq]
    show ((s.data.toList.drop 1).take (s.size - 1))=_
    exact List.take_of_length_le (by rw [List.length_drop,HEL.out];exact Nat.le_refl _)
   have hS1z:S1.size≤s.size:=by
    have:S1.data.toList.length=S1.size:=by simp
    rw [←this,hS1l,List.length_drop,HEL.out];omega
   have hx:s.extract 1 s.size=S1:=hS1.symm
   obtain ⟨rest,hrest⟩:=zg (verRest s.data.toList)
   obtain ⟨inc,hinc⟩:=zg (verInc s.data.toList)
   have K191:Hid (∀ w,Calls Tryz.prog 191 #[.string S1,.string ⟨#[43,105,110,99,111,109,112,97,116,105,98,108,101]⟩] w fun e w'=>e=.returned (.tuple #[.string ⟨rest.toArray⟩,.bool inc])∧w=w'):=zh fun w=>by
    rw [hrest,hinc,verRest,verInc,←hS1l]
    exact (Tryz.strings_CutSuffix S1 ⟨#[43,105,110,99,111,109,112,97,116,105,98,108,101]⟩ w (by omega)).mono fun _ _ h=>⟨h.1,h.2.symm⟩
   have hrl:rest.length≤s.size:=by
    rw [hrest,verRest,←hS1l]
    unfold Lib.trimSuffix
    have:S1.data.toList.length=S1.size:=by simp
    split
    ·exact Nat.le_trans (List.length_take_le' ..) (by omega)
    ·omega
   obtain ⟨core,hcore⟩:=zg ((Lib.cut rest [45]).1)
   obtain ⟨pre,hpre⟩:=zg ((Lib.cut rest [45]).2.1)
   obtain ⟨has,hhas⟩:=zg ((Lib.cut rest [45]).2.2)
   have hver:verP s.data.toList=((!has || (pcs 46 pre).all wordP) && (decide ((pcs 46 core).length=3) && (pcs 46 core).all num) && (!inc || ((pcs 46 core).headD [] != [48] && (pcs 46 core).headD [] != [49]))):=by
    have:decide (s.data.toList.length≤128)=true:=by rw [decide_eq_true_eq,HEL.out];omega
    rw [hhas,hpre,hcore,hinc,hrest]
    simp only [verP,this,←HBP.out,Bool.true_and,verNums]
    rfl
   have hnums:verNums s.data.toList=pcs 46 core:=by rw [hcore,hrest];rfl
   have K155:Hid (∀ w' (m:Int),w'.cell? ⟨0,0,none⟩=some (.int .i64 m)→Calls Tryz.prog 155 #[.string ⟨rest.toArray⟩,.string ⟨#[45]⟩] w' fun e w''=>e=.returned (.tuple #[.string ⟨core.toArray⟩,.string ⟨pre.toArray⟩,.bool has])∧∃ n,w''=w'.drewN n):=zh fun w' m hm=>by
    rw [hcore,hpre,hhas];exact Tryz.strings_Cut ⟨rest.toArray⟩ ⟨#[45]⟩ m w' (by simp [ByteArray.size];omega) hm
   have hcl:core.length≤s.size∧pre.length≤s.size:=by
    rw [hcore,hpre]
    unfold Lib.cut
    split
    ·exact ⟨Nat.le_trans (List.length_take_le' ..) hrl,Nat.le_trans (by rw [List.length_drop];omega) hrl⟩
    ·exact ⟨hrl,Nat.zero_le _⟩
   have HCL:=zh hcl
   have HVER:=zh hver
   have HNUMS:=zh hnums
   have HINC:=zh hinc
   obtain rfl:has=false:=by rw [hhas,hrest];exact hcase
   clear hcase hS1 hs1 hS1l hS1z hrest hinc hrl hcore hpre hhas hver hnums hcl h1
   go_enter Tryz.func131,Tryz.ntmps131
   go_wp2_with (first|(go_at_call 190;refine (K190.out _).mono ?_;rintro e w1 ⟨rfl,rfl⟩)|(go_at_call 191;refine (K191.out _).mono ?_;rintro e w1 ⟨rfl,rfl⟩))
   obtain ⟨W1,hW1⟩:=zg ((w.alloc (.cells #[.string ⟨#[]⟩,.string ⟨#[]⟩,.string ⟨#[]⟩,.slice none 0 0,.bool false] 240)).alloc (.cells #[.string ⟨#[]⟩,.string ⟨#[]⟩,.string ⟨#[]⟩,.slice none 0 0,.bool inc] 240))
   rw [←hW1]
   have HB1:Hid (Below w.heap.size w W1):=zh (by rw [hW1];exact HB2.out _ _)
   have HV1:Hid (W1.heap[w.heap.size+1]?=some (verObj (.string ⟨#[]⟩) (.string ⟨#[]⟩) (.string ⟨#[]⟩) (.slice none 0 0) (.bool inc))):=zh (by rw [hW1];have:=heap_alloc_new (w.alloc (.cells #[.string ⟨#[]⟩,.string ⟨#[]⟩,.string ⟨#[]⟩,.slice none 0 0,.bool false] 240)) (.cells #[.string ⟨#[]⟩,.string ⟨#[]⟩,.string ⟨#[]⟩,.slice none 0 0,.bool inc] 240);simp only [World.alloc,Array.size_push] at this ⊢;exact this)
   have HR1:Hid (W1.heap[w.heap.size]?=some (verObj (.string ⟨#[]⟩) (.string ⟨#[]⟩) (.string ⟨#[]⟩) (.slice none 0 0) (.bool false))):=zh (by rw [hW1];exact HR2.out _ _)
   obtain ⟨m1,hm1⟩:=(HE.out.still HB1.out).env.maxLen
   have K155':=zh (K155.out W1 m1 hm1)
   clear hW1 hm1
   refine K155'.out.mono ?_
   rintro e W2 ⟨rfl,k2,rfl⟩
   obtain ⟨WT,hWT⟩:=zg (W1.drewN k2)
   obtain ⟨wa,wn,wc,hsl⟩:∃ (wa:Option Addr) (wn wc:Nat),Value.slice wa wn wc=.slice none 0 0:=⟨none,0,0,rfl⟩
   have HBT:Hid (Below w.heap.size w WT):=zh (by rw [hWT];exact below_trans HB1.out ⟨rfl,rfl,rfl,Nat.le_refl _,fun _ _=>rfl⟩)
   have HVT:Hid (WT.heap[w.heap.size+1]?=some (verObj (.string ⟨#[]⟩) (.string ⟨#[]⟩) (.string ⟨#[]⟩) (.slice wa wn wc) (.bool inc))):=zh (by rw [hWT,hsl];exact HV1.out)
   have HRT:Hid (WT.heap[w.heap.size]?=some (verObj (.string ⟨#[]⟩) (.string ⟨#[]⟩) (.string ⟨#[]⟩) (.slice none 0 0) (.bool false))):=zh (by rw [hWT];exact HR1.out)
   have HW:Hid ((!false || (pcs 46 pre).all wordP)=true):=zh rfl
   rw [←hWT]
   clear hWT hsl
   obtain ⟨mt,hmt⟩:=(HE.out.still HBT.out).env.maxLen
   have K95:=zh (split_any ⟨core.toArray⟩ 46 mt WT (by have:=HCL.out;simp [ByteArray.size];omega) hmt)
   obtain ⟨ps,hps⟩:=zg (pcs 46 core)
   obtain ⟨n,hn⟩:=zg (ps.length)
   have hK:Hid (Calls Tryz.prog 95 #[.string ⟨core.toArray⟩,.string ⟨#[46]⟩] WT fun e w'=>e=.returned (.slice (some ⟨WT.heap.size,0,none⟩) n n)∧w'=WT.alloc (.cells (ps.map fun p=>Value.string ⟨p.toArray⟩).toArray 9)):=zh (by rw [hn,hps];exact K95.out)
   have HPS:=zh hps
   have HNL:=zh hn
   have hnb:n≤1048577:=by
    rw [hn,hps,pcs_length]
    have h1:=List.count_le_length (a:=(46:UInt8)) (l:=core)
    have:=HCL.out
    omega
   clear hmt hps hn K95
   go_wp2_with fail
   refine hK.out.mono ?_
   rintro e W3 ⟨rfl,hW3⟩
   have hRl:w.heap.size<WT.heap.size:=lt_of_heap HRT.out
   have hVl:w.heap.size+1<WT.heap.size:=lt_of_heap HVT.out
   have hB3:Below w.heap.size w W3:=by rw [hW3];exact below_trans HBT.out ((Below.refl _ _).alloc (Nat.le_refl _) _)
   have hV3:W3.heap[w.heap.size+1]?=some (verObj (.string ⟨#[]⟩) (.string ⟨#[]⟩) (.string ⟨#[]⟩) (.slice wa wn wc) (.bool inc)):=by rw [hW3,heap_alloc_old _ _ hVl];exact HVT.out
   have hR3:W3.heap[w.heap.size]?=some (verObj (.string ⟨#[]⟩) (.string ⟨#[]⟩) (.string ⟨#[]⟩) (.slice none 0 0) (.bool false)):=by rw [hW3,heap_alloc_old _ _ hRl];exact HRT.out
   have hpc:∀ (j:Nat) p,ps[j]?=some p→W3.cell? ⟨WT.heap.size,j,none⟩=some (.string ⟨p.toArray⟩):=fun j p hj=>by
    rw [hW3,cell_of_row _ _ _ _ _ _ (heap_alloc_new _ _),List.getElem?_toArray,List.getElem?_map,hj]
    rfl
   have HPC:=zh hpc
   have HB3:=zh hB3
   have HV3:=zh hV3
   have HR3:=zh hR3
   clear hW3 hRl hVl hB3 hV3 hR3 hpc
   by_cases h3:n=3
   ·have n3:((n:Int) != 3)=false:=by simp;omega
    obtain ⟨p0,p1,p2,hp⟩:∃ p0 p1 p2,ps=[p0,p1,p2]:=by
     match ps,HNL.out.symm.trans h3 with
     | [p0,p1,p2],_=>exact ⟨p0,p1,p2,rfl⟩
    subst hp
    have hver2:verP s.data.toList=(num p0 && num p1 && num p2 && (!inc || (p0 != [48] && p0 != [49]))):=by
     have hw:=HW.out
     rw [HVER.out,←HPS.out]
     rw [hw]
     simp [Bool.and_assoc]
    have HVER2:=zh hver2
    have hhead:(verNums s.data.toList).headD []=p0:=by rw [HNUMS.out,←HPS.out];rfl
    have HHEAD:=zh hhead
    have hWTV:WT.heap.size≠w.heap.size+1:=by have:=lt_of_heap HVT.out;omega
    have q0:=HPC.out 0 p0 rfl
    have q1:=HPC.out 1 p1 rfl
    have q2:=HPC.out 2 p2 rfl
    have hWT3:WT.heap.size<W3.heap.size:=World.block_lt_of_cell? _ _ q0
    have Q0:=zh q0
    have Q1:=zh q1
    have Q2:=zh q2
    obtain ⟨bn0,hbn0⟩:=zg (num p0)
    have K0:Hid (∀ w,Calls Tryz.prog 193 #[.string ⟨p0.toArray⟩] w fun e w'=>e=.returned (.bool bn0)∧Below w.heap.size w w'):=zh fun w=>by rw [hbn0];exact isNumber_any ⟨p0.toArray⟩ w
    have HBN0:=zh hbn0
    clear hbn0
    obtain ⟨bn1,hbn1⟩:=zg (num p1)
    have K1:Hid (∀ w,Calls Tryz.prog 193 #[.string ⟨p1.toArray⟩] w fun e w'=>e=.returned (.bool bn1)∧Below w.heap.size w w'):=zh fun w=>by rw [hbn1];exact isNumber_any ⟨p1.toArray⟩ w
    have HBN1:=zh hbn1
    clear hbn1
    obtain ⟨bn2,hbn2⟩:=zg (num p2)
    have K2:Hid (∀ w,Calls Tryz.prog 193 #[.string ⟨p2.toArray⟩] w fun e w'=>e=.returned (.bool bn2)∧Below w.heap.size w w'):=zh fun w=>by rw [hbn2];exact isNumber_any ⟨p2.toArray⟩ w
    have HBN2:=zh hbn2
    clear hbn2
    have hst:VR w W3 (w.heap.size+1) w.heap.size (.string ⟨#[]⟩) (.string ⟨#[]⟩) (.string ⟨#[]⟩) (.slice wa wn wc) (.bool inc) W3:=⟨HB3.out,HV3.out,HR3.out,fun _ _ _=>rfl,Nat.le_refl _⟩
    have HST:=zh hst
    have HWTV:=zh hWTV
    have HWT3:=zh hWT3
    subst h3
    clear hver2 hhead hWTV hWT3 hst q0 q1 q2 n3
    go_wp2_with fail
    go_loopw [62] (fun i wr=>(i=.int .i64 0∧VR w W3 (w.heap.size+1) w.heap.size (.string ⟨#[]⟩) (.string ⟨#[]⟩) (.string ⟨#[]⟩) (.slice wa wn wc) (.bool inc) wr)∨(i=.int .i64 1∧num p0=true∧VR w W3 (w.heap.size+1) w.heap.size (.string ⟨p0.toArray⟩) (.string ⟨#[]⟩) (.string ⟨#[]⟩) (.slice wa wn wc) (.bool inc) wr)∨(i=.int .i64 2∧num p0=true∧num p1=true∧VR w W3 (w.heap.size+1) w.heap.size (.string ⟨p0.toArray⟩) (.string ⟨p1.toArray⟩) (.string ⟨#[]⟩) (.slice wa wn wc) (.bool inc) wr)∨(i=.int .i64 3∧num p0=true∧num p1=true∧num p2=true∧VR w W3 (w.heap.size+1) w.heap.size (.string ⟨p0.toArray⟩) (.string ⟨p1.toArray⟩) (.string ⟨p2.toArray⟩) (.slice wa wn wc) (.bool inc) wr)) (fun i _=>3 - (intOf i).toNat)
    case atStart=>exact .inl ⟨rfl,HST.out⟩
    case round =>
     rcases hrel with ⟨rfl,hvr⟩|⟨rfl,hn0,hvr⟩|⟨rfl,hn0,hn1,hvr⟩|⟨rfl,hn0,hn1,hn2,hvr⟩
     ·have HVR:=zh hvr
      have HH:Hid True:=zh trivial
      clear hvr
      have q:wr.cell? ⟨WT.heap.size,0,none⟩=some (.string ⟨p0.toArray⟩):=(World.cell?_of_block (w:=W3) (a:=⟨WT.heap.size,0,none⟩) (HVR.out.rest _ HWT3.out HWTV.out)).trans Q0.out
      cases bn0
      ·have hn:verP s.data.toList=false:=by rw [HVER2.out,←HBN0.out];simp
       have HN:=zh hn
       clear hn
       go_wp2_with (first|(go_at_call 193;refine (K0.out _).mono ?_;rintro e w4 ⟨rfl,hb4⟩;have HVR4:=zh (HVR.out.call hb4);clear hb4;have v0:=cell_of_heap HVR4.out.v 0 rfl;have v1:=cell_of_heap HVR4.out.v 1 rfl;have v2:=cell_of_heap HVR4.out.v 2 rfl;have v3:=cell_of_heap HVR4.out.v 3 rfl;have v4:=cell_of_heap HVR4.out.v 4 rfl;have fv:∀ j,w4.frozen? ⟨w.heap.size+1,j,none⟩=false:=fun j=>free_of_heap HVR4.out.v j;have r0:=cell_of_heap HVR4.out.r 0 rfl;have r1:=cell_of_heap HVR4.out.r 1 rfl;have r2:=cell_of_heap HVR4.out.r 2 rfl;have r3:=cell_of_heap HVR4.out.r 3 rfl;have r4:=cell_of_heap HVR4.out.r 4 rfl;have fr:∀ j,w4.frozen? ⟨w.heap.size,j,none⟩=false:=fun j=>free_of_heap HVR4.out.r j))
       refine bodyPost_ret (results_ver _ _ w.heap.size _ _ _ _ _ _ rfl (set5_heap HVR4.out.r _ _ _ _ _) rfl) rfl ?_
       exact ⟨_,_,_,_,_,_,_,by rw [HN.out];rfl,fun h=>(by rw [HN.out] at h;cases h),set5_below HVR4.out.below (Nat.le_refl _) _ _ _ _ _⟩
      ·go_wp2_with (first|(go_at_call 193;refine (K0.out _).mono ?_;rintro e w4 ⟨rfl,hb4⟩;have HVR4:=zh (HVR.out.call hb4);clear hb4;have v0:=cell_of_heap HVR4.out.v 0 rfl;have v1:=cell_of_heap HVR4.out.v 1 rfl;have v2:=cell_of_heap HVR4.out.v 2 rfl;have v3:=cell_of_heap HVR4.out.v 3 rfl;have v4:=cell_of_heap HVR4.out.v 4 rfl;have fv:∀ j,w4.frozen? ⟨w.heap.size+1,j,none⟩=false:=fun j=>free_of_heap HVR4.out.v j;have r0:=cell_of_heap HVR4.out.r 0 rfl;have r1:=cell_of_heap HVR4.out.r 1 rfl;have r2:=cell_of_heap HVR4.out.r 2 rfl;have r3:=cell_of_heap HVR4.out.r 3 rfl;have r4:=cell_of_heap HVR4.out.r 4 rfl;have fr:∀ j,w4.frozen? ⟨w.heap.size,j,none⟩=false:=fun j=>free_of_heap HVR4.out.r j))
       have HNV:=zh (HVR4.out.set (Nat.le_succ _) (by omega) 0 (.string ⟨p0.toArray⟩) (.string ⟨p0.toArray⟩) (.string ⟨#[]⟩) (.string ⟨#[]⟩) rfl)
       go_roundw
       case rel=>exact .inr (.inl ⟨rfl,HBN0.out.symm,HNV.out⟩)
       case measure=>simp [intOf]
     ·have HVR:=zh hvr
      have HH:Hid (True∧num p0=true):=zh ⟨trivial,hn0⟩
      clear hvr hn0
      have q:wr.cell? ⟨WT.heap.size,1,none⟩=some (.string ⟨p1.toArray⟩):=(World.cell?_of_block (w:=W3) (a:=⟨WT.heap.size,1,none⟩) (HVR.out.rest _ HWT3.out HWTV.out)).trans Q1.out
      cases bn1
      ·have hn:verP s.data.toList=false:=by rw [HVER2.out,←HBN1.out];simp
       have HN:=zh hn
       clear hn
       go_wp2_with (first|(go_at_call 193;refine (K1.out _).mono ?_;rintro e w4 ⟨rfl,hb4⟩;have HVR4:=zh (HVR.out.call hb4);clear hb4;have v0:=cell_of_heap HVR4.out.v 0 rfl;have v1:=cell_of_heap HVR4.out.v 1 rfl;have v2:=cell_of_heap HVR4.out.v 2 rfl;have v3:=cell_of_heap HVR4.out.v 3 rfl;have v4:=cell_of_heap HVR4.out.v 4 rfl;have fv:∀ j,w4.frozen? ⟨w.heap.size+1,j,none⟩=false:=fun j=>free_of_heap HVR4.out.v j;have r0:=cell_of_heap HVR4.out.r 0 rfl;have r1:=cell_of_heap HVR4.out.r 1 rfl;have r2:=cell_of_heap HVR4.out.r 2 rfl;have r3:=cell_of_heap HVR4.out.r 3 rfl;have r4:=cell_of_heap HVR4.out.r 4 rfl;have fr:∀ j,w4.frozen? ⟨w.heap.size,j,none⟩=false:=fun j=>free_of_heap HVR4.out.r j))
       refine bodyPost_ret (results_ver _ _ w.heap.size _ _ _ _ _ _ rfl (set5_heap HVR4.out.r _ _ _ _ _) rfl) rfl ?_
       exact ⟨_,_,_,_,_,_,_,by rw [HN.out];rfl,fun h=>(by rw [HN.out] at h;cases h),set5_below HVR4.out.below (Nat.le_refl _) _ _ _ _ _⟩
      ·go_wp2_with (first|(go_at_call 193;refine (K1.out _).mono ?_;rintro e w4 ⟨rfl,hb4⟩;have HVR4:=zh (HVR.out.call hb4);clear hb4;have v0:=cell_of_heap HVR4.out.v 0 rfl;have v1:=cell_of_heap HVR4.out.v 1 rfl;have v2:=cell_of_heap HVR4.out.v 2 rfl;have v3:=cell_of_heap HVR4.out.v 3 rfl;have v4:=cell_of_heap HVR4.out.v 4 rfl;have fv:∀ j,w4.frozen? ⟨w.heap.size+1,j,none⟩=false:=fun j=>free_of_heap HVR4.out.v j;have r0:=cell_of_heap HVR4.out.r 0 rfl;have r1:=cell_of_heap HVR4.out.r 1 rfl;have r2:=cell_of_heap HVR4.out.r 2 rfl;have r3:=cell_of_heap HVR4.out.r 3 rfl;have r4:=cell_of_heap HVR4.out.r 4 rfl;have fr:∀ j,w4.frozen? ⟨w.heap.size,j,none⟩=false:=fun j=>free_of_heap HVR4.out.r j))
       have HNV:=zh (HVR4.out.set (Nat.le_succ _) (by omega) 1 (.string ⟨p1.toArray⟩) (.string ⟨p0.toArray⟩) (.string ⟨p1.toArray⟩) (.string ⟨#[]⟩) rfl)
       go_roundw
       case rel=>exact .inr (.inr (.inl ⟨rfl,HH.out.2,HBN1.out.symm,HNV.out⟩))
       case measure=>simp [intOf]
     ·have HVR:=zh hvr
      have HH:Hid (True∧num p0=true∧num p1=true):=zh ⟨trivial,hn0,hn1⟩
      clear hvr hn0 hn1
      have q:wr.cell? ⟨WT.heap.size,2,none⟩=some (.string ⟨p2.toArray⟩):=(World.cell?_of_block (w:=W3) (a:=⟨WT.heap.size,2,none⟩) (HVR.out.rest _ HWT3.out HWTV.out)).trans Q2.out
      cases bn2
      ·have hn:verP s.data.toList=false:=by rw [HVER2.out,←HBN2.out];simp
       have HN:=zh hn
       clear hn
       go_wp2_with (first|(go_at_call 193;refine (K2.out _).mono ?_;rintro e w4 ⟨rfl,hb4⟩;have HVR4:=zh (HVR.out.call hb4);clear hb4;have v0:=cell_of_heap HVR4.out.v 0 rfl;have v1:=cell_of_heap HVR4.out.v 1 rfl;have v2:=cell_of_heap HVR4.out.v 2 rfl;have v3:=cell_of_heap HVR4.out.v 3 rfl;have v4:=cell_of_heap HVR4.out.v 4 rfl;have fv:∀ j,w4.frozen? ⟨w.heap.size+1,j,none⟩=false:=fun j=>free_of_heap HVR4.out.v j;have r0:=cell_of_heap HVR4.out.r 0 rfl;have r1:=cell_of_heap HVR4.out.r 1 rfl;have r2:=cell_of_heap HVR4.out.r 2 rfl;have r3:=cell_of_heap HVR4.out.r 3 rfl;have r4:=cell_of_heap HVR4.out.r 4 rfl;have fr:∀ j,w4.frozen? ⟨w.heap.size,j,none⟩=false:=fun j=>free_of_heap HVR4.out.r j))
       refine bodyPost_ret (results_ver _ _ w.heap.size _ _ _ _ _ _ rfl (set5_heap HVR4.out.r _ _ _ _ _) rfl) rfl ?_
       exact ⟨_,_,_,_,_,_,_,by rw [HN.out];rfl,fun h=>(by rw [HN.out] at h;cases h),set5_below HVR4.out.below (Nat.le_refl _) _ _ _ _ _⟩
      ·go_wp2_with (first|(go_at_call 193;refine (K2.out _).mono ?_;rintro e w4 ⟨rfl,hb4⟩;have HVR4:=zh (HVR.out.call hb4);clear hb4;have v0:=cell_of_heap HVR4.out.v 0 rfl;have v1:=cell_of_heap HVR4.out.v 1 rfl;have v2:=cell_of_heap HVR4.out.v 2 rfl;have v3:=cell_of_heap HVR4.out.v 3 rfl;have v4:=cell_of_heap HVR4.out.v 4 rfl;have fv:∀ j,w4.frozen? ⟨w.heap.size+1,j,none⟩=false:=fun j=>free_of_heap HVR4.out.v j;have r0:=cell_of_heap HVR4.out.r 0 rfl;have r1:=cell_of_heap HVR4.out.r 1 rfl;have r2:=cell_of_heap HVR4.out.r 2 rfl;have r3:=cell_of_heap HVR4.out.r 3 rfl;have r4:=cell_of_heap HVR4.out.r 4 rfl;have fr:∀ j,w4.frozen? ⟨w.heap.size,j,none⟩=false:=fun j=>free_of_heap HVR4.out.r j))
       have HNV:=zh (HVR4.out.set (Nat.le_succ _) (by omega) 2 (.string ⟨p2.toArray⟩) (.string ⟨p0.toArray⟩) (.string ⟨p1.toArray⟩) (.string ⟨p2.toArray⟩) rfl)
       go_roundw
       case rel=>exact .inr (.inr (.inr (⟨rfl,HH.out.2.1,HH.out.2.2,HBN2.out.symm,HNV.out⟩)))
       case measure=>simp [intOf]
     ·have HVR:=zh hvr
      have HH:Hid (num p0=true∧num p1=true∧num p2=true):=zh ⟨hn0,hn1,hn2⟩
      clear hvr hn0 hn1 hn2
      have v0:=cell_of_heap HVR.out.v 0 rfl
      have v1:=cell_of_heap HVR.out.v 1 rfl
      have v2:=cell_of_heap HVR.out.v 2 rfl
      have v3:=cell_of_heap HVR.out.v 3 rfl
      have v4:=cell_of_heap HVR.out.v 4 rfl
      have fv:∀ j,wr.frozen? ⟨w.heap.size+1,j,none⟩=false:=fun j=>free_of_heap HVR.out.v j
      have r0:=cell_of_heap HVR.out.r 0 rfl
      have r1:=cell_of_heap HVR.out.r 1 rfl
      have r2:=cell_of_heap HVR.out.r 2 rfl
      have r3:=cell_of_heap HVR.out.r 3 rfl
      have r4:=cell_of_heap HVR.out.r 4 rfl
      have fr:∀ j,wr.frozen? ⟨w.heap.size,j,none⟩=false:=fun j=>free_of_heap HVR.out.r j
      obtain ⟨b0,hb0⟩:=zg ((p0 == [48]))
      obtain ⟨b1,hb1⟩:=zg ((p0 == [49]))
      have hfin:verP s.data.toList=(!inc || (!b0 && !b1)):=by rw [HVER2.out,HH.out.1,HH.out.2.1,HH.out.2.2,hb0,hb1];rfl
      have HFIN:=zh hfin
      have f0:=hb0.symm
      have f1:=hb1.symm
      clear hb0 hb1 hfin
      cases inc
      ·go_wp2_with fail
       go_region
       go_wp2_with fail
       refine bodyPost_ret (results_ver _ _ w.heap.size _ _ _ _ _ _ rfl (set5_heap HVR.out.r _ _ _ _ _) rfl) rfl ?_
       refine ⟨⟨p0.toArray⟩,⟨p1.toArray⟩,⟨p2.toArray⟩,wa,wn,wc,_,by rw [HFIN.out];rfl,fun _=>⟨?_,HINC.out⟩,?_⟩
       ·show p0=_
        exact HHEAD.out.symm
       ·exact set5_drew HVR.out.below (Nat.le_refl _) _ _ _ _ _
      ·cases b0
       ·cases b1
        ·go_wp2_with fail
         go_region
         go_wp2_with fail
         refine bodyPost_ret (results_ver _ _ w.heap.size _ _ _ _ _ _ rfl (set5_heap HVR.out.r _ _ _ _ _) rfl) rfl ?_
         refine ⟨⟨p0.toArray⟩,⟨p1.toArray⟩,⟨p2.toArray⟩,wa,wn,wc,_,by rw [HFIN.out];rfl,fun _=>⟨?_,HINC.out⟩,?_⟩
         ·show p0=_
          exact HHEAD.out.symm
         ·exact set5_drew HVR.out.below (Nat.le_refl _) _ _ _ _ _
        ·go_wp2_with fail
         go_region
         go_wp2_with fail
         refine bodyPost_ret (results_ver _ _ w.heap.size _ _ _ _ _ _ rfl (set5_heap HVR.out.r _ _ _ _ _) rfl) rfl ?_
         refine ⟨⟨p0.toArray⟩,⟨p1.toArray⟩,⟨p2.toArray⟩,wa,wn,wc,_,by rw [HFIN.out];rfl,fun _=>⟨?_,HINC.out⟩,?_⟩
         ·show p0=_
          exact HHEAD.out.symm
         ·exact set5_drew HVR.out.below (Nat.le_refl _) _ _ _ _ _
       ·go_wp2_with fail
        go_region
        go_wp2_with fail
        refine bodyPost_ret (results_ver _ _ w.heap.size _ _ _ _ _ _ rfl (set5_heap HVR.out.r _ _ _ _ _) rfl) rfl ?_
        refine ⟨⟨p0.toArray⟩,⟨p1.toArray⟩,⟨p2.toArray⟩,wa,wn,wc,_,by rw [HFIN.out];rfl,fun _=>⟨?_,HINC.out⟩,?_⟩
        ·show p0=_
         exact HHEAD.out.symm
        ·exact set5_drew HVR.out.below (Nat.le_refl _) _ _ _ _ _
   ·have n3:((n:Int) != 3)=true:=by simp;omega
    have hn:verP s.data.toList=false:=by
     have:decide ((pcs 46 core).length=3)=false:=by rw [decide_eq_false_iff_not,←HPS.out,←HNL.out];exact h3
     rw [HVER.out,this];simp
    have HN:=zh hn
    have v0:=cell_of_heap HV3.out 0 rfl
    have v1:=cell_of_heap HV3.out 1 rfl
    have v2:=cell_of_heap HV3.out 2 rfl
    have v3:=cell_of_heap HV3.out 3 rfl
    have v4:=cell_of_heap HV3.out 4 rfl
    have r0:=cell_of_heap HR3.out 0 rfl
    have r1:=cell_of_heap HR3.out 1 rfl
    have r2:=cell_of_heap HR3.out 2 rfl
    have r3:=cell_of_heap HR3.out 3 rfl
    have r4:=cell_of_heap HR3.out 4 rfl
    have fr:∀ j,W3.frozen? ⟨w.heap.size,j,none⟩=false:=fun j=>free_of_heap HR3.out j
    clear hn h3
    go_wp2_with fail
    refine bodyPost_ret (results_ver _ _ w.heap.size _ _ _ _ _ _ rfl (set5_heap HR3.out _ _ _ _ _) rfl) rfl ?_
    exact ⟨_,_,_,_,_,_,_,by rw [HN.out];rfl,fun h=>(by rw [HN.out] at h;cases h),set5_below HB3.out (Nat.le_refl _) _ _ _ _ _⟩
set_option maxRecDepth 100000 in
set_option maxHeartbeats 6400000 in
theorem parse_some (s:ByteArray) (w:World) (hsz:s.size≤1048576) (henv:EnvP w) (hcase:(Lib.cut (verRest s.data.toList) [45]).2.2=true) :
  Calls Tryz.prog 131 #[.string s] w (Parsed w s.data.toList):=by
 have HE:=zh henv
 have elen:s.data.toList.length=s.size:=by simp
 have HEL:=zh elen
 obtain ⟨bp,hbp⟩:=zg (Lib.hasPrefix s.data.toList [118])
 have K190:Hid (∀ w,Calls Tryz.prog 190 #[.string s,.string ⟨#[118]⟩] w fun e w'=>e=.returned (.bool bp)∧w=w'):=zh fun w=>by
  rw [hbp];exact (Tryz.strings_HasPrefix s ⟨#[118]⟩ w).mono fun _ _ h=>⟨h.1,h.2.symm⟩
 have HBP:=zh hbp
 have hB2:∀ o1 o2:Obj,Below w.heap.size w ((w.alloc o1).alloc o2):=fun o1 o2=>((Below.refl _ _).alloc (Nat.le_refl _) _).alloc (by simp) _
 have HB2:=zh hB2
 have hR2:∀ o1 o2:Obj,((w.alloc o1).alloc o2).heap[w.heap.size]?=some o1:=fun o1 o2=>by
  rw [heap_alloc_old _ _ (by simp)];exact heap_alloc_new _ _
 have HR2:=zh hR2
 clear henv elen hbp hB2 hR2
 by_cases h1:128<s.size
 ·have g1:(128:Int)<s.size:=by omega
  have hn:verP s.data.toList=false:=by
   have:decide (s.data.toList.length≤128)=false:=by rw [decide_eq_false_iff_not,HEL.out];omega
   simp only [verP,this,Bool.false_and]
  have HN:=zh hn
  clear hn
  go_enter Tryz.func131,Tryz.ntmps131
  go_wp2
  refine bodyPost_ret (results_ver _ _ w.heap.size _ _ _ _ _ _ rfl (HR2.out _ _) rfl) rfl ?_
  exact ⟨_,_,_,_,_,_,_,by rw [HN.out];rfl,fun h=>(by rw [HN.out] at h;cases h),HB2.out _ _⟩
 ·have g1:¬ (128:Int)<s.size:=by omega
  cases bp
  ·have hn:verP s.data.toList=false:=by simp [verP,←HBP.out]
   have HN:=zh hn
   clear hn
   go_enter Tryz.func131,Tryz.ntmps131
   go_wp2_with (first|(go_at_call 190;refine (K190.out _).mono ?_;rintro e w1 ⟨rfl,rfl⟩))
   refine bodyPost_ret (results_ver _ _ w.heap.size _ _ _ _ _ _ rfl (HR2.out _ _) rfl) rfl ?_
   exact ⟨_,_,_,_,_,_,_,by rw [HN.out];rfl,fun h=>(by rw [HN.out] at h;cases h),HB2.out _ _⟩
  ·obtain ⟨S1,hS1⟩:∃ S:ByteArray,S=s.extract 1 s.size:=⟨_,rfl⟩
   have hs1:1≤s.size:=by
    have h2:=HBP.out
    rcases Nat.eq_zero_or_pos s.size with h0|h0
    ·have:s.data.toList=[]:=List.eq_nil_of_length_eq_zero (by rw [HEL.out];exact h0)
     rw [this] at h2
     exact absurd h2 (by decide)
    ·exact h0
   have hs1I:(1:Int)≤s.size:=by omega
   have hS1l:S1.data.toList=s.data.toList.drop 1:=by
    rw [hS1,Lib.extract_eq]
    show ((s.data.toList.drop 1).take (s.size - 1))=_
    exact List.take_of_length_le (by rw [List.length_drop,HEL.out];exact Nat.le_refl _)
   have hS1z:S1.size≤s.size:=by
    have:S1.data.toList.length=S1.size:=by simp
    rw [←this,hS1l,List.length_drop,HEL.out];omega
   have hx:s.extract 1 s.size=S1:=hS1.symm
   obtain ⟨rest,hrest⟩:=zg (verRest s.data.toList)
   obtain ⟨inc,hinc⟩:=zg (verInc s.data.toList)
   have K191:Hid (∀ w,Calls Tryz.prog 191 #[.string S1,.string ⟨#[43,105,110,99,111,109,112,97,116,105,98,108,101]⟩] w fun e w'=>e=.returned (.tuple #[.string ⟨rest.toArray⟩,.bool inc])∧w=w'):=zh fun w=>by
    rw [hrest,hinc,verRest,verInc,←hS1l]
    exact (Tryz.strings_CutSuffix S1 ⟨#[43,105,110,99,111,109,112,97,116,105,98,108,101]⟩ w (by omega)).mono fun _ _ h=>⟨h.1,h.2.symm⟩
   have hrl:rest.length≤s.size:=by
    rw [hrest,verRest,←hS1l]
    unfold Lib.trimSuffix
    have:S1.data.toList.length=S1.size:=by simp
    split
    ·exact Nat.le_trans (List.length_take_le' ..) (by omega)
    ·omega
   obtain ⟨core,hcore⟩:=zg ((Lib.cut rest [45]).1)
   obtain ⟨pre,hpre⟩:=zg ((Lib.cut rest [45]).2.1)
   obtain ⟨has,hhas⟩:=zg ((Lib.cut rest [45]).2.2)
   have hver:verP s.data.toList=((!has || (pcs 46 pre).all wordP) && (decide ((pcs 46 core).length=3) && (pcs 46 core).all num) && (!inc || ((pcs 46 core).headD [] != [48] && (pcs 46 core).headD [] != [49]))):=by
    have:decide (s.data.toList.length≤128)=true:=by rw [decide_eq_true_eq,HEL.out];omega
    rw [hhas,hpre,hcore,hinc,hrest]
    simp only [verP,this,←HBP.out,Bool.true_and,verNums]
    rfl
   have hnums:verNums s.data.toList=pcs 46 core:=by rw [hcore,hrest];rfl
   have K155:Hid (∀ w' (m:Int),w'.cell? ⟨0,0,none⟩=some (.int .i64 m)→Calls Tryz.prog 155 #[.string ⟨rest.toArray⟩,.string ⟨#[45]⟩] w' fun e w''=>e=.returned (.tuple #[.string ⟨core.toArray⟩,.string ⟨pre.toArray⟩,.bool has])∧∃ n,w''=w'.drewN n):=zh fun w' m hm=>by
    rw [hcore,hpre,hhas];exact Tryz.strings_Cut ⟨rest.toArray⟩ ⟨#[45]⟩ m w' (by simp [ByteArray.size];omega) hm
   have hcl:core.length≤s.size∧pre.length≤s.size:=by
    rw [hcore,hpre]
    unfold Lib.cut
    split
    ·exact ⟨Nat.le_trans (List.length_take_le' ..) hrl,Nat.le_trans (by rw [List.length_drop];omega) hrl⟩
    ·exact ⟨hrl,Nat.zero_le _⟩
   have HCL:=zh hcl
   have HVER:=zh hver
   have HNUMS:=zh hnums
   have HINC:=zh hinc
   obtain rfl:has=true:=by rw [hhas,hrest];exact hcase
   clear hcase hS1 hs1 hS1l hS1z hrest hinc hrl hcore hpre hhas hver hnums hcl h1
   go_enter Tryz.func131,Tryz.ntmps131
   go_wp2_with (first|(go_at_call 190;refine (K190.out _).mono ?_;rintro e w1 ⟨rfl,rfl⟩)|(go_at_call 191;refine (K191.out _).mono ?_;rintro e w1 ⟨rfl,rfl⟩))
   obtain ⟨W1,hW1⟩:=zg ((w.alloc (.cells #[.string ⟨#[]⟩,.string ⟨#[]⟩,.string ⟨#[]⟩,.slice none 0 0,.bool false] 240)).alloc (.cells #[.string ⟨#[]⟩,.string ⟨#[]⟩,.string ⟨#[]⟩,.slice none 0 0,.bool inc] 240))
   rw [←hW1]
   have HB1:Hid (Below w.heap.size w W1):=zh (by rw [hW1];exact HB2.out _ _)
   have HV1:Hid (W1.heap[w.heap.size+1]?=some (verObj (.string ⟨#[]⟩) (.string ⟨#[]⟩) (.string ⟨#[]⟩) (.slice none 0 0) (.bool inc))):=zh (by rw [hW1];have:=heap_alloc_new (w.alloc (.cells #[.string ⟨#[]⟩,.string ⟨#[]⟩,.string ⟨#[]⟩,.slice none 0 0,.bool false] 240)) (.cells #[.string ⟨#[]⟩,.string ⟨#[]⟩,.string ⟨#[]⟩,.slice none 0 0,.bool inc] 240);simp only [World.alloc,Array.size_push] at this ⊢;exact this)
   have HR1:Hid (W1.heap[w.heap.size]?=some (verObj (.string ⟨#[]⟩) (.string ⟨#[]⟩) (.string ⟨#[]⟩) (.slice none 0 0) (.bool false))):=zh (by rw [hW1];exact HR2.out _ _)
   obtain ⟨m1,hm1⟩:=(HE.out.still HB1.out).env.maxLen
   have K155':=zh (K155.out W1 m1 hm1)
   clear hW1 hm1
   refine K155'.out.mono ?_
   rintro e W2 ⟨rfl,k2,rfl⟩
   obtain ⟨W2,hW2⟩:=zg (W1.drewN k2)
   have HB2':Hid (Below w.heap.size w W2):=zh (by rw [hW2];exact below_trans HB1.out ⟨rfl,rfl,rfl,Nat.le_refl _,fun _ _=>rfl⟩)
   have HV2:Hid (W2.heap[w.heap.size+1]?=some (verObj (.string ⟨#[]⟩) (.string ⟨#[]⟩) (.string ⟨#[]⟩) (.slice none 0 0) (.bool inc))):=zh (by rw [hW2];exact HV1.out)
   have HRR2:Hid (W2.heap[w.heap.size]?=some (verObj (.string ⟨#[]⟩) (.string ⟨#[]⟩) (.string ⟨#[]⟩) (.slice none 0 0) (.bool false))):=zh (by rw [hW2];exact HR1.out)
   rw [←hW2]
   clear hW2
   obtain ⟨m2,hm2⟩:=(HE.out.still HB2'.out).env.maxLen
   have K95w:=zh (split_any ⟨pre.toArray⟩ 46 m2 W2 (by have:=HCL.out;simp [ByteArray.size];omega) hm2)
   obtain ⟨pw,hpw⟩:=zg (pcs 46 pre)
   obtain ⟨nw,hnw⟩:=zg (pw.length)
   have hKw:Hid (Calls Tryz.prog 95 #[.string ⟨pre.toArray⟩,.string ⟨#[46]⟩] W2 fun e w'=>e=.returned (.slice (some ⟨W2.heap.size,0,none⟩) nw nw)∧w'=W2.alloc (.cells (pw.map fun p=>Value.string ⟨p.toArray⟩).toArray 9)):=zh (by rw [hnw,hpw];exact K95w.out)
   have HPW:=zh hpw
   have HNW:=zh hnw
   have hnwb:nw≤1048577:=by
    rw [hnw,hpw,pcs_length]
    have h1:=List.count_le_length (a:=(46:UInt8)) (l:=pre)
    have:=HCL.out
    omega
   clear hm2 hpw hnw K95w
   go_wp2_with fail
   refine hKw.out.mono ?_
   rintro e W3' ⟨rfl,hW3⟩
   have hRl:w.heap.size<W2.heap.size:=lt_of_heap HRR2.out
   have hVl:w.heap.size+1<W2.heap.size:=lt_of_heap HV2.out
   have hB3:Below w.heap.size w W3':=by rw [hW3];exact below_trans HB2'.out ((Below.refl _ _).alloc (Nat.le_refl _) _)
   have hV3:W3'.heap[w.heap.size+1]?=some (verObj (.string ⟨#[]⟩) (.string ⟨#[]⟩) (.string ⟨#[]⟩) (.slice none 0 0) (.bool inc)):=by rw [hW3,heap_alloc_old _ _ hVl];exact HV2.out
   have hR3:W3'.heap[w.heap.size]?=some (verObj (.string ⟨#[]⟩) (.string ⟨#[]⟩) (.string ⟨#[]⟩) (.slice none 0 0) (.bool false)):=by rw [hW3,heap_alloc_old _ _ hRl];exact HRR2.out
   have hpcw:∀ (j:Nat) p,pw[j]?=some p→W3'.cell? ⟨W2.heap.size,j,none⟩=some (.string ⟨p.toArray⟩):=fun j p hj=>by
    rw [hW3,cell_of_row _ _ _ _ _ _ (heap_alloc_new _ _),List.getElem?_toArray,List.getElem?_map,hj]
    rfl
   have HPCW:=zh hpcw
   have HB3':=zh hB3
   have HV3':=zh hV3
   have HR3':=zh hR3
   have HW2V:Hid (W2.heap.size≠w.heap.size+1):=zh (by omega)
   have v3:=cell_of_heap HV3'.out 3 rfl
   have fv3:=free_of_heap HV3'.out 3
   have v3b:(W3'.setCell ⟨w.heap.size+1,3,none⟩ (.slice (some ⟨W2.heap.size,0,none⟩) nw nw)).cell? ⟨w.heap.size+1,3,none⟩=some (.slice (some ⟨W2.heap.size,0,none⟩) nw nw):=cell_of_heap (heap_setCell_same HV3'.out _) 3 rfl
   clear hW3 hRl hVl hB3 hV3 hR3 hpcw
   go_wp2_with fail
   obtain ⟨WB,hWB⟩:=zg (W3'.setCell ⟨w.heap.size+1,3,none⟩ (.slice (some ⟨W2.heap.size,0,none⟩) nw nw))
   rw [←hWB]
   rw [←hWB] at v3b
   have HBB:Hid (Below w.heap.size w WB):=zh (by rw [hWB];exact HB3'.out.setCell (Nat.le_succ _) _)
   have HVB:Hid (WB.heap[w.heap.size+1]?=some (verObj (.string ⟨#[]⟩) (.string ⟨#[]⟩) (.string ⟨#[]⟩) (.slice (some ⟨W2.heap.size,0,none⟩) nw nw) (.bool inc))):=zh (by rw [hWB,heap_setCell_same HV3'.out];rfl)
   have HRB:Hid (WB.heap[w.heap.size]?=some (verObj (.string ⟨#[]⟩) (.string ⟨#[]⟩) (.string ⟨#[]⟩) (.slice none 0 0) (.bool false))):=zh (by rw [hWB,heap_setCell_other (by omega)];exact HR3'.out)
   have HPB:Hid (∀ (j:Nat) p,pw[j]?=some p→WB.cell? ⟨W2.heap.size,j,none⟩=some (.string ⟨p.toArray⟩)):=zh fun j p hj=>by
    rw [hWB]
    exact (World.cell?_of_block (w:=W3') (a:=⟨W2.heap.size,j,none⟩) (heap_setCell_other HW2V.out _)).trans (HPCW.out j p hj)
   have hnwI:(nw:Int)≤1048577:=by omega
   clear hWB v3 fv3 v3b
   go_loopw [45] (fun i wr=>∃ j:Nat,j≤nw∧i=.int .i64 j∧Below WB.heap.size WB wr∧(pw.take j).all wordP=true) (fun i _=>nw - (intOf i).toNat)
   case atStart=>exact ⟨0,Nat.zero_le _,rfl,Below.refl _ _,rfl⟩
   case round =>
    obtain ⟨j,hj,rfl,hbel,hall⟩:=hrel
    have HBE:=zh hbel
    have HALL:=zh hall
    have hj0:(0:Int)≤j:=by omega
    clear hbel hall
    by_cases hlt:j<nw
    ·have hjI:(j:Int)<nw:=by omega
     obtain ⟨p,hp'⟩:∃ p,pw[j]?=some p:=⟨_,List.getElem?_eq_getElem (by rw [←HNW.out];exact hlt)⟩
     have hpm:p∈pw:=List.mem_of_getElem? hp'
     have c1:=HPB.out j p hp'
     have c2:=(HBE.out.cell (p:=⟨W2.heap.size,j,none⟩) (World.block_lt_of_cell? _ _ c1)).trans c1
     obtain ⟨be,hbe⟩:=zg (wordP p)
     have K192:Hid (∀ w',Calls Tryz.prog 192 #[.string ⟨p.toArray⟩] w' fun e w''=>e=.returned (.bool be)∧Below w'.heap.size w' w''):=zh fun w'=>by rw [hbe];exact isWord_any ⟨p.toArray⟩ w'
     have htk:(pw.take (j+1)).all wordP=be:=by
      have hl:j<pw.length:=by rw [←HNW.out];exact hlt
      have e:pw[j]'hl=p:=by rw [List.getElem?_eq_getElem hl] at hp';exact Option.some.inj hp'
      rw [List.take_succ_eq_append_getElem hl,List.all_append,HALL.out,e,hbe]
      simp
     have HTK:=zh htk
     have hbad:be=false→verP s.data.toList=false:=fun h=>by
      rw [HVER.out]
      have:(pcs 46 pre).all wordP=false:=by
       rw [←HPW.out,List.all_eq_false]
       exact ⟨p,hpm,by rw [←hbe,h];simp⟩
      rw [this];rfl
     have HBAD:=zh hbad
     clear hp' hpm c1 hbe htk hbad
     cases be
     ·go_wp2_with (first|(go_at_call 192;refine (K192.out _).mono ?_;rintro e w4 ⟨rfl,hb4⟩;have hb5:Below WB.heap.size WB w4:=below_trans HBE.out hb4;have HV4:Hid (w4.heap[w.heap.size+1]?=some (verObj (.string ⟨#[]⟩) (.string ⟨#[]⟩) (.string ⟨#[]⟩) (.slice (some ⟨W2.heap.size,0,none⟩) nw nw) (.bool inc))):=zh ((hb5.block _ (lt_of_heap HVB.out)).trans HVB.out);have HR4:Hid (w4.heap[w.heap.size]?=some (verObj (.string ⟨#[]⟩) (.string ⟨#[]⟩) (.string ⟨#[]⟩) (.slice none 0 0) (.bool false))):=zh ((hb5.block _ (lt_of_heap HRB.out)).trans HRB.out);have HB5:=zh (below_trans HBB.out hb5);have v0:=cell_of_heap HV4.out 0 rfl;have v1:=cell_of_heap HV4.out 1 rfl;have v2:=cell_of_heap HV4.out 2 rfl;have v3:=cell_of_heap HV4.out 3 rfl;have v4:=cell_of_heap HV4.out 4 rfl;have r0:=cell_of_heap HR4.out 0 rfl;have r1:=cell_of_heap HR4.out 1 rfl;have r2:=cell_of_heap HR4.out 2 rfl;have r3:=cell_of_heap HR4.out 3 rfl;have r4:=cell_of_heap HR4.out 4 rfl;have fr:∀ j,w4.frozen? ⟨w.heap.size,j,none⟩=false:=fun j=>free_of_heap HR4.out j;clear hb4 hb5))
      refine bodyPost_ret (results_ver _ _ w.heap.size _ _ _ _ _ _ rfl (set5_heap HR4.out _ _ _ _ _) rfl) rfl ?_
      exact ⟨_,_,_,_,_,_,_,by rw [HBAD.out (by trivial)];rfl,fun h=>(by rw [HBAD.out (by trivial)] at h;cases h),set5_below HB5.out (Nat.le_refl _) _ _ _ _ _⟩
     ·go_wp2_with (first|(go_at_call 192;refine (K192.out _).mono ?_;rintro e w4 ⟨rfl,hb4⟩;have HB4:=zh (below_trans HBE.out hb4);clear hb4))
      go_roundw
      case rel=>exact ⟨j+1,by omega,by go_num,HB4.out,HTK.out⟩
      case measure=>simp [intOf];omega
    ·have hjI:¬ (j:Int)<nw:=by omega
     obtain ⟨WT,hWT⟩:=zg (wr)
     rw [←hWT] at HBE
     obtain ⟨wa,hwa⟩:∃ wa:Option Addr,wa=some ⟨W2.heap.size,0,none⟩:=⟨_,rfl⟩
     obtain ⟨wn,hwn⟩:∃ wn:Nat,wn=nw:=⟨_,rfl⟩
     obtain ⟨wc,hwc⟩:∃ wc:Nat,wc=nw:=⟨_,rfl⟩
     have HBT:Hid (Below w.heap.size w WT):=zh (below_trans HBB.out HBE.out)
     have HVT:Hid (WT.heap[w.heap.size+1]?=some (verObj (.string ⟨#[]⟩) (.string ⟨#[]⟩) (.string ⟨#[]⟩) (.slice wa wn wc) (.bool inc))):=zh (by rw [hwa,hwn,hwc];exact (HBE.out.block _ (lt_of_heap HVB.out)).trans HVB.out)
     have HRT:Hid (WT.heap[w.heap.size]?=some (verObj (.string ⟨#[]⟩) (.string ⟨#[]⟩) (.string ⟨#[]⟩) (.slice none 0 0) (.bool false))):=zh ((HBE.out.block _ (lt_of_heap HRB.out)).trans HRB.out)
     have HW:Hid ((!true || (pcs 46 pre).all wordP)=true):=zh (by
      have h1:=HALL.out
      rw [List.take_of_length_le (by rw [←HNW.out];omega)] at h1
      rw [←HPW.out,h1];rfl)
     rw [←hWT]
     clear hWT hwa hwn hwc HALL
     obtain ⟨mt,hmt⟩:=(HE.out.still HBT.out).env.maxLen
     have K95:=zh (split_any ⟨core.toArray⟩ 46 mt WT (by have:=HCL.out;simp [ByteArray.size];omega) hmt)
     obtain ⟨ps,hps⟩:=zg (pcs 46 core)
     obtain ⟨n,hn⟩:=zg (ps.length)
     have hK:Hid (Calls Tryz.prog 95 #[.string ⟨core.toArray⟩,.string ⟨#[46]⟩] WT fun e w'=>e=.returned (.slice (some ⟨WT.heap.size,0,none⟩) n n)∧w'=WT.alloc (.cells (ps.map fun p=>Value.string ⟨p.toArray⟩).toArray 9)):=zh (by rw [hn,hps];exact K95.out)
     have HPS:=zh hps
     have HNL:=zh hn
     have hnb:n≤1048577:=by
      rw [hn,hps,pcs_length]
      have h1:=List.count_le_length (a:=(46:UInt8)) (l:=core)
      have:=HCL.out
      omega
     clear hmt hps hn K95
     go_wp2_with fail
     refine hK.out.mono ?_
     rintro e W3 ⟨rfl,hW3⟩
     have hRl:w.heap.size<WT.heap.size:=lt_of_heap HRT.out
     have hVl:w.heap.size+1<WT.heap.size:=lt_of_heap HVT.out
     have hB3:Below w.heap.size w W3:=by rw [hW3];exact below_trans HBT.out ((Below.refl _ _).alloc (Nat.le_refl _) _)
     have hV3:W3.heap[w.heap.size+1]?=some (verObj (.string ⟨#[]⟩) (.string ⟨#[]⟩) (.string ⟨#[]⟩) (.slice wa wn wc) (.bool inc)):=by rw [hW3,heap_alloc_old _ _ hVl];exact HVT.out
     have hR3:W3.heap[w.heap.size]?=some (verObj (.string ⟨#[]⟩) (.string ⟨#[]⟩) (.string ⟨#[]⟩) (.slice none 0 0) (.bool false)):=by rw [hW3,heap_alloc_old _ _ hRl];exact HRT.out
     have hpc:∀ (j:Nat) p,ps[j]?=some p→W3.cell? ⟨WT.heap.size,j,none⟩=some (.string ⟨p.toArray⟩):=fun j p hj=>by
      rw [hW3,cell_of_row _ _ _ _ _ _ (heap_alloc_new _ _),List.getElem?_toArray,List.getElem?_map,hj]
      rfl
     have HPC:=zh hpc
     have HB3:=zh hB3
     have HV3:=zh hV3
     have HR3:=zh hR3
     clear hW3 hRl hVl hB3 hV3 hR3 hpc
     by_cases h3:n=3
     ·have n3:((n:Int) != 3)=false:=by simp;omega
      obtain ⟨p0,p1,p2,hp⟩:∃ p0 p1 p2,ps=[p0,p1,p2]:=by
       match ps,HNL.out.symm.trans h3 with
       | [p0,p1,p2],_=>exact ⟨p0,p1,p2,rfl⟩
      subst hp
      have hver2:verP s.data.toList=(num p0 && num p1 && num p2 && (!inc || (p0 != [48] && p0 != [49]))):=by
       have hw:=HW.out
       rw [HVER.out,←HPS.out]
       rw [hw]
       simp [Bool.and_assoc]
      have HVER2:=zh hver2
      have hhead:(verNums s.data.toList).headD []=p0:=by rw [HNUMS.out,←HPS.out];rfl
      have HHEAD:=zh hhead
      have hWTV:WT.heap.size≠w.heap.size+1:=by have:=lt_of_heap HVT.out;omega
      have q0:=HPC.out 0 p0 rfl
      have q1:=HPC.out 1 p1 rfl
      have q2:=HPC.out 2 p2 rfl
      have hWT3:WT.heap.size<W3.heap.size:=World.block_lt_of_cell? _ _ q0
      have Q0:=zh q0
      have Q1:=zh q1
      have Q2:=zh q2
      obtain ⟨bn0,hbn0⟩:=zg (num p0)
      have K0:Hid (∀ w,Calls Tryz.prog 193 #[.string ⟨p0.toArray⟩] w fun e w'=>e=.returned (.bool bn0)∧Below w.heap.size w w'):=zh fun w=>by rw [hbn0];exact isNumber_any ⟨p0.toArray⟩ w
      have HBN0:=zh hbn0
      clear hbn0
      obtain ⟨bn1,hbn1⟩:=zg (num p1)
      have K1:Hid (∀ w,Calls Tryz.prog 193 #[.string ⟨p1.toArray⟩] w fun e w'=>e=.returned (.bool bn1)∧Below w.heap.size w w'):=zh fun w=>by rw [hbn1];exact isNumber_any ⟨p1.toArray⟩ w
      have HBN1:=zh hbn1
      clear hbn1
      obtain ⟨bn2,hbn2⟩:=zg (num p2)
      have K2:Hid (∀ w,Calls Tryz.prog 193 #[.string ⟨p2.toArray⟩] w fun e w'=>e=.returned (.bool bn2)∧Below w.heap.size w w'):=zh fun w=>by rw [hbn2];exact isNumber_any ⟨p2.toArray⟩ w
      have HBN2:=zh hbn2
      clear hbn2
      have hst:VR w W3 (w.heap.size+1) w.heap.size (.string ⟨#[]⟩) (.string ⟨#[]⟩) (.string ⟨#[]⟩) (.slice wa wn wc) (.bool inc) W3:=⟨HB3.out,HV3.out,HR3.out,fun _ _ _=>rfl,Nat.le_refl _⟩
      have HST:=zh hst
      have HWTV:=zh hWTV
      have HWT3:=zh hWT3
      subst h3
      clear hver2 hhead hWTV hWT3 hst q0 q1 q2 n3
      go_wp2_with fail
      go_loopw [62] (fun i wr=>(i=.int .i64 0∧VR w W3 (w.heap.size+1) w.heap.size (.string ⟨#[]⟩) (.string ⟨#[]⟩) (.string ⟨#[]⟩) (.slice wa wn wc) (.bool inc) wr)∨(i=.int .i64 1∧num p0=true∧VR w W3 (w.heap.size+1) w.heap.size (.string ⟨p0.toArray⟩) (.string ⟨#[]⟩) (.string ⟨#[]⟩) (.slice wa wn wc) (.bool inc) wr)∨(i=.int .i64 2∧num p0=true∧num p1=true∧VR w W3 (w.heap.size+1) w.heap.size (.string ⟨p0.toArray⟩) (.string ⟨p1.toArray⟩) (.string ⟨#[]⟩) (.slice wa wn wc) (.bool inc) wr)∨(i=.int .i64 3∧num p0=true∧num p1=true∧num p2=true∧VR w W3 (w.heap.size+1) w.heap.size (.string ⟨p0.toArray⟩) (.string ⟨p1.toArray⟩) (.string ⟨p2.toArray⟩) (.slice wa wn wc) (.bool inc) wr)) (fun i _=>3 - (intOf i).toNat)
      case atStart=>exact .inl ⟨rfl,HST.out⟩
      case round =>
       rcases hrel with ⟨rfl,hvr⟩|⟨rfl,hn0,hvr⟩|⟨rfl,hn0,hn1,hvr⟩|⟨rfl,hn0,hn1,hn2,hvr⟩
       ·have HVR:=zh hvr
        have HH:Hid True:=zh trivial
        clear hvr
        have q:wr.cell? ⟨WT.heap.size,0,none⟩=some (.string ⟨p0.toArray⟩):=(World.cell?_of_block (w:=W3) (a:=⟨WT.heap.size,0,none⟩) (HVR.out.rest _ HWT3.out HWTV.out)).trans Q0.out
        cases bn0
        ·have hn:verP s.data.toList=false:=by rw [HVER2.out,←HBN0.out];simp
         have HN:=zh hn
         clear hn
         go_wp2_with (first|(go_at_call 193;refine (K0.out _).mono ?_;rintro e w4 ⟨rfl,hb4⟩;have HVR4:=zh (HVR.out.call hb4);clear hb4;have v0:=cell_of_heap HVR4.out.v 0 rfl;have v1:=cell_of_heap HVR4.out.v 1 rfl;have v2:=cell_of_heap HVR4.out.v 2 rfl;have v3:=cell_of_heap HVR4.out.v 3 rfl;have v4:=cell_of_heap HVR4.out.v 4 rfl;have fv:∀ j,w4.frozen? ⟨w.heap.size+1,j,none⟩=false:=fun j=>free_of_heap HVR4.out.v j;have r0:=cell_of_heap HVR4.out.r 0 rfl;have r1:=cell_of_heap HVR4.out.r 1 rfl;have r2:=cell_of_heap HVR4.out.r 2 rfl;have r3:=cell_of_heap HVR4.out.r 3 rfl;have r4:=cell_of_heap HVR4.out.r 4 rfl;have fr:∀ j,w4.frozen? ⟨w.heap.size,j,none⟩=false:=fun j=>free_of_heap HVR4.out.r j))
         refine bodyPost_ret (results_ver _ _ w.heap.size _ _ _ _ _ _ rfl (set5_heap HVR4.out.r _ _ _ _ _) rfl) rfl ?_
         exact ⟨_,_,_,_,_,_,_,by rw [HN.out];rfl,fun h=>(by rw [HN.out] at h;cases h),set5_below HVR4.out.below (Nat.le_refl _) _ _ _ _ _⟩
        ·go_wp2_with (first|(go_at_call 193;refine (K0.out _).mono ?_;rintro e w4 ⟨rfl,hb4⟩;have HVR4:=zh (HVR.out.call hb4);clear hb4;have v0:=cell_of_heap HVR4.out.v 0 rfl;have v1:=cell_of_heap HVR4.out.v 1 rfl;have v2:=cell_of_heap HVR4.out.v 2 rfl;have v3:=cell_of_heap HVR4.out.v 3 rfl;have v4:=cell_of_heap HVR4.out.v 4 rfl;have fv:∀ j,w4.frozen? ⟨w.heap.size+1,j,none⟩=false:=fun j=>free_of_heap HVR4.out.v j;have r0:=cell_of_heap HVR4.out.r 0 rfl;have r1:=cell_of_heap HVR4.out.r 1 rfl;have r2:=cell_of_heap HVR4.out.r 2 rfl;have r3:=cell_of_heap HVR4.out.r 3 rfl;have r4:=cell_of_heap HVR4.out.r 4 rfl;have fr:∀ j,w4.frozen? ⟨w.heap.size,j,none⟩=false:=fun j=>free_of_heap HVR4.out.r j))
         have HNV:=zh (HVR4.out.set (Nat.le_succ _) (by omega) 0 (.string ⟨p0.toArray⟩) (.string ⟨p0.toArray⟩) (.string ⟨#[]⟩) (.string ⟨#[]⟩) rfl)
         go_roundw
         case rel=>exact .inr (.inl ⟨rfl,HBN0.out.symm,HNV.out⟩)
         case measure=>simp [intOf]
       ·have HVR:=zh hvr
        have HH:Hid (True∧num p0=true):=zh ⟨trivial,hn0⟩
        clear hvr hn0
        have q:wr.cell? ⟨WT.heap.size,1,none⟩=some (.string ⟨p1.toArray⟩):=(World.cell?_of_block (w:=W3) (a:=⟨WT.heap.size,1,none⟩) (HVR.out.rest _ HWT3.out HWTV.out)).trans Q1.out
        cases bn1
        ·have hn:verP s.data.toList=false:=by rw [HVER2.out,←HBN1.out];simp
         have HN:=zh hn
         clear hn
         go_wp2_with (first|(go_at_call 193;refine (K1.out _).mono ?_;rintro e w4 ⟨rfl,hb4⟩;have HVR4:=zh (HVR.out.call hb4);clear hb4;have v0:=cell_of_heap HVR4.out.v 0 rfl;have v1:=cell_of_heap HVR4.out.v 1 rfl;have v2:=cell_of_heap HVR4.out.v 2 rfl;have v3:=cell_of_heap HVR4.out.v 3 rfl;have v4:=cell_of_heap HVR4.out.v 4 rfl;have fv:∀ j,w4.frozen? ⟨w.heap.size+1,j,none⟩=false:=fun j=>free_of_heap HVR4.out.v j;have r0:=cell_of_heap HVR4.out.r 0 rfl;have r1:=cell_of_heap HVR4.out.r 1 rfl;have r2:=cell_of_heap HVR4.out.r 2 rfl;have r3:=cell_of_heap HVR4.out.r 3 rfl;have r4:=cell_of_heap HVR4.out.r 4 rfl;have fr:∀ j,w4.frozen? ⟨w.heap.size,j,none⟩=false:=fun j=>free_of_heap HVR4.out.r j))
         refine bodyPost_ret (results_ver _ _ w.heap.size _ _ _ _ _ _ rfl (set5_heap HVR4.out.r _ _ _ _ _) rfl) rfl ?_
         exact ⟨_,_,_,_,_,_,_,by rw [HN.out];rfl,fun h=>(by rw [HN.out] at h;cases h),set5_below HVR4.out.below (Nat.le_refl _) _ _ _ _ _⟩
        ·go_wp2_with (first|(go_at_call 193;refine (K1.out _).mono ?_;rintro e w4 ⟨rfl,hb4⟩;have HVR4:=zh (HVR.out.call hb4);clear hb4;have v0:=cell_of_heap HVR4.out.v 0 rfl;have v1:=cell_of_heap HVR4.out.v 1 rfl;have v2:=cell_of_heap HVR4.out.v 2 rfl;have v3:=cell_of_heap HVR4.out.v 3 rfl;have v4:=cell_of_heap HVR4.out.v 4 rfl;have fv:∀ j,w4.frozen? ⟨w.heap.size+1,j,none⟩=false:=fun j=>free_of_heap HVR4.out.v j;have r0:=cell_of_heap HVR4.out.r 0 rfl;have r1:=cell_of_heap HVR4.out.r 1 rfl;have r2:=cell_of_heap HVR4.out.r 2 rfl;have r3:=cell_of_heap HVR4.out.r 3 rfl;have r4:=cell_of_heap HVR4.out.r 4 rfl;have fr:∀ j,w4.frozen? ⟨w.heap.size,j,none⟩=false:=fun j=>free_of_heap HVR4.out.r j))
         have HNV:=zh (HVR4.out.set (Nat.le_succ _) (by omega) 1 (.string ⟨p1.toArray⟩) (.string ⟨p0.toArray⟩) (.string ⟨p1.toArray⟩) (.string ⟨#[]⟩) rfl)
         go_roundw
         case rel=>exact .inr (.inr (.inl ⟨rfl,HH.out.2,HBN1.out.symm,HNV.out⟩))
         case measure=>simp [intOf]
       ·have HVR:=zh hvr
        have HH:Hid (True∧num p0=true∧num p1=true):=zh ⟨trivial,hn0,hn1⟩
        clear hvr hn0 hn1
        have q:wr.cell? ⟨WT.heap.size,2,none⟩=some (.string ⟨p2.toArray⟩):=(World.cell?_of_block (w:=W3) (a:=⟨WT.heap.size,2,none⟩) (HVR.out.rest _ HWT3.out HWTV.out)).trans Q2.out
        cases bn2
        ·have hn:verP s.data.toList=false:=by rw [HVER2.out,←HBN2.out];simp
         have HN:=zh hn
         clear hn
         go_wp2_with (first|(go_at_call 193;refine (K2.out _).mono ?_;rintro e w4 ⟨rfl,hb4⟩;have HVR4:=zh (HVR.out.call hb4);clear hb4;have v0:=cell_of_heap HVR4.out.v 0 rfl;have v1:=cell_of_heap HVR4.out.v 1 rfl;have v2:=cell_of_heap HVR4.out.v 2 rfl;have v3:=cell_of_heap HVR4.out.v 3 rfl;have v4:=cell_of_heap HVR4.out.v 4 rfl;have fv:∀ j,w4.frozen? ⟨w.heap.size+1,j,none⟩=false:=fun j=>free_of_heap HVR4.out.v j;have r0:=cell_of_heap HVR4.out.r 0 rfl;have r1:=cell_of_heap HVR4.out.r 1 rfl;have r2:=cell_of_heap HVR4.out.r 2 rfl;have r3:=cell_of_heap HVR4.out.r 3 rfl;have r4:=cell_of_heap HVR4.out.r 4 rfl;have fr:∀ j,w4.frozen? ⟨w.heap.size,j,none⟩=false:=fun j=>free_of_heap HVR4.out.r j))
         refine bodyPost_ret (results_ver _ _ w.heap.size _ _ _ _ _ _ rfl (set5_heap HVR4.out.r _ _ _ _ _) rfl) rfl ?_
         exact ⟨_,_,_,_,_,_,_,by rw [HN.out];rfl,fun h=>(by rw [HN.out] at h;cases h),set5_below HVR4.out.below (Nat.le_refl _) _ _ _ _ _⟩
        ·go_wp2_with (first|(go_at_call 193;refine (K2.out _).mono ?_;rintro e w4 ⟨rfl,hb4⟩;have HVR4:=zh (HVR.out.call hb4);clear hb4;have v0:=cell_of_heap HVR4.out.v 0 rfl;have v1:=cell_of_heap HVR4.out.v 1 rfl;have v2:=cell_of_heap HVR4.out.v 2 rfl;have v3:=cell_of_heap HVR4.out.v 3 rfl;have v4:=cell_of_heap HVR4.out.v 4 rfl;have fv:∀ j,w4.frozen? ⟨w.heap.size+1,j,none⟩=false:=fun j=>free_of_heap HVR4.out.v j;have r0:=cell_of_heap HVR4.out.r 0 rfl;have r1:=cell_of_heap HVR4.out.r 1 rfl;have r2:=cell_of_heap HVR4.out.r 2 rfl;have r3:=cell_of_heap HVR4.out.r 3 rfl;have r4:=cell_of_heap HVR4.out.r 4 rfl;have fr:∀ j,w4.frozen? ⟨w.heap.size,j,none⟩=false:=fun j=>free_of_heap HVR4.out.r j))
         have HNV:=zh (HVR4.out.set (Nat.le_succ _) (by omega) 2 (.string ⟨p2.toArray⟩) (.string ⟨p0.toArray⟩) (.string ⟨p1.toArray⟩) (.string ⟨p2.toArray⟩) rfl)
         go_roundw
         case rel=>exact .inr (.inr (.inr (⟨rfl,HH.out.2.1,HH.out.2.2,HBN2.out.symm,HNV.out⟩)))
         case measure=>simp [intOf]
       ·have HVR:=zh hvr
        have HH:Hid (num p0=true∧num p1=true∧num p2=true):=zh ⟨hn0,hn1,hn2⟩
        clear hvr hn0 hn1 hn2
        have v0:=cell_of_heap HVR.out.v 0 rfl
        have v1:=cell_of_heap HVR.out.v 1 rfl
        have v2:=cell_of_heap HVR.out.v 2 rfl
        have v3:=cell_of_heap HVR.out.v 3 rfl
        have v4:=cell_of_heap HVR.out.v 4 rfl
        have fv:∀ j,wr.frozen? ⟨w.heap.size+1,j,none⟩=false:=fun j=>free_of_heap HVR.out.v j
        have r0:=cell_of_heap HVR.out.r 0 rfl
        have r1:=cell_of_heap HVR.out.r 1 rfl
        have r2:=cell_of_heap HVR.out.r 2 rfl
        have r3:=cell_of_heap HVR.out.r 3 rfl
        have r4:=cell_of_heap HVR.out.r 4 rfl
        have fr:∀ j,wr.frozen? ⟨w.heap.size,j,none⟩=false:=fun j=>free_of_heap HVR.out.r j
        obtain ⟨b0,hb0⟩:=zg ((p0 == [48]))
        obtain ⟨b1,hb1⟩:=zg ((p0 == [49]))
        have hfin:verP s.data.toList=(!inc || (!b0 && !b1)):=by rw [HVER2.out,HH.out.1,HH.out.2.1,HH.out.2.2,hb0,hb1];rfl
        have HFIN:=zh hfin
        have f0:=hb0.symm
        have f1:=hb1.symm
        clear hb0 hb1 hfin
        cases inc
        ·go_wp2_with fail
         go_region
         go_wp2_with fail
         refine bodyPost_ret (results_ver _ _ w.heap.size _ _ _ _ _ _ rfl (set5_heap HVR.out.r _ _ _ _ _) rfl) rfl ?_
         refine ⟨⟨p0.toArray⟩,⟨p1.toArray⟩,⟨p2.toArray⟩,wa,wn,wc,_,by rw [HFIN.out];rfl,fun _=>⟨?_,HINC.out⟩,?_⟩
         ·show p0=_
          exact HHEAD.out.symm
         ·exact set5_drew HVR.out.below (Nat.le_refl _) _ _ _ _ _
        ·cases b0
         ·cases b1
          ·go_wp2_with fail
           go_region
           go_wp2_with fail
           refine bodyPost_ret (results_ver _ _ w.heap.size _ _ _ _ _ _ rfl (set5_heap HVR.out.r _ _ _ _ _) rfl) rfl ?_
           refine ⟨⟨p0.toArray⟩,⟨p1.toArray⟩,⟨p2.toArray⟩,wa,wn,wc,_,by rw [HFIN.out];rfl,fun _=>⟨?_,HINC.out⟩,?_⟩
           ·show p0=_
            exact HHEAD.out.symm
           ·exact set5_drew HVR.out.below (Nat.le_refl _) _ _ _ _ _
          ·go_wp2_with fail
           go_region
           go_wp2_with fail
           refine bodyPost_ret (results_ver _ _ w.heap.size _ _ _ _ _ _ rfl (set5_heap HVR.out.r _ _ _ _ _) rfl) rfl ?_
           refine ⟨⟨p0.toArray⟩,⟨p1.toArray⟩,⟨p2.toArray⟩,wa,wn,wc,_,by rw [HFIN.out];rfl,fun _=>⟨?_,HINC.out⟩,?_⟩
           ·show p0=_
            exact HHEAD.out.symm
           ·exact set5_drew HVR.out.below (Nat.le_refl _) _ _ _ _ _
         ·go_wp2_with fail
          go_region
          go_wp2_with fail
          refine bodyPost_ret (results_ver _ _ w.heap.size _ _ _ _ _ _ rfl (set5_heap HVR.out.r _ _ _ _ _) rfl) rfl ?_
          refine ⟨⟨p0.toArray⟩,⟨p1.toArray⟩,⟨p2.toArray⟩,wa,wn,wc,_,by rw [HFIN.out];rfl,fun _=>⟨?_,HINC.out⟩,?_⟩
          ·show p0=_
           exact HHEAD.out.symm
          ·exact set5_drew HVR.out.below (Nat.le_refl _) _ _ _ _ _
     ·have n3:((n:Int) != 3)=true:=by simp;omega
      have hn:verP s.data.toList=false:=by
       have:decide ((pcs 46 core).length=3)=false:=by rw [decide_eq_false_iff_not,←HPS.out,←HNL.out];exact h3
       rw [HVER.out,this];simp
      have HN:=zh hn
      have v0:=cell_of_heap HV3.out 0 rfl
      have v1:=cell_of_heap HV3.out 1 rfl
      have v2:=cell_of_heap HV3.out 2 rfl
      have v3:=cell_of_heap HV3.out 3 rfl
      have v4:=cell_of_heap HV3.out 4 rfl
      have r0:=cell_of_heap HR3.out 0 rfl
      have r1:=cell_of_heap HR3.out 1 rfl
      have r2:=cell_of_heap HR3.out 2 rfl
      have r3:=cell_of_heap HR3.out 3 rfl
      have r4:=cell_of_heap HR3.out 4 rfl
      have fr:∀ j,W3.frozen? ⟨w.heap.size,j,none⟩=false:=fun j=>free_of_heap HR3.out j
      clear hn h3
      go_wp2_with fail
      refine bodyPost_ret (results_ver _ _ w.heap.size _ _ _ _ _ _ rfl (set5_heap HR3.out _ _ _ _ _) rfl) rfl ?_
      exact ⟨_,_,_,_,_,_,_,by rw [HN.out];rfl,fun h=>(by rw [HN.out] at h;cases h),set5_below HB3.out (Nat.le_refl _) _ _ _ _ _⟩
theorem parse_any (s:ByteArray) (w:World) (hsz:s.size≤1048576) (henv:EnvP w):Calls Tryz.prog 131 #[.string s] w (Parsed w s.data.toList):=by
 cases h:(Lib.cut (verRest s.data.toList) [45]).2.2 with
 | false=>exact parse_none s w hsz henv h
 | true=>exact parse_some s w hsz henv h
def fitsP (mj n0:Bs) (inc:Bool):Bool:=if mj.isEmpty then inc || n0 == [48] || n0 == [49] else !inc && n0 == mj
set_option maxRecDepth 100000 in
set_option maxHeartbeats 1600000 in
theorem fits_any (n0 n1 n2 path:ByteArray) (a:Option Addr) (n c:Nat) (inc:Bool) (w:World) (hsz:path.size≤1048576) (henv:EnvP w) :
  Calls Tryz.prog 132 #[.agg #[.string n0,.string n1,.string n2,.slice a n c,.bool inc],.string path] w fun e w'=>e=.returned (.bool (fitsP (majOf path.data.toList).1 n0.data.toList inc))∧Below w.heap.size w w':=by
 obtain ⟨mj,hmj⟩:=zg ((majOf path.data.toList).1)
 obtain ⟨ok,hok⟩:=zg ((majOf path.data.toList).2)
 have K189:Hid (∀ w',EnvP w'→Calls Tryz.prog 189 #[.string path] w' fun e w''=>e=.returned (.tuple #[.string ⟨mj.toArray⟩,.bool ok])∧Below w'.heap.size w' w''):=zh fun w' h=>by rw [hmj,hok];exact majorOf_any path w' hsz h.env.maxLen
 rw [←hmj]
 have HE:=zh henv
 clear hmj hok henv
 obtain ⟨be,hbe⟩:=zg (mj.isEmpty)
 obtain ⟨b0,hb0⟩:=zg ((n0.toList == [48]))
 obtain ⟨b1,hb1⟩:=zg ((n0.toList == [49]))
 obtain ⟨b2,hb2⟩:=zg ((n0.toList == mj))
 have hres:fitsP mj n0.data.toList inc=(if be then inc || b0 || b1 else !inc && b2):=by
  rw [hbe,hb0,hb1,hb2,ByteArray.toList_eq];rfl
 rw [hres]
 have f0:=hb0.symm
 have f1:=hb1.symm
 have f2:=hb2.symm
 have fe:=hbe.symm
 obtain ⟨W1,hW1⟩:=zg (w.alloc (.cells #[.string n0,.string n1,.string n2,.slice a n c,.bool inc] 240))
 have HB1:Hid (Below w.heap.size w W1):=zh (by rw [hW1];exact (Below.refl _ _).alloc (Nat.le_refl _) _)
 have HX1:Hid (W1.heap[w.heap.size]?=some (.cells #[.string n0,.string n1,.string n2,.slice a n c,.bool inc] 240 (0,0))):=zh (by rw [hW1];exact heap_alloc_new _ _)
 have HE1:Hid (EnvP W1):=zh (HE.out.still HB1.out)
 have HW1:=zh hW1
 clear hb0 hb1 hb2 hbe hres hW1
 cases be <;> cases inc <;> cases b0 <;> cases b1 <;> cases b2
 all_goals go_enter Tryz.func132,Tryz.ntmps132
 all_goals go_wp2_with (first
  | (go_at_call 189;rw [←HW1.out];refine (K189.out _ HE1.out).mono ?_;rintro e w2 ⟨rfl,hb3⟩;have x0:=(hb3.cell (p:=⟨w.heap.size,0,none⟩) (lt_of_heap HX1.out)).trans (cell_of_heap HX1.out 0 rfl);have x4:=(hb3.cell (p:=⟨w.heap.size,4,none⟩) (lt_of_heap HX1.out)).trans (cell_of_heap HX1.out 4 rfl);have HB3:=zh (below_trans HB1.out hb3);clear hb3))
 all_goals go_ret
 all_goals exact ⟨rfl,HB3.out⟩
def checkP (p v:Bs):Int:=if isPathP p then (if verP v && fitsP (majOf p).1 ((verNums v).headD []) (verInc v) then 0 else 111) else 110
set_option maxRecDepth 100000 in
set_option maxHeartbeats 1600000 in
theorem check_any (p v:ByteArray) (w:World) (hp:p.size≤1048576) (hv:v.size≤1048576) (henv:EnvP w) :
  Calls Tryz.prog 83 #[.string p,.string v] w fun e w'=>e=.returned (.int .i64 (checkP p.data.toList v.data.toList))∧Below w.heap.size w w':=by
 obtain ⟨bp,hbp⟩:=zg (isPathP p.data.toList)
 obtain ⟨bv,hbv⟩:=zg (verP v.data.toList)
 have HBP:=zh hbp
 have HBV:=zh hbv
 have HE:=zh henv
 have K130:Hid (Calls Tryz.prog 130 #[.string p] w fun e w''=>e=.returned (.bool bp)∧Below w.heap.size w w''):=zh (by rw [hbp];exact isPath_any p w hp henv)
 have K131:Hid (∀ w',EnvP w'→Calls Tryz.prog 131 #[.string v] w' fun e w''=>∃ (n0 n1 n2:ByteArray) (a:Option Addr) (n c:Nat) (inc:Bool),e=.returned (.tuple #[.agg #[.string n0,.string n1,.string n2,.slice a n c,.bool inc],.bool bv]) ∧
  (bv=true→n0.data.toList=(verNums v.data.toList).headD []∧inc=verInc v.data.toList)∧Below w'.heap.size w' w''):=zh fun w' h=>by rw [hbv];exact parse_any v w' hv h
 have K132:Hid (∀ (n0 n1 n2:ByteArray) (a:Option Addr) (n c:Nat) (inc:Bool) w',EnvP w'→Calls Tryz.prog 132 #[.agg #[.string n0,.string n1,.string n2,.slice a n c,.bool inc],.string p] w' fun e w''=>e=.returned (.bool (fitsP (majOf p.data.toList).1 n0.data.toList inc))∧Below w'.heap.size w' w''):=zh fun n0 n1 n2 a n c inc w' h=>fits_any n0 n1 n2 p a n c inc w' hp h
 clear hbp hbv henv
 cases bp
 ·have hr:checkP p.data.toList v.data.toList=110:=by unfold checkP;rw [←HBP.out];rfl
  have HR:=zh hr
  clear hr
  go_enter Tryz.func83,Tryz.ntmps83
  go_wp2_with (first|(go_at_call 130;refine K130.out.mono ?_;rintro e w2 ⟨rfl,hb⟩;have HB:=zh hb;clear hb))
  go_ret
  exact ⟨by rw [HR.out];rfl,HB.out⟩
 ·go_enter Tryz.func83,Tryz.ntmps83
  go_wp2_with (first|(go_at_call 130;refine K130.out.mono ?_;rintro e w2 ⟨rfl,hb⟩;have HB:=zh hb;clear hb))
  refine (K131.out _ (HE.out.still HB.out)).mono ?_
  rintro e w3 ⟨n0,n1,n2,a,n,c,inc,rfl,hq,hb3⟩
  have HQ:=zh hq
  have HB3:=zh (below_trans HB.out hb3)
  clear hq hb3
  cases bv
  ·have hr:checkP p.data.toList v.data.toList=111:=by unfold checkP;rw [←HBP.out,←HBV.out];rfl
   have HR:=zh hr
   clear hr
   go_wp2_with fail
   go_ret
   exact ⟨by rw [HR.out];rfl,HB3.out.alloc (HB3.out.size) _⟩
  ·obtain ⟨bf,hbf⟩:=zg (fitsP (majOf p.data.toList).1 n0.data.toList inc)
   have hr:checkP p.data.toList v.data.toList=if bf then 0 else 111:=by
    obtain ⟨q1,q2⟩:=HQ.out rfl
    unfold checkP
    rw [←HBP.out,←HBV.out,if_pos rfl,←q1,←q2,←hbf]
    rfl
   have HR:=zh hr
   have K132':Hid (∀ w',EnvP w'→Calls Tryz.prog 132 #[.agg #[.string n0,.string n1,.string n2,.slice a n c,.bool inc],.string p] w' fun e w''=>e=.returned (.bool bf)∧Below w'.heap.size w' w''):=zh fun w' h=>by rw [hbf];exact K132.out n0 n1 n2 a n c inc w' h
   clear hbf hr
   have HB4:Hid (∀ o,Below w.heap.size w (w3.alloc o)):=zh fun o=>HB3.out.alloc HB3.out.size _
   cases bf
   ·go_wp2_with (first|(go_at_call 132;refine (K132'.out _ (HE.out.still (HB4.out _))).mono ?_;rintro e w5 ⟨rfl,hb⟩;have HB5:=zh (below_trans (HB4.out _) hb);clear hb))
    go_ret
    exact ⟨by rw [HR.out];rfl,HB5.out⟩
   ·go_wp2_with (first|(go_at_call 132;refine (K132'.out _ (HE.out.still (HB4.out _))).mono ?_;rintro e w5 ⟨rfl,hb⟩;have HB5:=zh (below_trans (HB4.out _) hb);clear hb))
    go_ret
    exact ⟨by rw [HR.out];rfl,HB5.out⟩
def wordsP (l:Bs):Bool:=decide ((pcs 32 l).length=3) && (pcs 32 l).all (fun p=>!p.isEmpty)
def Worded (w:World) (l:Bs) (e:Ending) (w':World):Prop :=
 ∃ (x0 x1 x2:ByteArray),e=.returned (.tuple #[.agg #[.string x0,.string x1,.string x2],.bool (wordsP l)])∧(wordsP l=true→pcs 32 l=[x0.data.toList,x1.data.toList,x2.data.toList])∧Below w.heap.size w w'
theorem results_words (tmps:Array Value) (w:World) (b:Nat) (v0 v1 v2 u:Value) (hp:tmps.getD 2 undef=.pointer (some ⟨b,0,none⟩)) (hc:w.heap[b]?=some (.cells #[v0,v1,v2] 187 (0,0))) (hu:tmps.getD 3 undef=u) :
  (results Tryz.f96 tmps).run Tryz.prog w=.ok (.tuple #[.agg #[v0,v1,v2],u]) w:=by
 rw [results_cell_tmp (fn:=Tryz.f96) (p:=2) (u:=3) (ty:=187) rfl,hp,hu]
 simp only [asAddr,Sem.run_pure,Result.andThen]
 rw [run_loadVar_row w b 187 187 #[v0,v1,v2] (0,0) _ hc Tryz.underlying187 rfl (by kernel_rfl)]
def set3 (W:World) (R:Nat) (v0 v1 v2:Value):World:=((W.setCell ⟨R,0,none⟩ v0).setCell ⟨R,1,none⟩ v1).setCell ⟨R,2,none⟩ v2
theorem set3_heap {W:World} {R:Nat} {x0 x1 x2:Value} {t:TypeId} (h:W.heap[R]?=some (.cells #[x0,x1,x2] t (0,0))) (v0 v1 v2:Value):(set3 W R v0 v1 v2).heap[R]?=some (.cells #[v0,v1,v2] t (0,0)):=by
 have h0:=heap_setCell_same (j:=0) h v0
 have h1:=heap_setCell_same (j:=1) h0 v1
 have h2:=heap_setCell_same (j:=2) h1 v2
 exact h2
theorem set3_below {a W:World} {R:Nat} (h:Below a.heap.size a W) (hR:a.heap.size≤R) (v0 v1 v2:Value):Below a.heap.size a (set3 W R v0 v1 v2) :=
 ((h.setCell hR _).setCell hR _).setCell hR _
set_option maxRecDepth 100000 in
set_option maxHeartbeats 1600000 in
theorem lineWords_any (s:ByteArray) (w:World) (hsz:s.size≤1048576) (hm:∃ m:Int,w.cell? ⟨0,0,none⟩=some (.int .i64 m)) :
  Calls Tryz.prog 96 #[.string s] w (Worded w s.data.toList):=by
 obtain ⟨m,hm0⟩:=hm
 obtain ⟨ps,hps⟩:=zg (pcs 32 s.data.toList)
 obtain ⟨n,hn⟩:=zg (ps.length)
 have K95:Hid (∀ w' (m:Int),w'.cell? ⟨0,0,none⟩=some (.int .i64 m)→Calls Tryz.prog 95 #[.string s,.string ⟨#[32]⟩] w' fun e w''=>e=.returned (.slice (some ⟨w'.heap.size,0,none⟩) n n)∧w''=w'.alloc (.cells (ps.map fun p=>Value.string ⟨p.toArray⟩).toArray 9)):=zh fun w' m h=>by
  rw [hn,hps];exact split_any s 32 m w' (by omega) h
 have HPS:=zh hps
 have HN:=zh hn
 have HM:=zh hm0
 have hnb:n≤1048577:=by
  rw [hn,hps,pcs_length]
  have h1:=List.count_le_length (a:=(32:UInt8)) (l:=s.data.toList)
  have:s.data.toList.length=s.size:=by simp
  omega
 clear hps hn hm0
 go_enter Tryz.func96,Tryz.ntmps96
 go_wp2_with fail
 obtain ⟨W1,hW1⟩:=zg (w.alloc (.cells #[.string ⟨#[]⟩,.string ⟨#[]⟩,.string ⟨#[]⟩] 187))
 rw [←hW1]
 have HB1:Hid (Below w.heap.size w W1):=zh (by rw [hW1];exact (Below.refl _ _).alloc (Nat.le_refl _) _)
 have HR1:Hid (W1.heap[w.heap.size]?=some (.cells #[.string ⟨#[]⟩,.string ⟨#[]⟩,.string ⟨#[]⟩] 187 (0,0))):=zh (by rw [hW1];exact heap_alloc_new _ _)
 have hm1:W1.cell? ⟨0,0,none⟩=some (.int .i64 m):=(HB1.out.cell (World.block_lt_of_cell? _ _ HM.out)).trans HM.out
 have K:=zh (K95.out W1 m hm1)
 clear hW1 hm1
 refine K.out.mono ?_
 rintro e W2 ⟨rfl,hW2⟩
 have hRl:=lt_of_heap HR1.out
 have HR2:Hid (W2.heap[w.heap.size]?=some (.cells #[.string ⟨#[]⟩,.string ⟨#[]⟩,.string ⟨#[]⟩] 187 (0,0))):=zh (by rw [hW2,heap_alloc_old _ _ hRl];exact HR1.out)
 have HB2:Hid (Below w.heap.size w W2):=zh (by rw [hW2];exact below_trans HB1.out ((Below.refl _ _).alloc (Nat.le_refl _) _))
 have hpc:∀ (j:Nat) p,ps[j]?=some p→W2.cell? ⟨W1.heap.size,j,none⟩=some (.string ⟨p.toArray⟩):=fun j p hj=>by
  rw [hW2,cell_of_row _ _ _ _ _ _ (heap_alloc_new _ _),List.getElem?_toArray,List.getElem?_map,hj]
  rfl
 have HPC:=zh hpc
 have r0:=cell_of_heap HR2.out 0 rfl
 have r1:=cell_of_heap HR2.out 1 rfl
 have r2:=cell_of_heap HR2.out 2 rfl
 have fr:∀ j,W2.frozen? ⟨w.heap.size,j,none⟩=false:=fun j=>free_of_heap HR2.out j
 clear hW2 hRl hpc
 by_cases h3:n=3
 ·have n3:((n:Int) != 3)=false:=by simp;omega
  obtain ⟨p0,p1,p2,hp⟩:∃ p0 p1 p2,ps=[p0,p1,p2]:=by
   match ps,HN.out.symm.trans h3 with
   | [p0,p1,p2],_=>exact ⟨p0,p1,p2,rfl⟩
  subst hp
  have q0:=HPC.out 0 p0 rfl
  have q1:=HPC.out 1 p1 rfl
  have q2:=HPC.out 2 p2 rfl
  obtain ⟨e0,he0⟩:=zg (p0.isEmpty)
  obtain ⟨e1,he1⟩:=zg (p1.isEmpty)
  obtain ⟨e2,he2⟩:=zg (p2.isEmpty)
  have hr:wordsP s.data.toList=(!e0 && !e1 && !e2):=by
   rw [he0,he1,he2,wordsP,←HPS.out];simp [Bool.and_assoc]
  have HRS:=zh hr
  have f0:=he0.symm
  have f1:=he1.symm
  have f2:=he2.symm
  subst h3
  clear he0 he1 he2 hr n3
  by_cases hee:(!e0 && !e1 && !e2)=true
  ·obtain ⟨rfl,rfl,rfl⟩:e0=false∧e1=false∧e2=false:=by cases e0 <;> cases e1 <;> cases e2 <;> simp_all
   have hok:wordsP s.data.toList=true:=HRS.out
   have HOK:=zh hok
   have harr:(Instr.arrayAt 187 (.slice (some ⟨W1.heap.size,0,none⟩) 3 3)).run Tryz.prog W2=.ok (.pointer (some ⟨W1.heap.size,0,none⟩)) W2:=by
    simp [Instr.arrayAt,go_sem]
   clear hee hok
   go_wp2_with fail
   refine bodyPost_ret (results_words _ _ w.heap.size _ _ _ _ rfl (set3_heap HR2.out _ _ _) rfl) rfl ?_
   refine ⟨⟨p0.toArray⟩,⟨p1.toArray⟩,⟨p2.toArray⟩,by rw [HOK.out];rfl,fun _=>HPS.out.symm,set3_below HB2.out (Nat.le_refl _) _ _ _⟩
  ·have hr2:wordsP s.data.toList=false:=by rw [HRS.out];simpa using hee
   have HR3:=zh hr2
   clear hr2
   cases e0 <;> cases e1 <;> cases e2 <;> first|(exact absurd rfl hee)|skip
   all_goals clear hee
   all_goals go_wp2_with fail
   all_goals refine bodyPost_ret (results_words _ _ w.heap.size _ _ _ _ rfl (set3_heap HR2.out _ _ _) rfl) rfl ?_
   all_goals exact ⟨_,_,_,by rw [HR3.out];rfl,fun h=>(by rw [HR3.out] at h;cases h),set3_below HB2.out (Nat.le_refl _) _ _ _⟩
 ·have n3:((n:Int) != 3)=true:=by simp;omega
  have hr:wordsP s.data.toList=false:=by
   have:decide ((pcs 32 s.data.toList).length=3)=false:=by rw [decide_eq_false_iff_not,←HPS.out,←HN.out];exact h3
   simp [wordsP,this]
  have HRS:=zh hr
  clear hr h3
  go_wp2_with fail
  refine bodyPost_ret (results_words _ _ w.heap.size _ _ _ _ rfl (set3_heap HR2.out _ _ _) rfl) rfl ?_
  exact ⟨_,_,_,by rw [HRS.out];rfl,fun h=>(by rw [HRS.out] at h;cases h),set3_below HB2.out (Nat.le_refl _) _ _ _⟩
def b64 (c:Nat):Int:=if 65≤c∧c≤90 then c - 65 else if 97≤c∧c≤122 then c - 71 else if 48≤c∧c≤57 then c+4 else if c=43 then 62 else if c=47 then 63 else -1
theorem b64_range (c:Nat):-1≤b64 c∧b64 c≤63:=by
 unfold b64
 repeat' split
 all_goals omega
theorem u8_in (x:Int) (h0:0≤x) (h1:x<256):IntKind.u8.wrap x=x:=by
 simp only [IntKind.wrap,IntKind.bits,IntKind.signed]
 simp
 omega
theorem value_any (c:Nat) (hc:c<256) (w:World):Calls Tryz.prog 201 #[.int .u8 c] w fun e w'=>e=.returned (.int .i64 (b64 c))∧w=w':=by
 by_cases h1:65≤c∧c≤90
 ·have e:b64 c=(c:Int) - 65:=by unfold b64;rw [if_pos h1]
  have hw:IntKind.u8.wrap ((c:Int) - 65)=(c:Int) - 65:=u8_in _ (by omega) (by omega)
  have hw2:IntKind.i64.wrap ((c:Int) - 65)=(c:Int) - 65:=IntWalk.i64_in _ (by omega)
  have g1:(65:Int)≤c:=by omega
  have g2:(c:Int)≤90:=by omega
  rw [e]
  clear h1 e
  go_enter Tryz.func201,Tryz.ntmps201
  go_wp2
  go_ret
  exact ⟨rfl,rfl⟩
 ·have a1:decide ((65:Int)≤c)=false∨(decide ((65:Int)≤c)=true∧decide ((c:Int)≤90)=false):=by
   simp only [decide_eq_false_iff_not,decide_eq_true_eq];omega
  by_cases h2:97≤c∧c≤122
  ·have e:b64 c=(c:Int) - 97+26:=by unfold b64;rw [if_neg h1,if_pos h2];omega
   have hw:IntKind.u8.wrap ((c:Int) - 97)=(c:Int) - 97:=u8_in _ (by omega) (by omega)
   have hw2:IntKind.i64.wrap ((c:Int) - 97)=(c:Int) - 97:=IntWalk.i64_in _ (by omega)
   have hw3:IntKind.i64.wrap ((c:Int) - 97+26)=(c:Int) - 97+26:=IntWalk.i64_in _ (by omega)
   have g1:(97:Int)≤c:=by omega
   have g2:(c:Int)≤122:=by omega
   have g3:¬ (c:Int)≤90:=by omega
   have g4:(65:Int)≤c:=by omega
   rw [e]
   clear h1 h2 e a1
   go_enter Tryz.func201,Tryz.ntmps201
   go_wp2
   go_ret
   exact ⟨rfl,rfl⟩
  ·by_cases h3:48≤c∧c≤57
   ·have e:b64 c=(c:Int) - 48+52:=by unfold b64;rw [if_neg h1,if_neg h2,if_pos h3];omega
    have hw:IntKind.u8.wrap ((c:Int) - 48)=(c:Int) - 48:=u8_in _ (by omega) (by omega)
    have hw2:IntKind.i64.wrap ((c:Int) - 48)=(c:Int) - 48:=IntWalk.i64_in _ (by omega)
    have hw3:IntKind.i64.wrap ((c:Int) - 48+52)=(c:Int) - 48+52:=IntWalk.i64_in _ (by omega)
    have g1:(48:Int)≤c:=by omega
    have g2:(c:Int)≤57:=by omega
    have g3:¬ (65:Int)≤c:=by omega
    have g4:¬ (97:Int)≤c:=by omega
    rw [e]
    clear h1 h2 h3 e a1
    go_enter Tryz.func201,Tryz.ntmps201
    go_wp2
    go_ret
    exact ⟨rfl,rfl⟩
   ·by_cases h4:c=43
    ·subst h4
     go_enter Tryz.func201,Tryz.ntmps201
     go_wp2
     go_ret
     exact ⟨rfl,rfl⟩
    ·by_cases h5:c=47
     ·subst h5
      go_enter Tryz.func201,Tryz.ntmps201
      go_wp2
      go_ret
      exact ⟨rfl,rfl⟩
     ·have e:b64 c=-1:=by unfold b64;rw [if_neg h1,if_neg h2,if_neg h3,if_neg h4,if_neg h5]
      rw [e]
      have e1:((c:Int) == 43)=false:=by simp;omega
      have e2:((c:Int) == 47)=false:=by simp;omega
      by_cases k1:(65:Int)≤c
      ·have k2:¬ (c:Int)≤90:=by omega
       by_cases k3:(97:Int)≤c
       ·have k4:¬ (c:Int)≤122:=by omega
        have k5:(48:Int)≤c:=by omega
        have k6:¬ (c:Int)≤57:=by omega
        clear h1 h2 h3 h4 h5 a1 e
        go_enter Tryz.func201,Tryz.ntmps201
        go_wp2
        go_ret
        exact ⟨rfl,rfl⟩
       ·have k5:(48:Int)≤c:=by omega
        have k6:¬ (c:Int)≤57:=by omega
        clear h1 h2 h3 h4 h5 a1 e
        go_enter Tryz.func201,Tryz.ntmps201
        go_wp2
        go_ret
        exact ⟨rfl,rfl⟩
      ·have k3:¬ (97:Int)≤c:=by omega
       by_cases k5:(48:Int)≤c
       ·have k6:¬ (c:Int)≤57:=by omega
        clear h1 h2 h3 h4 h5 a1 e
        go_enter Tryz.func201,Tryz.ntmps201
        go_wp2
        go_ret
        exact ⟨rfl,rfl⟩
       ·clear h1 h2 h3 h4 h5 a1 e
        go_enter Tryz.func201,Tryz.ntmps201
        go_wp2
        go_ret
        exact ⟨rfl,rfl⟩
end Go.Proofs.YtdfdikpklddnhaaGreatDoor
