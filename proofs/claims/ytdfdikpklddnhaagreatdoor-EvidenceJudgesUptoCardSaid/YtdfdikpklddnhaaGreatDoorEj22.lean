/- Of the proof of EvidenceJudges, second form: for values of bulk at most 1048576. (Ej22) -/
import Derived.Test.YtdfdikpklddnhaaGreatDoorEj01
import Derived.Test.YtdfdikpklddnhaaGreatDoorEj21
import Derived.Laws.CopyOwn
import Derived.Laws.Cover3
namespace Go.Proofs.YtdfdikpklddnhaaGreatDoor
open Go.RowKit
def sumP (l:Bs):Option Bs:=if Lib.hasPrefix l [104,49,58]=true then (dec64 (l.drop 3)).bind (fun o=>if o.length=32 then some o else none) else none
def z32:Array Value:=#[.int .u8 0,.int .u8 0,.int .u8 0,.int .u8 0,.int .u8 0,.int .u8 0,.int .u8 0,.int .u8 0,.int .u8 0,.int .u8 0,.int .u8 0,.int .u8 0,.int .u8 0,.int .u8 0,.int .u8 0,.int .u8 0,.int .u8 0,.int .u8 0,.int .u8 0,.int .u8 0,.int .u8 0,.int .u8 0,.int .u8 0,.int .u8 0,.int .u8 0,.int .u8 0,.int .u8 0,.int .u8 0,.int .u8 0,.int .u8 0,.int .u8 0,.int .u8 0]
theorem z32_one:z32.all (·.oneCell')=true:=by kernel_rfl
theorem z32_size:z32.size=32:=by kernel_rfl
theorem z32_info:(Tryz.prog.info? 27).map (·.size)=some z32.size:=by kernel_rfl
theorem results_sum (tmps:Array Value) (w:World) (b:Nat) (cs:Array Value) (u:Value) (hp:tmps.getD 2 undef=.pointer (some ⟨b,0,none⟩)) (hc:w.heap[b]?=some (.cells cs 27 (0,0))) (hs:cs.size=32) (hu:tmps.getD 3 undef=u) :
  (results Tryz.f97 tmps).run Tryz.prog w=.ok (.tuple #[.agg cs,u]) w:=by
 have hi:(Tryz.prog.info? 27).map (·.size)=some cs.size:=by rw [hs];kernel_rfl
 rw [results_cell_tmp (fn:=Tryz.f97) (p:=2) (u:=3) (ty:=27) rfl,hp,hu]
 simp only [asAddr,Sem.run_pure,Result.andThen]
 rw [run_loadVar_row w b 27 27 cs (0,0) _ hc Tryz.underlying27 rfl hi]
theorem all_oneCell_bytes (l:Bs):(l.map byteV).toArray.all (·.oneCell')=true:=by
 rw [Array.all_eq_true]
 intro i hi
 simp [byteV,Value.oneCell']
def Summed (w:World) (l:Bs) (e:Ending) (w':World):Prop :=
 Below w.heap.size w w'∧∃ (cs:Array Value) (er:Int),e=.returned (.tuple #[.agg cs,.int .i64 er])∧cs.size=32∧cs.all (·.oneCell')=true∧((sumP l).isSome=true↔er=0)
set_option maxRecDepth 100000 in
set_option maxHeartbeats 1600000 in
theorem sum_any (s:ByteArray) (w:World) (hsz:s.size≤1048576):Calls Tryz.prog 97 #[.string s] w (Summed w s.data.toList):=by
 obtain ⟨l,hl⟩:=zg (Lib.trimPrefix s.data.toList [104,49,58])
 obtain ⟨b,hb⟩:=zg (Lib.hasPrefix s.data.toList [104,49,58])
 have hln:l.length≤1048576:=by
  have elen:s.data.toList.length=s.size:=by simp
  rw [hl];unfold Lib.trimPrefix;split
  ·rw [List.length_drop];omega
  ·omega
 have K1:Hid (∀ w,Calls Tryz.prog 143 #[.string s,.string ⟨#[104,49,58]⟩] w fun e w'=>e=.returned (.tuple #[.string ⟨l.toArray⟩,.bool b])∧w=w'):=zh fun w=>by
  rw [hl,hb];exact (Tryz.strings_CutPrefix s ⟨#[104,49,58]⟩ w).mono fun _ _ h=>⟨h.1,h.2.symm⟩
 have K2:Hid (∀ w,Calls Tryz.prog 144 #[.string ⟨l.toArray⟩] w (Decoded w l)):=zh fun w=>by
  have:=decode_any ⟨l.toArray⟩ w (by simpa [ByteArray.size] using hln)
  simpa using this
 have hsum:sumP s.data.toList=if b=true then (dec64 l).bind (fun o=>if o.length=32 then some o else none) else none:=by
  unfold sumP
  rw [←hb]
  cases b
  ·rfl
  ·rw [hl];unfold Lib.trimPrefix;rw [if_pos hb.symm];rfl
 have HS:=zh hsum
 clear hl hb hln hsum
 go_enter Tryz.func97,Tryz.ntmps97
 go_wp2_with fail
 generalize hW1:w.alloc _=W1
 have HB1:Hid (Below w.heap.size w W1):=zh (by rw [←hW1];exact (Below.refl _ _).alloc (Nat.le_refl _) _)
 have HR1:Hid (W1.heap[w.heap.size]?=some (.cells z32 27 (0,0))):=zh (by rw [←hW1];exact heap_alloc_new _ _)
 clear hW1
 refine (K1.out _).mono ?_
 rintro e w2 ⟨rfl,rfl⟩
 cases b
 ·have hn:sumP s.data.toList=none:=HS.out
  have HN:=zh hn
  clear hn
  go_wp2_with (first|(refine wpList_store_row rfl 27 _ _ rfl w.heap.size z32 rfl rfl 27 z32 HR1.out z32_info rfl z32_one ?_))
  refine bodyPost_ret (results_sum _ _ w.heap.size z32 (.int .i64 114) rfl (setRow_heap _ _ _ _ _ _ HR1.out) rfl rfl) rfl ?_
  exact ⟨below_setRow HB1.out (Nat.le_refl _) _,z32,114,rfl,z32_size,z32_one,by rw [HN.out];simp⟩
 ·go_wp2_with fail
  refine (K2.out _).mono ?_
  rintro e W2 ⟨hB2,hd⟩
  have hW1s:w.heap.size<W1.heap.size:=lt_of_heap HR1.out
  have HR2:Hid (W2.heap[w.heap.size]?=some (.cells z32 27 (0,0))):=zh ((hB2.block _ hW1s).trans HR1.out)
  have HB2:Hid (Below w.heap.size w W2):=zh (HB1.out.trans (hB2.mono (Nat.le_of_lt hW1s)))
  clear hB2
  cases hdec:dec64 l with
  | none =>
   rw [hdec] at hd
   obtain ⟨er,her,rfl⟩:=hd
   have hn:sumP s.data.toList=none:=by rw [HS.out,hdec];rfl
   have HN:=zh hn
   have g1:((er:Int) != 0)=true:=by simpa using her
   clear hn hdec her hW1s
   go_wp2_with (first|(refine wpList_store_row rfl 27 _ _ rfl w.heap.size z32 rfl rfl 27 z32 HR2.out z32_info rfl z32_one ?_))
   refine bodyPost_ret (results_sum _ _ w.heap.size z32 (.int .i64 114) rfl (setRow_heap _ _ _ _ _ _ HR2.out) rfl rfl) rfl ?_
   exact ⟨below_setRow HB2.out (Nat.le_refl _) _,z32,114,rfl,z32_size,z32_one,by rw [HN.out];simp⟩
  | some out =>
   rw [hdec] at hd
   obtain ⟨v,rfl,hown,hnn⟩:=hd
   obtain ⟨hlen,hv⟩:=hown
   rcases hv with ⟨rfl,_⟩|⟨g,cap,cur,rfl,hbg,hgg,hnc,hcm,hcs,htk⟩
   ·exact absurd rfl hnn
   ·have hcells:∀ j u,(out.map byteV)[j]?=some u→W2.cell? ⟨g,j,none⟩=some u:=fun j u hu=>by
     rw [cell_of_row _ _ _ _ _ _ hgg]
     rw [←htk,List.getElem?_take] at hu
     split at hu
     ·simpa using hu
     ·cases hu
    have HC:=zh hcells
    obtain ⟨n,hn⟩:=zg (out.length)
    rw [←hn]
    by_cases h32:n=32
    ·have hsm:(sumP s.data.toList).isSome=true:=by rw [HS.out,hdec];simp [←hn,h32]
     have HSM:=zh hsm
     have hsz32:(out.map byteV).toArray.size=32:=by simp [←hn,h32]
     have HSZ:=zh hsz32
     have hone:(out.map byteV).toArray.all (·.oneCell')=true:=all_oneCell_bytes out
     have HONE:=zh hone
     subst h32
     obtain ⟨cs,hcs⟩:=zg (out.map byteV)
     rw [←hcs] at HC HSZ HONE
     have HCL:Hid (cs.length=32):=zh (by simpa using HSZ.out)
     have g1:((32:Int) != 32)=false:=rfl
     have hat:(Instr.arrayAt 27 (.slice (some ⟨g,0,none⟩) 32 cap)).run Tryz.prog W2=.ok (.pointer (some ⟨g,0,none⟩)) W2:=run_arrayAt W2 27 _ 32 _ 32 cap Tryz.underlying27 (Nat.le_refl _)
     clear hcells hn hsm hsz32 hone hdec hlen hbg hgg hnc hcm hcs htk hnn hW1s
     go_wp2_with (first
      | (refine wpList_load_cells rfl 27 _ rfl g rfl cs _ HC.out Tryz.underlying27 rfl (by rw [HCL.out];kernel_rfl) ?_)
      | (refine wpList_store_row rfl 27 _ _ rfl w.heap.size cs.toArray rfl rfl 27 z32 HR2.out (by rw [HSZ.out];kernel_rfl) (by rw [HSZ.out];rfl) HONE.out ?_))
     refine bodyPost_ret (results_sum _ _ w.heap.size cs.toArray (.int .i64 0) rfl (setRow_heap _ _ _ _ _ _ HR2.out) HSZ.out rfl) rfl ?_
     exact ⟨below_setRow HB2.out (Nat.le_refl _) _,cs.toArray,0,rfl,HSZ.out,HONE.out,by rw [HSM.out];simp⟩
    ·have hn2:sumP s.data.toList=none:=by rw [HS.out,hdec];simp [←hn,h32]
     have HN:=zh hn2
     have g1:((n:Int) != 32)=true:=by simp;omega
     clear hcells hn hn2 hdec hlen hbg hgg hnc hcm hcs htk hnn hW1s h32
     go_wp2_with (first|(refine wpList_store_row rfl 27 _ _ rfl w.heap.size z32 rfl rfl 27 z32 HR2.out z32_info rfl z32_one ?_))
     refine bodyPost_ret (results_sum _ _ w.heap.size z32 (.int .i64 114) rfl (setRow_heap _ _ _ _ _ _ HR2.out) rfl rfl) rfl ?_
     exact ⟨below_setRow HB2.out (Nat.le_refl _) _,z32,114,rfl,z32_size,z32_one,by rw [HN.out];simp⟩
end Go.Proofs.YtdfdikpklddnhaaGreatDoor
