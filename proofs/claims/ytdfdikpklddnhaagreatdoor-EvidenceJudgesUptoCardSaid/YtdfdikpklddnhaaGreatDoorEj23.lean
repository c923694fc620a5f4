/- Of the proof of EvidenceJudges, second form: for values of bulk at most 1048576. (Ej23) -/
import Derived.Test.YtdfdikpklddnhaaGreatDoorEj01
import Derived.Test.YtdfdikpklddnhaaGreatDoorEj22
import Derived.Deep.RegionHeld3
import Derived.Deep.MidRow
namespace Go.Proofs.YtdfdikpklddnhaaGreatDoor
open Go.RowKit
def goMod:Bs:=[47,103,111,46,109,111,100]
def rec2P (a b:Bs):Option (Bs × Bs) :=
 match pcs 32 a,pcs 32 b with
 | [p,v,h],[q,u,g]=>if wordsP a=true∧wordsP b=true∧p=q∧u=v++goMod∧checkP p v=0∧(sumP h).isSome=true∧(sumP g).isSome=true then some (p,v) else none
 | _,_=>none
def recP (l:Bs):Option (Bs × Bs) :=
 if l.length≤1024∧l.count 10=2∧Lib.hasSuffix l [10]=true then
  match pcs 10 l with
  | [a,b,_]=>rec2P a b
  | _=>none
 else none
theorem rec2P_w1 {a:Bs} (b:Bs) (h:wordsP a=false):rec2P a b=none:=by
 unfold rec2P
 split
 ·rw [if_neg];intro hh;rw [h] at hh;exact absurd hh.1 (by decide)
 ·rfl
theorem rec2P_w2 (a:Bs) {b:Bs} (h:wordsP b=false):rec2P a b=none:=by
 unfold rec2P
 split
 ·rw [if_neg];intro hh;rw [h] at hh;exact absurd hh.2.1 (by decide)
 ·rfl
theorem rec2P_good {a b p v h q u g:Bs} (ha:pcs 32 a=[p,v,h]) (hb:pcs 32 b=[q,u,g]) (wa:wordsP a=true) (wb:wordsP b=true) :
  rec2P a b=if p=q∧u=v++goMod∧checkP p v=0∧(sumP h).isSome=true∧(sumP g).isSome=true then some (p,v) else none:=by
 unfold rec2P
 rw [ha,hb]
 simp only [wa,wb,true_and]
def Recorded (w:World) (l:Bs) (e:Ending) (w':World):Prop :=
 Below w.heap.size w w'∧∃ (P V:ByteArray) (A B:Array Value) (er:Int),e=.returned (.tuple #[.string P,.string V,.agg A,.agg B,.int .i64 er]) ∧
  (A.size=32∧A.all (·.oneCell')=true∧B.size=32∧B.all (·.oneCell')=true) ∧
  match recP l with
  | some (p,v)=>er=0∧P.data.toList=p∧V.data.toList=v
  | none=>er≠0
theorem range_of_heap {W:World} {g:Nat} {cs:List Value} (h:W.heap[g]?=some (.cells cs.toArray 27 (0,0))):W.rangeAt g 0 cs:=fun j v hv=>by
 rw [cell_of_row _ _ _ _ _ _ h]
 simpa using hv
theorem there_of_heap {W:World} {g:Nat} {cs:List Value} (h:W.heap[g]?=some (.cells cs.toArray 27 (0,0))) (hl:cs.length=32):W.there g 0 32:=fun j hj=>by
 refine ⟨?_,free_of_heap h _⟩
 rw [cell_of_row _ _ _ _ _ _ h]
 simp [hl,hj]
theorem info27 (cs:List Value) (h:cs.length=32):(Tryz.prog.info? 27).map (·.size)=some cs.length:=by rw [h];kernel_rfl
theorem results_rec (tmps:Array Value) (w:World) (b4 b5:Nat) (A B:List Value) (u2 u3 u6:Value) (h2:tmps.getD 2 undef=u2) (h3:tmps.getD 3 undef=u3)
  (h4:tmps.getD 4 undef=.pointer (some ⟨b4,0,none⟩)) (h5:tmps.getD 5 undef=.pointer (some ⟨b5,0,none⟩)) (h6:tmps.getD 6 undef=u6)
  (hA:w.rangeAt b4 0 A) (hB:w.rangeAt b5 0 B) (lA:A.length=32) (lB:B.length=32) :
  (results Tryz.f56 tmps).run Tryz.prog w=.ok (.tuple #[u2,u3,.agg A.toArray,.agg B.toArray,u6]) w:=by
 have hr:Tryz.f56.results=#[.tmp 2,.tmp 3,.cell 4 27,.cell 5 27,.tmp 6]:=rfl
 have e4:=run_loadVar_mid (P:=Tryz.prog) w b4 0 27 A _ hA Tryz.underlying27 rfl (info27 A lA)
 have e5:=run_loadVar_mid (P:=Tryz.prog) w b5 0 27 B _ hB Tryz.underlying27 rfl (info27 B lB)
 have h4':tmps[4]?.getD undef=.pointer (some ⟨b4,0,none⟩):=by simpa using h4
 have h5':tmps[5]?.getD undef=.pointer (some ⟨b5,0,none⟩):=by simpa using h5
 have h2':tmps[2]?.getD undef=u2:=by simpa using h2
 have h3':tmps[3]?.getD undef=u3:=by simpa using h3
 have h6':tmps[6]?.getD undef=u6:=by simpa using h6
 simp only [results,hr]
 simp [Sem.run_bind,Result.andThen,asAddr,e4,e5,h4',h5',h2',h3',h6']
structure Three (B:Nat) (w W:World) (A4 A5 z:List Value):Prop where
 below:Below B w W
 r4:W.heap[B]?=some (.cells A4.toArray 27 (0,0))
 r5:W.heap[B+1]?=some (.cells A5.toArray 27 (0,0))
 r7:W.heap[B+1+1]?=some (.cells z.toArray 27 (0,0))
 l4:A4.length=32
 l5:A5.length=32
 lz:z.length=32
theorem three_start (w:World) (z:List Value) (hl:z.length=32):Three w.heap.size w (((w.alloc (.cells z.toArray 27)).alloc (.cells z.toArray 27)).alloc (.cells z.toArray 27)) z z z:=by
 have s1:(w.alloc (.cells z.toArray 27)).heap.size=w.heap.size+1:=by simp
 have s2:((w.alloc (.cells z.toArray 27)).alloc (.cells z.toArray 27)).heap.size=w.heap.size+1+1:=by simp
 refine ⟨(((Below.refl _ _).alloc (Nat.le_refl _) _).alloc (by omega) _).alloc (by omega) _,?_,?_,?_,hl,hl,hl⟩
 ·rw [heap_alloc_old _ _ (by omega),heap_alloc_old _ _ (by omega),heap_alloc_new]
 ·rw [heap_alloc_old _ _ (by omega),←s1,heap_alloc_new]
 ·rw [←s2,heap_alloc_new]
theorem wpAnyH_one {P:Program} {ops:Array Oper} {Q:Exit→Act→World→Prop} {md:Region.Mode} {S:World→Prop} {i:Nat} {o:Oper} {fuel:Nat} {listed:Array Bool} {a:Act} {w:World} (hr:Region.ready md ops listed=[i]) (ho:ops[i]?=some o)
  (h:∀ K':Act→World→Prop,Shut (∀ a w,S w→(S w→wpAnyH P md ops Q S fuel (listed.setIfInBounds i true) a w)→K' a w)→if Region.wanted o (yielded ops a.tmps)=true then Oper.wp P o a w K' Q else K' (a.put o.dst undef) w) :
  wpAnyH P md ops Q S (fuel+1) listed a w:=wpAnyH_ready hr (by simp) (AllReadyH.cons ho h AllReadyH.nil)
theorem below_setCells {B g o:Nat} {w W:World} (h:Below B w W) (hg:B≤g) (cs:List Value):Below B w (W.setCells g o cs):=by
 induction cs generalizing W o with
 | nil=>exact h
 | cons v cs ih=>exact ih (h.setCell hg _)
theorem fail_below {w W:World} {A4 A5 z:List Value} (h:Three w.heap.size w W A4 A5 z):Below w.heap.size w ((W.drew.setCells w.heap.size 0 z).setCells (w.heap.size+1) 0 z) :=
 below_setCells (below_setCells (below_drew h.below) (Nat.le_refl _) _) (by omega) _
theorem fail_r4 {w W:World} {A4 A5 z:List Value} (h:Three w.heap.size w W A4 A5 z):((W.drew.setCells w.heap.size 0 z).setCells (w.heap.size+1) 0 z).rangeAt w.heap.size 0 z:=by
 have t4:=there_of_heap h.r4 h.l4
 rw [←h.lz] at t4
 exact World.rangeAt_setCells_apart (World.rangeAt_setCells_same _ _ _ _ ((World.there_drew _ _ _ _).2 t4)) _ _ _ (by omega)
theorem fail_r5 {w W:World} {A4 A5 z:List Value} (h:Three w.heap.size w W A4 A5 z):((W.drew.setCells w.heap.size 0 z).setCells (w.heap.size+1) 0 z).rangeAt (w.heap.size+1) 0 z:=by
 have t5:=there_of_heap h.r5 h.l5
 rw [←h.lz] at t5
 exact World.rangeAt_setCells_same _ _ _ _ (World.there_setCells ((World.there_drew _ _ _ _).2 t5) _ _ _)
theorem Three.still {w W W':World} {B:Nat} {A4 A5 z:List Value} (h:Three B w W A4 A5 z) (hb:Below W.heap.size W W') (hB:w.heap.size=B:=by rfl):Three B w W' A4 A5 z :=
 ⟨h.below.trans (hb.mono (by rw [←hB];exact h.below.size)),(hb.block _ (lt_of_heap h.r4)).trans h.r4,(hb.block _ (lt_of_heap h.r5)).trans h.r5,(hb.block _ (lt_of_heap h.r7)).trans h.r7,h.l4,h.l5,h.lz⟩
theorem Three.set4 {B:Nat} {w W:World} {A4 A5 z L:List Value} (h:Three B w W A4 A5 z) (hL:L.length=32):Three B w (W.setRow B L.toArray) L A5 z :=
 ⟨below_setRow h.below (Nat.le_refl _) _,setRow_heap _ _ _ _ _ _ h.r4,by rw [setRow_other _ _ _ _ (by omega)];exact h.r5,by rw [setRow_other _ _ _ _ (by omega)];exact h.r7,hL,h.l5,h.lz⟩
theorem Three.set5 {B:Nat} {w W:World} {A4 A5 z L:List Value} (h:Three B w W A4 A5 z) (hL:L.length=32):Three B w (W.setRow (B+1) L.toArray) A4 L z :=
 ⟨below_setRow h.below (by omega) _,by rw [setRow_other _ _ _ _ (by omega)];exact h.r4,setRow_heap _ _ _ _ _ _ h.r5,by rw [setRow_other _ _ _ _ (by omega)];exact h.r7,h.l4,hL,h.lz⟩
theorem heap_setRow_far {W:World} {g k:Nat} {cs cs':Array Value} {t:TypeId} (h:W.heap[k]?=some (.cells cs t (0,0))) (hk:k≠g):(W.setRow g cs').heap[k]?=some (.cells cs t (0,0)):=by
 rw [setRow_other _ _ _ _ hk];exact h
theorem go_mod_toList (x:ByteArray):(x++(⟨#[47,103,111,46,109,111,100]⟩:ByteArray)).toList=x.data.toList++goMod:=by
 rw [ByteArray.toList_eq]
 simp [goMod]
theorem range3_of_heap {W:World} {g:Nat} {x0 x1 x2:Value} {t:TypeId} (h:W.heap[g]?=some (.cells #[x0,x1,x2] t (0,0))):W.rangeAt g 0 [x0,x1,x2]:=fun j v hv=>by
 rw [cell_of_row _ _ _ _ _ _ h]
 simpa using hv
theorem three_env {w W:World} {A4 A5 z:List Value} (he:EnvP w) (h:Three w.heap.size w W A4 A5 z):EnvP W:=he.still h.below
end Go.Proofs.YtdfdikpklddnhaaGreatDoor
set_option linter.unusedSimpArgs false
namespace Go.Proofs.YtdfdikpklddnhaaGreatDoor
open Go.RowKit
set_option maxRecDepth 100000 in
set_option maxHeartbeats 0 in
theorem record_any (s:ByteArray) (w:World) (henv:EnvP w) (hsz:s.size≤1048576):Calls Tryz.prog 56 #[.string s] w (Recorded w s.data.toList):=by
 obtain ⟨l,hl⟩:=zg (s.data.toList)
 have elen:l.length=s.size:=by rw [hl];simp
 obtain ⟨z,hz⟩:∃ z:List Value,z=z32.toList:=⟨_,rfl⟩
 have hzl:z.length=32:=by rw [hz];rfl
 have hz1:∀ v∈z,v.oneCell'=true:=by rw [hz];exact fun v hv=>Array.all_eq_true'.1 z32_one v (Array.mem_toList_iff.1 hv)
 have hza:z32=z.toArray:=by rw [hz]
 have HI:=zh (info27 z hzl)
 have hzz:z.toArray.all (·.oneCell')=true:=by rw [Array.all_eq_true'];exact fun v hv=>hz1 v (by simpa using hv)
 have HZZ:Hid (z.toArray.size=32∧z.toArray.all (·.oneCell')=true∧z.toArray.size=32∧z.toArray.all (·.oneCell')=true):=zh ⟨by simpa using hzl,hzz,by simpa using hzl,hzz⟩
 clear hzz
 have HZA:=zh hza
 have HZL:=zh hzl
 have HZ1:=zh hz1
 have HENV:=zh henv
 have HL:=zh hl
 have HLEN:=zh elen
 obtain ⟨n,hn⟩:=zg (l.count 10)
 obtain ⟨bs,hbs⟩:=zg (Lib.hasSuffix l [10])
 have K93:Hid (∀ w,Calls Tryz.prog 93 #[.string s,.string ⟨#[10]⟩] w fun e w'=>e=.returned (.int .i64 n)∧w=w'):=zh fun w=>by
  rw [hn,hl];exact (Tryz.strings_Count_one s 10 w).mono fun _ _ h=>⟨h.1,h.2.symm⟩
 have K94:Hid (∀ w,Calls Tryz.prog 94 #[.string s,.string ⟨#[10]⟩] w fun e w'=>e=.returned (.bool bs)∧w=w'):=zh fun w=>by
  rw [hbs,hl];exact (Tryz.strings_HasSuffix s ⟨#[10]⟩ w (by omega)).mono fun _ _ h=>⟨h.1,h.2.symm⟩
 have HNC:=zh hn
 have HBS:=zh hbs
 have s1:(w.alloc (.cells z.toArray 27)).heap.size=w.heap.size+1:=by simp
 clear hz hza hzl hz1 henv hl elen hn hbs s1
 by_cases c1:1024<s.size
 ·have g1:(1024:Int)<s.size:=by omega
  have hn:recP s.data.toList=none:=by rw [←HL.out];unfold recP;rw [if_neg];intro h;have:=h.1;rw [HLEN.out] at this;omega
  have HN:=zh hn
  clear hn
  clear c1
  go_enter Tryz.func56,Tryz.ntmps56
  go_wp2_with fail
  generalize hW1:World.alloc (World.alloc (World.alloc w _) _) _=W1
  have H1:Hid (Three w.heap.size w W1 z z z):=zh (by
   have h:=three_start w z HZL.out
   rw [←HZA.out] at h
   rw [←hW1]
   exact h)
  clear hW1
  have hu:=Tryz.underlying27
  have t4:=there_of_heap H1.out.r4 H1.out.l4
  have t5:=there_of_heap H1.out.r5 H1.out.l5
  have t7:=range_of_heap H1.out.r7
  refine wp_region_noPanic ?_
  refine wp_region_held_drew (S:=fun w'=>w'.rangeAt (w.heap.size+1+1) 0 z∧w'.there w.heap.size 0 32∧w'.there (w.heap.size+1) 0 32) (by kernel_rfl) ⟨by simpa using t7,by simpa using t4,by simpa using t5⟩ (fun hHeld=>?_)
  refine zj 0 (.agg z.toArray) rfl (yieldsIf_load_mid (by rfl) 27 _ rfl (w.heap.size+1+1) 0 rfl z _ (fun _ h=>h.1) hu rfl HI.out) hHeld ?_
  walk_nrm
  refine zj 1 (.agg z.toArray) rfl (yieldsIf_load_mid (by rfl) 27 _ rfl (w.heap.size+1+1) 0 rfl z _ (fun _ h=>h.1) hu rfl HI.out) hHeld ?_
  walk_nrm
  refine zt 2 (.string ⟨#[]⟩) rfl (fun _ hS=>by go_simp) hHeld ?_
  walk_nrm
  refine zt 3 (.string ⟨#[]⟩) rfl (fun _ hS=>by go_simp) hHeld ?_
  walk_nrm
  refine wpAnyH_one (i:=4) (o:=_) (by kernel_rfl) rfl (fun K hK=>?_)
  rw [if_pos (by rfl)]
  refine wp_store_mid _ _ _ rfl w.heap.size 0 z.toArray rfl rfl (by simpa only [List.size_toArray,HZL.out] using hHeld.2.1) (by simpa only [List.size_toArray] using HI.out) (all_oneCell_toArray HZ1.out) ?_
  refine hK.out _ _ ⟨World.rangeAt_setCells_apart hHeld.1 _ _ _ (by omega),World.there_setCells hHeld.2.1 _ _ _,World.there_setCells hHeld.2.2 _ _ _⟩ (fun hHeld=>?_)
  clear hK K
  walk_nrm
  refine wpAnyH_one (i:=5) (o:=_) (by kernel_rfl) rfl (fun K hK=>?_)
  rw [if_pos (by rfl)]
  refine wp_store_mid _ _ _ rfl (w.heap.size+1) 0 z.toArray rfl rfl (by simpa only [List.size_toArray,HZL.out] using hHeld.2.2) (by simpa only [List.size_toArray] using HI.out) (all_oneCell_toArray HZ1.out) ?_
  refine hK.out _ _ ⟨World.rangeAt_setCells_apart hHeld.1 _ _ _ (by omega),World.there_setCells hHeld.2.1 _ _ _,World.there_setCells hHeld.2.2 _ _ _⟩ (fun hHeld=>?_)
  clear hK K
  walk_nrm
  refine zt 6 (.int .i64 115) rfl (fun _ hS=>by go_simp) hHeld ?_
  walk_nrm
  refine zd ?_
  go_wp2_with fail
  refine bodyPost_ret (results_rec _ _ w.heap.size (w.heap.size+1) z z _ _ _ rfl rfl rfl rfl rfl (fail_r4 H1.out) (fail_r5 H1.out) HZL.out HZL.out) rfl ?_
  exact ⟨fail_below H1.out,_,_,_,_,115,rfl,HZZ.out,by rw [HN.out];exact (by decide)⟩
 have g1:¬ (1024:Int)<s.size:=by omega
 by_cases c2:n=2
 rotate_left
 ·have g2:((n:Int) != 2)=true:=by simp;omega
  have hn:recP s.data.toList=none:=by rw [←HL.out];unfold recP;rw [if_neg];intro h;have:=h.2.1;rw [←HNC.out] at this;exact c2 this
  have HN:=zh hn
  clear hn
  clear c1 c2
  go_enter Tryz.func56,Tryz.ntmps56
  go_wp2_with fail
  generalize hW1:World.alloc (World.alloc (World.alloc w _) _) _=W1
  have H1:Hid (Three w.heap.size w W1 z z z):=zh (by
   have h:=three_start w z HZL.out
   rw [←HZA.out] at h
   rw [←hW1]
   exact h)
  clear hW1
  refine (K93.out _).mono ?_
  rintro e w' ⟨rfl,rfl⟩
  go_wp2_with fail
  have hu:=Tryz.underlying27
  have t4:=there_of_heap H1.out.r4 H1.out.l4
  have t5:=there_of_heap H1.out.r5 H1.out.l5
  have t7:=range_of_heap H1.out.r7
  refine wp_region_noPanic ?_
  refine wp_region_held_drew (S:=fun w'=>w'.rangeAt (w.heap.size+1+1) 0 z∧w'.there w.heap.size 0 32∧w'.there (w.heap.size+1) 0 32) (by kernel_rfl) ⟨by simpa using t7,by simpa using t4,by simpa using t5⟩ (fun hHeld=>?_)
  refine zj 0 (.agg z.toArray) rfl (yieldsIf_load_mid (by rfl) 27 _ rfl (w.heap.size+1+1) 0 rfl z _ (fun _ h=>h.1) hu rfl HI.out) hHeld ?_
  walk_nrm
  refine zj 1 (.agg z.toArray) rfl (yieldsIf_load_mid (by rfl) 27 _ rfl (w.heap.size+1+1) 0 rfl z _ (fun _ h=>h.1) hu rfl HI.out) hHeld ?_
  walk_nrm
  refine zt 2 (.string ⟨#[]⟩) rfl (fun _ hS=>by go_simp) hHeld ?_
  walk_nrm
  refine zt 3 (.string ⟨#[]⟩) rfl (fun _ hS=>by go_simp) hHeld ?_
  walk_nrm
  refine wpAnyH_one (i:=4) (o:=_) (by kernel_rfl) rfl (fun K hK=>?_)
  rw [if_pos (by rfl)]
  refine wp_store_mid _ _ _ rfl w.heap.size 0 z.toArray rfl rfl (by simpa only [List.size_toArray,HZL.out] using hHeld.2.1) (by simpa only [List.size_toArray] using HI.out) (all_oneCell_toArray HZ1.out) ?_
  refine hK.out _ _ ⟨World.rangeAt_setCells_apart hHeld.1 _ _ _ (by omega),World.there_setCells hHeld.2.1 _ _ _,World.there_setCells hHeld.2.2 _ _ _⟩ (fun hHeld=>?_)
  clear hK K
  walk_nrm
  refine wpAnyH_one (i:=5) (o:=_) (by kernel_rfl) rfl (fun K hK=>?_)
  rw [if_pos (by rfl)]
  refine wp_store_mid _ _ _ rfl (w.heap.size+1) 0 z.toArray rfl rfl (by simpa only [List.size_toArray,HZL.out] using hHeld.2.2) (by simpa only [List.size_toArray] using HI.out) (all_oneCell_toArray HZ1.out) ?_
  refine hK.out _ _ ⟨World.rangeAt_setCells_apart hHeld.1 _ _ _ (by omega),World.there_setCells hHeld.2.1 _ _ _,World.there_setCells hHeld.2.2 _ _ _⟩ (fun hHeld=>?_)
  clear hK K
  walk_nrm
  refine zt 6 (.int .i64 115) rfl (fun _ hS=>by go_simp) hHeld ?_
  walk_nrm
  refine zd ?_
  go_wp2_with fail
  refine bodyPost_ret (results_rec _ _ w.heap.size (w.heap.size+1) z z _ _ _ rfl rfl rfl rfl rfl (fail_r4 H1.out) (fail_r5 H1.out) HZL.out HZL.out) rfl ?_
  exact ⟨fail_below H1.out,_,_,_,_,115,rfl,HZZ.out,by rw [HN.out];exact (by decide)⟩
 subst c2
 have g2:((2:Int) != 2)=false:=rfl
 cases bs
 ·have hn:recP s.data.toList=none:=by rw [←HL.out];unfold recP;rw [if_neg];intro h;rw [←HBS.out] at h;exact absurd h.2.2 (by decide)
  have HN:=zh hn
  clear hn
  clear c1
  go_enter Tryz.func56,Tryz.ntmps56
  go_wp2_with fail
  generalize hW1:World.alloc (World.alloc (World.alloc w _) _) _=W1
  have H1:Hid (Three w.heap.size w W1 z z z):=zh (by
   have h:=three_start w z HZL.out
   rw [←HZA.out] at h
   rw [←hW1]
   exact h)
  clear hW1
  refine (K93.out _).mono ?_
  rintro e w' ⟨rfl,rfl⟩
  go_wp2_with fail
  refine (K94.out _).mono ?_
  rintro e w' ⟨rfl,rfl⟩
  go_wp2_with fail
  have hu:=Tryz.underlying27
  have t4:=there_of_heap H1.out.r4 H1.out.l4
  have t5:=there_of_heap H1.out.r5 H1.out.l5
  have t7:=range_of_heap H1.out.r7
  refine wp_region_noPanic ?_
  refine wp_region_held_drew (S:=fun w'=>w'.rangeAt (w.heap.size+1+1) 0 z∧w'.there w.heap.size 0 32∧w'.there (w.heap.size+1) 0 32) (by kernel_rfl) ⟨by simpa using t7,by simpa using t4,by simpa using t5⟩ (fun hHeld=>?_)
  refine zj 0 (.agg z.toArray) rfl (yieldsIf_load_mid (by rfl) 27 _ rfl (w.heap.size+1+1) 0 rfl z _ (fun _ h=>h.1) hu rfl HI.out) hHeld ?_
  walk_nrm
  refine zj 1 (.agg z.toArray) rfl (yieldsIf_load_mid (by rfl) 27 _ rfl (w.heap.size+1+1) 0 rfl z _ (fun _ h=>h.1) hu rfl HI.out) hHeld ?_
  walk_nrm
  refine zt 2 (.string ⟨#[]⟩) rfl (fun _ hS=>by go_simp) hHeld ?_
  walk_nrm
  refine zt 3 (.string ⟨#[]⟩) rfl (fun _ hS=>by go_simp) hHeld ?_
  walk_nrm
  refine wpAnyH_one (i:=4) (o:=_) (by kernel_rfl) rfl (fun K hK=>?_)
  rw [if_pos (by rfl)]
  refine wp_store_mid _ _ _ rfl w.heap.size 0 z.toArray rfl rfl (by simpa only [List.size_toArray,HZL.out] using hHeld.2.1) (by simpa only [List.size_toArray] using HI.out) (all_oneCell_toArray HZ1.out) ?_
  refine hK.out _ _ ⟨World.rangeAt_setCells_apart hHeld.1 _ _ _ (by omega),World.there_setCells hHeld.2.1 _ _ _,World.there_setCells hHeld.2.2 _ _ _⟩ (fun hHeld=>?_)
  clear hK K
  walk_nrm
  refine wpAnyH_one (i:=5) (o:=_) (by kernel_rfl) rfl (fun K hK=>?_)
  rw [if_pos (by rfl)]
  refine wp_store_mid _ _ _ rfl (w.heap.size+1) 0 z.toArray rfl rfl (by simpa only [List.size_toArray,HZL.out] using hHeld.2.2) (by simpa only [List.size_toArray] using HI.out) (all_oneCell_toArray HZ1.out) ?_
  refine hK.out _ _ ⟨World.rangeAt_setCells_apart hHeld.1 _ _ _ (by omega),World.there_setCells hHeld.2.1 _ _ _,World.there_setCells hHeld.2.2 _ _ _⟩ (fun hHeld=>?_)
  clear hK K
  walk_nrm
  refine zt 6 (.int .i64 115) rfl (fun _ hS=>by go_simp) hHeld ?_
  walk_nrm
  refine zd ?_
  go_wp2_with fail
  refine bodyPost_ret (results_rec _ _ w.heap.size (w.heap.size+1) z z _ _ _ rfl rfl rfl rfl rfl (fail_r4 H1.out) (fail_r5 H1.out) HZL.out HZL.out) rfl ?_
  exact ⟨fail_below H1.out,_,_,_,_,115,rfl,HZZ.out,by rw [HN.out];exact (by decide)⟩
 obtain ⟨a,b,c,hp⟩:∃ a b c,pcs 10 l=[a,b,c]:=by
  have h3:(pcs 10 l).length=3:=by rw [pcs_length,←HNC.out]
  match hq:pcs 10 l,h3 with
  | [a,b,c],_=>exact ⟨a,b,c,rfl⟩
 have hla:a.length≤1024:=by have:=(pcs_sub 10 (l:=l) (p:=a) (by rw [hp];simp)).1;rw [HLEN.out] at this;omega
 have hlb:b.length≤1024:=by have:=(pcs_sub 10 (l:=l) (p:=b) (by rw [hp];simp)).1;rw [HLEN.out] at this;omega
 have HP:=zh hp
 have HLA:=zh hla
 have HLB:=zh hlb
 have HC1:=zh c1
 have hrec:recP s.data.toList=rec2P a b:=by
  rw [←HL.out];unfold recP;rw [if_pos ⟨by rw [HLEN.out];omega,HNC.out.symm,HBS.out.symm⟩,hp]
 have HR:=zh hrec
 clear hp hla hlb c1 hrec
 go_enter Tryz.func56,Tryz.ntmps56
 go_wp2_with fail
 generalize hW1:World.alloc (World.alloc (World.alloc w _) _) _=W1
 have H1:Hid (Three w.heap.size w W1 z z z):=zh (by
  have h:=three_start w z HZL.out
  rw [←HZA.out] at h
  rw [←hW1]
  exact h)
 clear hW1
 refine (K93.out _).mono ?_
 rintro e w' ⟨rfl,rfl⟩
 go_wp2_with fail
 refine (K94.out _).mono ?_
 rintro e w' ⟨rfl,rfl⟩
 go_wp2_with fail
 have HE1:Hid (EnvP W1):=zh (three_env HENV.out H1.out)
 obtain ⟨mm,hmm⟩:=HE1.out.env.maxLen
 have K:=split_any s 10 mm W1 (by omega) hmm
 rw [←HL.out,HP.out] at K
 refine K.mono ?_
 rintro e W2 ⟨rfl,hW2⟩
 have HB2:Hid (Below W1.heap.size W1 W2):=zh (by rw [hW2];exact (Below.refl _ _).alloc (Nat.le_refl _) _)
 have H2:Hid (Three w.heap.size w W2 z z z):=zh (H1.out.still HB2.out)
 have HE2:Hid (EnvP W2):=zh (HE1.out.still HB2.out)
 have q0:W2.cell? ⟨W1.heap.size,0,none⟩=some (.string ⟨a.toArray⟩):=by rw [hW2,cell_of_row _ _ _ _ _ _ (heap_alloc_new _ _)];rfl
 have q1:W2.cell? ⟨W1.heap.size,1,none⟩=some (.string ⟨b.toArray⟩):=by rw [hW2,cell_of_row _ _ _ _ _ _ (heap_alloc_new _ _)];rfl
 have Q1:=zh q1
 clear hW2 K hmm
 go_wp2_with fail
 have K:Calls Tryz.prog 96 #[.string ⟨a.toArray⟩] W2 (Worded W2 a):=lineWords_any ⟨a.toArray⟩ W2 (by have:=HLA.out;simp [ByteArray.size];omega) HE2.out.env.maxLen
 obtain ⟨k1,hk1⟩:=zg (wordsP a)
 unfold Worded at K
 rw [←hk1] at K
 have HK1:=zh hk1
 clear hk1
 refine K.mono ?_
 rintro e W3 ⟨x0,x1,x2,rfl,hx,hB3⟩
 have HX:=zh hx
 have H3:Hid (Three w.heap.size w W3 z z z):=zh (H2.out.still hB3)
 have HE3:Hid (EnvP W3):=zh (HE2.out.still hB3)
 have q3:=(hB3.cell (World.block_lt_of_cell? _ _ Q1.out)).trans Q1.out
 have Q3:=zh q3
 obtain ⟨W4,hW4⟩:=zg (W3.alloc (.cells #[.string x0,.string x1,.string x2] 187))
 have q4:(W3.alloc (.cells #[.string x0,.string x1,.string x2] 187)).cell? ⟨W1.heap.size,1,none⟩=some (.string ⟨b.toArray⟩):=by rw [World.cell?_alloc_lt _ _ _ (World.block_lt_of_cell? _ _ Q3.out)];exact Q3.out
 have HB4:Hid (Below W3.heap.size W3 W4):=zh (by rw [hW4];exact (Below.refl _ _).alloc (Nat.le_refl _) _)
 have r9:Hid (W4.heap[W3.heap.size]?=some (.cells #[.string x0,.string x1,.string x2] 187 (0,0))):=zh (by rw [hW4];exact heap_alloc_new _ _)
 have H4:Hid (Three w.heap.size w W4 z z z):=zh (H3.out.still HB4.out)
 have HE4:Hid (EnvP W4):=zh (HE3.out.still HB4.out)
 obtain ⟨R9,hR9⟩:=zg (W3.heap.size)
 have HR9:=zh hR9
 clear hR9
 clear K hx hB3 q0 q1 q3
 go_wp2_with fail
 rw [←hW4]
 clear hW4 q4
 have K:Calls Tryz.prog 96 #[.string ⟨b.toArray⟩] W4 (Worded W4 b):=lineWords_any ⟨b.toArray⟩ W4 (by have:=HLB.out;simp [ByteArray.size];omega) HE4.out.env.maxLen
 obtain ⟨k2,hk2⟩:=zg (wordsP b)
 unfold Worded at K
 rw [←hk2] at K
 have HK2:=zh hk2
 clear hk2
 refine K.mono ?_
 rintro e W5 ⟨y0,y1,y2,rfl,hy,hB5⟩
 have HY:=zh hy
 have H5:Hid (Three w.heap.size w W5 z z z):=zh (H4.out.still hB5)
 have HE5:Hid (EnvP W5):=zh (HE4.out.still hB5)
 have r5:Hid (W5.heap[W3.heap.size]?=some (.cells #[.string x0,.string x1,.string x2] 187 (0,0))):=zh ((hB5.block _ (lt_of_heap r9.out)).trans r9.out)
 obtain ⟨W6,hW6⟩:=zg (W5.alloc (.cells #[.string y0,.string y1,.string y2] 187))
 have HB6:Hid (Below W5.heap.size W5 W6):=zh (by rw [hW6];exact (Below.refl _ _).alloc (Nat.le_refl _) _)
 have r6:Hid (W6.heap[W3.heap.size]?=some (.cells #[.string x0,.string x1,.string x2] 187 (0,0))):=zh ((HB6.out.block _ (lt_of_heap r5.out)).trans r5.out)
 have v6:Hid (W6.heap[W5.heap.size]?=some (.cells #[.string y0,.string y1,.string y2] 187 (0,0))):=zh (by rw [hW6];exact heap_alloc_new _ _)
 have H6:Hid (Three w.heap.size w W6 z z z):=zh (H5.out.still HB6.out)
 have HE6:Hid (EnvP W6):=zh (HE5.out.still HB6.out)
 have p0:(W5.alloc (.cells #[.string y0,.string y1,.string y2] 187)).cell? ⟨W3.heap.size,0,none⟩=some (.string x0):=by rw [←hW6];exact cell_of_heap r6.out 0 rfl
 have p1:(W5.alloc (.cells #[.string y0,.string y1,.string y2] 187)).cell? ⟨W3.heap.size,1,none⟩=some (.string x1):=by rw [←hW6];exact cell_of_heap r6.out 1 rfl
 clear K hy hB5
 cases k1
 ·have hn:recP s.data.toList=none:=by rw [HR.out];exact rec2P_w1 b HK1.out.symm
  have HN:=zh hn
  clear hn
  go_wp2_with fail
  rw [←hW6]
  clear hW6
  have hu:=Tryz.underlying27
  have t4:=there_of_heap H6.out.r4 H6.out.l4
  have t5:=there_of_heap H6.out.r5 H6.out.l5
  have t7:=range_of_heap H6.out.r7
  refine wp_region_noPanic ?_
  refine wp_region_held_drew (S:=fun w'=>w'.rangeAt (w.heap.size+1+1) 0 z∧w'.there w.heap.size 0 32∧w'.there (w.heap.size+1) 0 32) (by kernel_rfl) ⟨by simpa using t7,by simpa using t4,by simpa using t5⟩ (fun hHeld=>?_)
  refine zj 0 (.agg z.toArray) rfl (yieldsIf_load_mid (by rfl) 27 _ rfl (w.heap.size+1+1) 0 rfl z _ (fun _ h=>h.1) hu rfl HI.out) hHeld ?_
  walk_nrm
  refine zj 1 (.agg z.toArray) rfl (yieldsIf_load_mid (by rfl) 27 _ rfl (w.heap.size+1+1) 0 rfl z _ (fun _ h=>h.1) hu rfl HI.out) hHeld ?_
  walk_nrm
  refine zt 2 (.string ⟨#[]⟩) rfl (fun _ hS=>by go_simp) hHeld ?_
  walk_nrm
  refine zt 3 (.string ⟨#[]⟩) rfl (fun _ hS=>by go_simp) hHeld ?_
  walk_nrm
  refine wpAnyH_one (i:=4) (o:=_) (by kernel_rfl) rfl (fun K hK=>?_)
  rw [if_pos (by rfl)]
  refine wp_store_mid _ _ _ rfl w.heap.size 0 z.toArray rfl rfl (by simpa only [List.size_toArray,HZL.out] using hHeld.2.1) (by simpa only [List.size_toArray] using HI.out) (all_oneCell_toArray HZ1.out) ?_
  refine hK.out _ _ ⟨World.rangeAt_setCells_apart hHeld.1 _ _ _ (by omega),World.there_setCells hHeld.2.1 _ _ _,World.there_setCells hHeld.2.2 _ _ _⟩ (fun hHeld=>?_)
  clear hK K
  walk_nrm
  refine wpAnyH_one (i:=5) (o:=_) (by kernel_rfl) rfl (fun K hK=>?_)
  rw [if_pos (by rfl)]
  refine wp_store_mid _ _ _ rfl (w.heap.size+1) 0 z.toArray rfl rfl (by simpa only [List.size_toArray,HZL.out] using hHeld.2.2) (by simpa only [List.size_toArray] using HI.out) (all_oneCell_toArray HZ1.out) ?_
  refine hK.out _ _ ⟨World.rangeAt_setCells_apart hHeld.1 _ _ _ (by omega),World.there_setCells hHeld.2.1 _ _ _,World.there_setCells hHeld.2.2 _ _ _⟩ (fun hHeld=>?_)
  clear hK K
  walk_nrm
  refine zt 6 (.int .i64 115) rfl (fun _ hS=>by go_simp) hHeld ?_
  walk_nrm
  refine zd ?_
  go_wp2_with fail
  refine bodyPost_ret (results_rec _ _ w.heap.size (w.heap.size+1) z z _ _ _ rfl rfl rfl rfl rfl (fail_r4 H6.out) (fail_r5 H6.out) HZL.out HZL.out) rfl ?_
  exact ⟨fail_below H6.out,_,_,_,_,115,rfl,HZZ.out,by rw [HN.out];exact (by decide)⟩
 cases k2
 ·have hn:recP s.data.toList=none:=by rw [HR.out];exact rec2P_w2 a HK2.out.symm
  have HN:=zh hn
  clear hn
  go_wp2_with fail
  rw [←hW6]
  clear hW6
  have hu:=Tryz.underlying27
  have t4:=there_of_heap H6.out.r4 H6.out.l4
  have t5:=there_of_heap H6.out.r5 H6.out.l5
  have t7:=range_of_heap H6.out.r7
  refine wp_region_noPanic ?_
  refine wp_region_held_drew (S:=fun w'=>w'.rangeAt (w.heap.size+1+1) 0 z∧w'.there w.heap.size 0 32∧w'.there (w.heap.size+1) 0 32) (by kernel_rfl) ⟨by simpa using t7,by simpa using t4,by simpa using t5⟩ (fun hHeld=>?_)
  refine zj 0 (.agg z.toArray) rfl (yieldsIf_load_mid (by rfl) 27 _ rfl (w.heap.size+1+1) 0 rfl z _ (fun _ h=>h.1) hu rfl HI.out) hHeld ?_
  walk_nrm
  refine zj 1 (.agg z.toArray) rfl (yieldsIf_load_mid (by rfl) 27 _ rfl (w.heap.size+1+1) 0 rfl z _ (fun _ h=>h.1) hu rfl HI.out) hHeld ?_
  walk_nrm
  refine zt 2 (.string ⟨#[]⟩) rfl (fun _ hS=>by go_simp) hHeld ?_
  walk_nrm
  refine zt 3 (.string ⟨#[]⟩) rfl (fun _ hS=>by go_simp) hHeld ?_
  walk_nrm
  refine wpAnyH_one (i:=4) (o:=_) (by kernel_rfl) rfl (fun K hK=>?_)
  rw [if_pos (by rfl)]
  refine wp_store_mid _ _ _ rfl w.heap.size 0 z.toArray rfl rfl (by simpa only [List.size_toArray,HZL.out] using hHeld.2.1) (by simpa only [List.size_toArray] using HI.out) (all_oneCell_toArray HZ1.out) ?_
  refine hK.out _ _ ⟨World.rangeAt_setCells_apart hHeld.1 _ _ _ (by omega),World.there_setCells hHeld.2.1 _ _ _,World.there_setCells hHeld.2.2 _ _ _⟩ (fun hHeld=>?_)
  clear hK K
  walk_nrm
  refine wpAnyH_one (i:=5) (o:=_) (by kernel_rfl) rfl (fun K hK=>?_)
  rw [if_pos (by rfl)]
  refine wp_store_mid _ _ _ rfl (w.heap.size+1) 0 z.toArray rfl rfl (by simpa only [List.size_toArray,HZL.out] using hHeld.2.2) (by simpa only [List.size_toArray] using HI.out) (all_oneCell_toArray HZ1.out) ?_
  refine hK.out _ _ ⟨World.rangeAt_setCells_apart hHeld.1 _ _ _ (by omega),World.there_setCells hHeld.2.1 _ _ _,World.there_setCells hHeld.2.2 _ _ _⟩ (fun hHeld=>?_)
  clear hK K
  walk_nrm
  refine zt 6 (.int .i64 115) rfl (fun _ hS=>by go_simp) hHeld ?_
  walk_nrm
  refine zd ?_
  go_wp2_with fail
  refine bodyPost_ret (results_rec _ _ w.heap.size (w.heap.size+1) z z _ _ _ rfl rfl rfl rfl rfl (fail_r4 H6.out) (fail_r5 H6.out) HZL.out HZL.out) rfl ?_
  exact ⟨fail_below H6.out,_,_,_,_,115,rfl,HZZ.out,by rw [HN.out];exact (by decide)⟩
 have HXP:Hid (pcs 32 a=[x0.data.toList,x1.data.toList,x2.data.toList]):=zh (HX.out rfl)
 have HYP:Hid (pcs 32 b=[y0.data.toList,y1.data.toList,y2.data.toList]):=zh (HY.out rfl)
 have hx0:x0.size≤1024:=by have:=(pcs_sub 32 (l:=a) (p:=x0.data.toList) (by rw [HXP.out];simp)).1;have h2:=HLA.out;simp at this;omega
 have hx1:x1.size≤1024:=by have:=(pcs_sub 32 (l:=a) (p:=x1.data.toList) (by rw [HXP.out];simp)).1;have h2:=HLA.out;simp at this;omega
 have hx2:x2.size≤1024:=by have:=(pcs_sub 32 (l:=a) (p:=x2.data.toList) (by rw [HXP.out];simp)).1;have h2:=HLA.out;simp at this;omega
 have hy2:y2.size≤1024:=by have:=(pcs_sub 32 (l:=b) (p:=y2.data.toList) (by rw [HYP.out];simp)).1;have h2:=HLB.out;simp at this;omega
 have hrec2:recP s.data.toList=if x0.data.toList=y0.data.toList∧y1.data.toList=x1.data.toList++goMod∧checkP x0.data.toList x1.data.toList=0∧(sumP x2.data.toList).isSome=true∧(sumP y2.data.toList).isSome=true then some (x0.data.toList,x1.data.toList) else none:=by
  rw [HR.out];exact rec2P_good HXP.out HYP.out HK1.out.symm HK2.out.symm
 have HR2:=zh hrec2
 have gx:¬ 9223372036854775807<x1.size+7:=by omega
 have HS0:=zh hx0
 have HS1:=zh hx1
 have HS2:=zh hx2
 have HT2:=zh hy2
 clear hrec2 hx0 hx1 hx2 hy2 HX HY
 by_cases e1:x0.toList=y0.toList
 rotate_left
 ·have b1:(x0.toList == y0.toList)=false:=by simpa using e1
  have hn:recP s.data.toList=none:=by rw [HR2.out,if_neg];intro h;exact e1 (by rw [ByteArray.toList_eq,ByteArray.toList_eq];exact h.1)
  have HN:=zh hn
  clear hn
  clear e1
  go_wp2_with fail
  rw [←hW6]
  clear hW6
  have hu:=Tryz.underlying27
  have t4:=there_of_heap H6.out.r4 H6.out.l4
  have t5:=there_of_heap H6.out.r5 H6.out.l5
  have t7:=range_of_heap H6.out.r7
  refine wp_region_noPanic ?_
  refine wp_region_held_drew (S:=fun w'=>w'.rangeAt (w.heap.size+1+1) 0 z∧w'.there w.heap.size 0 32∧w'.there (w.heap.size+1) 0 32) (by kernel_rfl) ⟨by simpa using t7,by simpa using t4,by simpa using t5⟩ (fun hHeld=>?_)
  refine zj 0 (.agg z.toArray) rfl (yieldsIf_load_mid (by rfl) 27 _ rfl (w.heap.size+1+1) 0 rfl z _ (fun _ h=>h.1) hu rfl HI.out) hHeld ?_
  walk_nrm
  refine zj 1 (.agg z.toArray) rfl (yieldsIf_load_mid (by rfl) 27 _ rfl (w.heap.size+1+1) 0 rfl z _ (fun _ h=>h.1) hu rfl HI.out) hHeld ?_
  walk_nrm
  refine zt 2 (.string ⟨#[]⟩) rfl (fun _ hS=>by go_simp) hHeld ?_
  walk_nrm
  refine zt 3 (.string ⟨#[]⟩) rfl (fun _ hS=>by go_simp) hHeld ?_
  walk_nrm
  refine wpAnyH_one (i:=4) (o:=_) (by kernel_rfl) rfl (fun K hK=>?_)
  rw [if_pos (by rfl)]
  refine wp_store_mid _ _ _ rfl w.heap.size 0 z.toArray rfl rfl (by simpa only [List.size_toArray,HZL.out] using hHeld.2.1) (by simpa only [List.size_toArray] using HI.out) (all_oneCell_toArray HZ1.out) ?_
  refine hK.out _ _ ⟨World.rangeAt_setCells_apart hHeld.1 _ _ _ (by omega),World.there_setCells hHeld.2.1 _ _ _,World.there_setCells hHeld.2.2 _ _ _⟩ (fun hHeld=>?_)
  clear hK K
  walk_nrm
  refine wpAnyH_one (i:=5) (o:=_) (by kernel_rfl) rfl (fun K hK=>?_)
  rw [if_pos (by rfl)]
  refine wp_store_mid _ _ _ rfl (w.heap.size+1) 0 z.toArray rfl rfl (by simpa only [List.size_toArray,HZL.out] using hHeld.2.2) (by simpa only [List.size_toArray] using HI.out) (all_oneCell_toArray HZ1.out) ?_
  refine hK.out _ _ ⟨World.rangeAt_setCells_apart hHeld.1 _ _ _ (by omega),World.there_setCells hHeld.2.1 _ _ _,World.there_setCells hHeld.2.2 _ _ _⟩ (fun hHeld=>?_)
  clear hK K
  walk_nrm
  refine zt 6 (.int .i64 115) rfl (fun _ hS=>by go_simp) hHeld ?_
  walk_nrm
  refine zd ?_
  go_wp2_with fail
  refine bodyPost_ret (results_rec _ _ w.heap.size (w.heap.size+1) z z _ _ _ rfl rfl rfl rfl rfl (fail_r4 H6.out) (fail_r5 H6.out) HZL.out HZL.out) rfl ?_
  exact ⟨fail_below H6.out,_,_,_,_,115,rfl,HZZ.out,by rw [HN.out];exact (by decide)⟩
 have b1:(x0.toList == y0.toList)=true:=by simpa using e1
 have HE_1:=zh e1
 clear e1
 by_cases e2:y1.toList=(x1++(⟨#[47,103,111,46,109,111,100]⟩:ByteArray)).toList
 rotate_left
 ·have b2:(y1.toList == (x1++(⟨#[47,103,111,46,109,111,100]⟩:ByteArray)).toList)=false:=by simpa using e2
  have hn:recP s.data.toList=none:=by rw [HR2.out,if_neg];intro h;exact e2 (by rw [go_mod_toList,ByteArray.toList_eq];exact h.2.1)
  have HN:=zh hn
  clear hn
  clear e2
  go_wp2_with fail
  rw [←hW6]
  clear hW6
  have hu:=Tryz.underlying27
  have t4:=there_of_heap H6.out.r4 H6.out.l4
  have t5:=there_of_heap H6.out.r5 H6.out.l5
  have t7:=range_of_heap H6.out.r7
  refine wp_region_noPanic ?_
  refine wp_region_held_drew (S:=fun w'=>w'.rangeAt (w.heap.size+1+1) 0 z∧w'.there w.heap.size 0 32∧w'.there (w.heap.size+1) 0 32) (by kernel_rfl) ⟨by simpa using t7,by simpa using t4,by simpa using t5⟩ (fun hHeld=>?_)
  refine zj 0 (.agg z.toArray) rfl (yieldsIf_load_mid (by rfl) 27 _ rfl (w.heap.size+1+1) 0 rfl z _ (fun _ h=>h.1) hu rfl HI.out) hHeld ?_
  walk_nrm
  refine zj 1 (.agg z.toArray) rfl (yieldsIf_load_mid (by rfl) 27 _ rfl (w.heap.size+1+1) 0 rfl z _ (fun _ h=>h.1) hu rfl HI.out) hHeld ?_
  walk_nrm
  refine zt 2 (.string ⟨#[]⟩) rfl (fun _ hS=>by go_simp) hHeld ?_
  walk_nrm
  refine zt 3 (.string ⟨#[]⟩) rfl (fun _ hS=>by go_simp) hHeld ?_
  walk_nrm
  refine wpAnyH_one (i:=4) (o:=_) (by kernel_rfl) rfl (fun K hK=>?_)
  rw [if_pos (by rfl)]
  refine wp_store_mid _ _ _ rfl w.heap.size 0 z.toArray rfl rfl (by simpa only [List.size_toArray,HZL.out] using hHeld.2.1) (by simpa only [List.size_toArray] using HI.out) (all_oneCell_toArray HZ1.out) ?_
  refine hK.out _ _ ⟨World.rangeAt_setCells_apart hHeld.1 _ _ _ (by omega),World.there_setCells hHeld.2.1 _ _ _,World.there_setCells hHeld.2.2 _ _ _⟩ (fun hHeld=>?_)
  clear hK K
  walk_nrm
  refine wpAnyH_one (i:=5) (o:=_) (by kernel_rfl) rfl (fun K hK=>?_)
  rw [if_pos (by rfl)]
  refine wp_store_mid _ _ _ rfl (w.heap.size+1) 0 z.toArray rfl rfl (by simpa only [List.size_toArray,HZL.out] using hHeld.2.2) (by simpa only [List.size_toArray] using HI.out) (all_oneCell_toArray HZ1.out) ?_
  refine hK.out _ _ ⟨World.rangeAt_setCells_apart hHeld.1 _ _ _ (by omega),World.there_setCells hHeld.2.1 _ _ _,World.there_setCells hHeld.2.2 _ _ _⟩ (fun hHeld=>?_)
  clear hK K
  walk_nrm
  refine zt 6 (.int .i64 115) rfl (fun _ hS=>by go_simp) hHeld ?_
  walk_nrm
  refine zd ?_
  go_wp2_with fail
  refine bodyPost_ret (results_rec _ _ w.heap.size (w.heap.size+1) z z _ _ _ rfl rfl rfl rfl rfl (fail_r4 H6.out) (fail_r5 H6.out) HZL.out HZL.out) rfl ?_
  exact ⟨fail_below H6.out,_,_,_,_,115,rfl,HZZ.out,by rw [HN.out];exact (by decide)⟩
 have b2:(y1.toList == (x1++(⟨#[47,103,111,46,109,111,100]⟩:ByteArray)).toList)=true:=by simpa using e2
 have hr3:recP s.data.toList=if checkP x0.data.toList x1.data.toList=0∧(sumP x2.data.toList).isSome=true∧(sumP y2.data.toList).isSome=true then some (x0.data.toList,x1.data.toList) else none:=by
  have a1:x0.data.toList=y0.data.toList:=by rw [←ByteArray.toList_eq,←ByteArray.toList_eq];exact HE_1.out
  have a2:y1.data.toList=x1.data.toList++goMod:=by rw [←go_mod_toList,←ByteArray.toList_eq];exact e2
  rw [HR2.out];simp only [eq_true a1,eq_true a2,true_and]
 have HR3:=zh hr3
 clear hr3 e2
 obtain ⟨er,her⟩:=zg (checkP x0.data.toList x1.data.toList)
 have HER:=zh her
 have K:=check_any x0 x1 W6 (by have:=HS0.out;omega) (by have:=HS1.out;omega) HE6.out
 rw [←her] at K
 clear her
 go_wp2_with fail
 rw [←hW6]
 clear hW6 p0 p1 gx b1 b2
 refine K.mono ?_
 rintro e W7 ⟨rfl,hB7⟩
 have H7:Hid (Three w.heap.size w W7 z z z):=zh (H6.out.still hB7)
 have r7:Hid (W7.heap[W3.heap.size]?=some (.cells #[.string x0,.string x1,.string x2] 187 (0,0))):=zh ((hB7.block _ (lt_of_heap r6.out)).trans r6.out)
 have v7:Hid (W7.heap[W5.heap.size]?=some (.cells #[.string y0,.string y1,.string y2] 187 (0,0))):=zh ((hB7.block _ (lt_of_heap v6.out)).trans v6.out)
 have p2:=cell_of_heap r7.out 2 rfl
 clear K hB7
 by_cases e3:er=0
 rotate_left
 ·have g3:(er != 0)=true:=by simpa using e3
  have HE3N:=zh e3
  have hn:recP s.data.toList=none:=by rw [HR3.out,if_neg];intro h;exact e3 (by rw [HER.out];exact h.1)
  have HN:=zh hn
  clear hn
  clear e3
  go_wp2_with fail
  have hu:=Tryz.underlying27
  have t4:=there_of_heap H7.out.r4 H7.out.l4
  have t5:=there_of_heap H7.out.r5 H7.out.l5
  have t7:=range_of_heap H7.out.r7
  refine wp_region_noPanic ?_
  refine wp_region_held_drew (S:=fun w'=>w'.rangeAt (w.heap.size+1+1) 0 z∧w'.there w.heap.size 0 32∧w'.there (w.heap.size+1) 0 32) (by kernel_rfl) ⟨by simpa using t7,by simpa using t4,by simpa using t5⟩ (fun hHeld=>?_)
  refine zj 0 (.agg z.toArray) rfl (yieldsIf_load_mid (by rfl) 27 _ rfl (w.heap.size+1+1) 0 rfl z _ (fun _ h=>h.1) hu rfl HI.out) hHeld ?_
  walk_nrm
  refine zj 1 (.agg z.toArray) rfl (yieldsIf_load_mid (by rfl) 27 _ rfl (w.heap.size+1+1) 0 rfl z _ (fun _ h=>h.1) hu rfl HI.out) hHeld ?_
  walk_nrm
  refine zt 2 (.int .i64 er) rfl (fun _ hS=>by go_simp) hHeld ?_
  walk_nrm
  refine zt 3 (.string ⟨#[]⟩) rfl (fun _ hS=>by go_simp) hHeld ?_
  walk_nrm
  refine zt 4 (.string ⟨#[]⟩) rfl (fun _ hS=>by go_simp) hHeld ?_
  walk_nrm
  refine wpAnyH_one (i:=5) (o:=_) (by kernel_rfl) rfl (fun K hK=>?_)
  rw [if_pos (by rfl)]
  refine wp_store_mid _ _ _ rfl w.heap.size 0 z.toArray rfl rfl (by simpa only [List.size_toArray,HZL.out] using hHeld.2.1) (by simpa only [List.size_toArray] using HI.out) (all_oneCell_toArray HZ1.out) ?_
  refine hK.out _ _ ⟨World.rangeAt_setCells_apart hHeld.1 _ _ _ (by omega),World.there_setCells hHeld.2.1 _ _ _,World.there_setCells hHeld.2.2 _ _ _⟩ (fun hHeld=>?_)
  clear hK K
  walk_nrm
  refine wpAnyH_one (i:=6) (o:=_) (by kernel_rfl) rfl (fun K hK=>?_)
  rw [if_pos (by rfl)]
  refine wp_store_mid _ _ _ rfl (w.heap.size+1) 0 z.toArray rfl rfl (by simpa only [List.size_toArray,HZL.out] using hHeld.2.2) (by simpa only [List.size_toArray] using HI.out) (all_oneCell_toArray HZ1.out) ?_
  refine hK.out _ _ ⟨World.rangeAt_setCells_apart hHeld.1 _ _ _ (by omega),World.there_setCells hHeld.2.1 _ _ _,World.there_setCells hHeld.2.2 _ _ _⟩ (fun hHeld=>?_)
  clear hK K
  walk_nrm
  refine zt 7 (.int .i64 er) rfl (fun _ hS=>by go_simp) hHeld ?_
  walk_nrm
  refine zd ?_
  go_wp2_with fail
  refine bodyPost_ret (results_rec _ _ w.heap.size (w.heap.size+1) z z _ _ _ rfl rfl rfl rfl rfl (fail_r4 H7.out) (fail_r5 H7.out) HZL.out HZL.out) rfl ?_
  exact ⟨fail_below H7.out,_,_,_,_,er,rfl,HZZ.out,by rw [HN.out];exact HE3N.out⟩
 subst e3
 have g3:((0:Int) != 0)=false:=rfl
 have K:=sum_any x2 W7 (by have:=HS2.out;omega)
 go_wp2_with fail
 refine K.mono ?_
 rintro e W8 ⟨hB8,A4,er4,rfl,hA4,hA41,hsm⟩
 obtain ⟨L4,rfl⟩:∃ L4:List Value,A4=L4.toArray:=⟨A4.toList,by simp⟩
 have hl4:L4.length=32:=by simpa using hA4
 have H8:Hid (Three w.heap.size w W8 z z z):=zh (H7.out.still hB8)
 have r8:Hid (W8.heap[W3.heap.size]?=some (.cells #[.string x0,.string x1,.string x2] 187 (0,0))):=zh ((hB8.block _ (lt_of_heap r7.out)).trans r7.out)
 have v8:Hid (W8.heap[W5.heap.size]?=some (.cells #[.string y0,.string y1,.string y2] 187 (0,0))):=zh ((hB8.block _ (lt_of_heap v7.out)).trans v7.out)
 obtain ⟨W9,hW9⟩:=zg (W8.setRow w.heap.size L4.toArray)
 have n3:W3.heap.size≠w.heap.size:=by have:=lt_of_heap H3.out.r4;omega
 have n5:W5.heap.size≠w.heap.size:=by have:=lt_of_heap H5.out.r4;omega
 have H9:Hid (Three w.heap.size w W9 L4 z z):=zh (by rw [hW9];exact H8.out.set4 hl4)
 have r9b:Hid (W9.heap[W3.heap.size]?=some (.cells #[.string x0,.string x1,.string x2] 187 (0,0))):=zh (by rw [hW9];exact heap_setRow_far r8.out n3)
 have v9:Hid (W9.heap[W5.heap.size]?=some (.cells #[.string y0,.string y1,.string y2] 187 (0,0))):=zh (by rw [hW9];exact heap_setRow_far v8.out n5)
 have p3:(W8.setRow w.heap.size L4.toArray).cell? ⟨W5.heap.size,2,none⟩=some (.string y2):=by rw [←hW9];exact cell_of_heap v9.out 2 rfl
 have HL4:=zh hl4
 have HA41:=zh hA41
 have HSM:=zh hsm
 have HW9:=zh hW9
 clear K p2 hB8 hA4 hA41 hsm hl4 n3 n5 hW9
 by_cases e4:er4=0
 rotate_left
 ·have g4:(er4 != 0)=true:=by simpa using e4
  have HE4N:=zh e4
  have hn:recP s.data.toList=none:=by rw [HR3.out,if_neg];intro h;exact e4 (HSM.out.1 h.2.1)
  have HN:=zh hn
  clear hn
  clear e4
  go_wp2_with (first|(refine wpList_store_row rfl 27 _ _ rfl w.heap.size L4.toArray rfl rfl 27 z.toArray H8.out.r4 (by simpa only [List.size_toArray] using info27 L4 HL4.out) (by simp only [List.size_toArray,HL4.out,HZL.out]) HA41.out ?_))
  rw [←HW9.out]
  have hu:=Tryz.underlying27
  have t4:=there_of_heap H9.out.r4 H9.out.l4
  have t5:=there_of_heap H9.out.r5 H9.out.l5
  have t7:=range_of_heap H9.out.r7
  refine wp_region_noPanic ?_
  refine wp_region_held_drew (S:=fun w'=>w'.rangeAt (w.heap.size+1+1) 0 z∧w'.there w.heap.size 0 32∧w'.there (w.heap.size+1) 0 32) (by kernel_rfl) ⟨by simpa using t7,by simpa using t4,by simpa using t5⟩ (fun hHeld=>?_)
  refine zj 0 (.agg z.toArray) rfl (yieldsIf_load_mid (by rfl) 27 _ rfl (w.heap.size+1+1) 0 rfl z _ (fun _ h=>h.1) hu rfl HI.out) hHeld ?_
  walk_nrm
  refine zj 1 (.agg z.toArray) rfl (yieldsIf_load_mid (by rfl) 27 _ rfl (w.heap.size+1+1) 0 rfl z _ (fun _ h=>h.1) hu rfl HI.out) hHeld ?_
  walk_nrm
  refine zt 2 (.int .i64 er4) rfl (fun _ hS=>by go_simp) hHeld ?_
  walk_nrm
  refine zt 3 (.string ⟨#[]⟩) rfl (fun _ hS=>by go_simp) hHeld ?_
  walk_nrm
  refine zt 4 (.string ⟨#[]⟩) rfl (fun _ hS=>by go_simp) hHeld ?_
  walk_nrm
  refine wpAnyH_one (i:=5) (o:=_) (by kernel_rfl) rfl (fun K hK=>?_)
  rw [if_pos (by rfl)]
  refine wp_store_mid _ _ _ rfl w.heap.size 0 z.toArray rfl rfl (by simpa only [List.size_toArray,HZL.out] using hHeld.2.1) (by simpa only [List.size_toArray] using HI.out) (all_oneCell_toArray HZ1.out) ?_
  refine hK.out _ _ ⟨World.rangeAt_setCells_apart hHeld.1 _ _ _ (by omega),World.there_setCells hHeld.2.1 _ _ _,World.there_setCells hHeld.2.2 _ _ _⟩ (fun hHeld=>?_)
  clear hK K
  walk_nrm
  refine wpAnyH_one (i:=6) (o:=_) (by kernel_rfl) rfl (fun K hK=>?_)
  rw [if_pos (by rfl)]
  refine wp_store_mid _ _ _ rfl (w.heap.size+1) 0 z.toArray rfl rfl (by simpa only [List.size_toArray,HZL.out] using hHeld.2.2) (by simpa only [List.size_toArray] using HI.out) (all_oneCell_toArray HZ1.out) ?_
  refine hK.out _ _ ⟨World.rangeAt_setCells_apart hHeld.1 _ _ _ (by omega),World.there_setCells hHeld.2.1 _ _ _,World.there_setCells hHeld.2.2 _ _ _⟩ (fun hHeld=>?_)
  clear hK K
  walk_nrm
  refine zt 7 (.int .i64 er4) rfl (fun _ hS=>by go_simp) hHeld ?_
  walk_nrm
  refine zd ?_
  go_wp2_with fail
  refine bodyPost_ret (results_rec _ _ w.heap.size (w.heap.size+1) z z _ _ _ rfl rfl rfl rfl rfl (fail_r4 H9.out) (fail_r5 H9.out) HZL.out HZL.out) rfl ?_
  exact ⟨fail_below H9.out,_,_,_,_,er4,rfl,HZZ.out,by rw [HN.out];exact HE4N.out⟩
 subst e4
 have K:=sum_any y2 W9 (by have:=HT2.out;omega)
 go_wp2_with (first|(refine wpList_store_row rfl 27 _ _ rfl w.heap.size L4.toArray rfl rfl 27 z.toArray H8.out.r4 (by simpa only [List.size_toArray] using info27 L4 HL4.out) (by simp only [List.size_toArray,HL4.out,HZL.out]) HA41.out ?_))
 rw [←HW9.out]
 refine K.mono ?_
 rintro e W10 ⟨hB10,A5,er5,rfl,hA5,hA51,hsm⟩
 obtain ⟨L5,rfl⟩:∃ L5:List Value,A5=L5.toArray:=⟨A5.toList,by simp⟩
 have hl5:L5.length=32:=by simpa using hA5
 have H10:Hid (Three w.heap.size w W10 L4 z z):=zh (H9.out.still hB10)
 have r10:Hid (W10.heap[W3.heap.size]?=some (.cells #[.string x0,.string x1,.string x2] 187 (0,0))):=zh ((hB10.block _ (lt_of_heap r9b.out)).trans r9b.out)
 obtain ⟨W11,hW11⟩:=zg (W10.setRow (w.heap.size+1) L5.toArray)
 have n3:W3.heap.size≠w.heap.size+1:=by have:=lt_of_heap H3.out.r5;omega
 have H11:Hid (Three w.heap.size w W11 L4 L5 z):=zh (by rw [hW11];exact H10.out.set5 hl5)
 have r11:Hid (W11.heap[W3.heap.size]?=some (.cells #[.string x0,.string x1,.string x2] 187 (0,0))):=zh (by rw [hW11];exact heap_setRow_far r10.out n3)
 have HL5:=zh hl5
 have HA51:=zh hA51
 have HSM5:=zh hsm
 have HW11:=zh hW11
 clear K p3 hB10 hA5 hA51 hsm hl5 n3 hW11
 by_cases e5:er5=0
 rotate_left
 ·have g5:(er5 != 0)=true:=by simpa using e5
  have HE5N:=zh e5
  have hn:recP s.data.toList=none:=by rw [HR3.out,if_neg];intro h;exact e5 (HSM5.out.1 h.2.2)
  have HN:=zh hn
  clear hn
  clear e5
  go_wp2_with (first|(refine wpList_store_row rfl 27 _ _ rfl (w.heap.size+1) L5.toArray rfl rfl 27 z.toArray H10.out.r5 (by simpa only [List.size_toArray] using info27 L5 HL5.out) (by simp only [List.size_toArray,HL5.out,HZL.out]) HA51.out ?_))
  rw [←HW11.out]
  have hu:=Tryz.underlying27
  have t4:=there_of_heap H11.out.r4 H11.out.l4
  have t5:=there_of_heap H11.out.r5 H11.out.l5
  have t7:=range_of_heap H11.out.r7
  refine wp_region_noPanic ?_
  refine wp_region_held_drew (S:=fun w'=>w'.rangeAt (w.heap.size+1+1) 0 z∧w'.there w.heap.size 0 32∧w'.there (w.heap.size+1) 0 32) (by kernel_rfl) ⟨by simpa using t7,by simpa using t4,by simpa using t5⟩ (fun hHeld=>?_)
  refine zj 0 (.agg z.toArray) rfl (yieldsIf_load_mid (by rfl) 27 _ rfl (w.heap.size+1+1) 0 rfl z _ (fun _ h=>h.1) hu rfl HI.out) hHeld ?_
  walk_nrm
  refine zj 1 (.agg z.toArray) rfl (yieldsIf_load_mid (by rfl) 27 _ rfl (w.heap.size+1+1) 0 rfl z _ (fun _ h=>h.1) hu rfl HI.out) hHeld ?_
  walk_nrm
  refine zt 2 (.int .i64 er5) rfl (fun _ hS=>by go_simp) hHeld ?_
  walk_nrm
  refine zt 3 (.string ⟨#[]⟩) rfl (fun _ hS=>by go_simp) hHeld ?_
  walk_nrm
  refine zt 4 (.string ⟨#[]⟩) rfl (fun _ hS=>by go_simp) hHeld ?_
  walk_nrm
  refine wpAnyH_one (i:=5) (o:=_) (by kernel_rfl) rfl (fun K hK=>?_)
  rw [if_pos (by rfl)]
  refine wp_store_mid _ _ _ rfl w.heap.size 0 z.toArray rfl rfl (by simpa only [List.size_toArray,HZL.out] using hHeld.2.1) (by simpa only [List.size_toArray] using HI.out) (all_oneCell_toArray HZ1.out) ?_
  refine hK.out _ _ ⟨World.rangeAt_setCells_apart hHeld.1 _ _ _ (by omega),World.there_setCells hHeld.2.1 _ _ _,World.there_setCells hHeld.2.2 _ _ _⟩ (fun hHeld=>?_)
  clear hK K
  walk_nrm
  refine wpAnyH_one (i:=6) (o:=_) (by kernel_rfl) rfl (fun K hK=>?_)
  rw [if_pos (by rfl)]
  refine wp_store_mid _ _ _ rfl (w.heap.size+1) 0 z.toArray rfl rfl (by simpa only [List.size_toArray,HZL.out] using hHeld.2.2) (by simpa only [List.size_toArray] using HI.out) (all_oneCell_toArray HZ1.out) ?_
  refine hK.out _ _ ⟨World.rangeAt_setCells_apart hHeld.1 _ _ _ (by omega),World.there_setCells hHeld.2.1 _ _ _,World.there_setCells hHeld.2.2 _ _ _⟩ (fun hHeld=>?_)
  clear hK K
  walk_nrm
  refine zt 7 (.int .i64 er5) rfl (fun _ hS=>by go_simp) hHeld ?_
  walk_nrm
  refine zd ?_
  go_wp2_with fail
  refine bodyPost_ret (results_rec _ _ w.heap.size (w.heap.size+1) z z _ _ _ rfl rfl rfl rfl rfl (fail_r4 H11.out) (fail_r5 H11.out) HZL.out HZL.out) rfl ?_
  exact ⟨fail_below H11.out,_,_,_,_,er5,rfl,HZZ.out,by rw [HN.out];exact HE5N.out⟩
 subst e5
 have hs:recP s.data.toList=some (x0.data.toList,x1.data.toList):=by rw [HR3.out,if_pos ⟨HER.out.symm,HSM.out.2 (by simp),HSM5.out.2 (by simp)⟩]
 have HS:=zh hs
 clear hs
 go_wp2_with (first|(refine wpList_store_row rfl 27 _ _ rfl (w.heap.size+1) L5.toArray rfl rfl 27 z.toArray H10.out.r5 (by simpa only [List.size_toArray] using info27 L5 HL5.out) (by simp only [List.size_toArray,HL5.out,HZL.out]) HA51.out ?_))
 rw [←HW11.out]
 have hu:=Tryz.underlying27
 have n3:w.heap.size+1<W3.heap.size:=lt_of_heap H3.out.r5
 have t4:=there_of_heap H11.out.r4 H11.out.l4
 have t5:=there_of_heap H11.out.r5 H11.out.l5
 have a4:=range_of_heap H11.out.r4
 have a5:=range_of_heap H11.out.r5
 have a9:=range3_of_heap r11.out
 have HI4:=zh (info27 L4 HL4.out)
 have HI5:=zh (info27 L5 HL5.out)
 refine wp_region_noPanic ?_
 refine wp_region_held_drew (S:=(fun w'=>w'.rangeAt w.heap.size 0 L4∧w'.rangeAt (w.heap.size+1) 0 L5∧w'.there w.heap.size 0 32∧w'.there (w.heap.size+1) 0 32∧w'.rangeAt W3.heap.size 0 [.string x0,.string x1,.string x2])) (by kernel_rfl) ⟨by simpa using a4,by simpa using a5,by simpa using t4,by simpa using t5,by simpa using a9⟩ (fun hHeld=>?_)
 refine zt 0 (.pointer (some ⟨W3.heap.size,0,none⟩)) rfl (fun _ hS=>by have c0:World.cell? _ ⟨W3.heap.size,0,none⟩=_:=hS.2.2.2.2 0 _ rfl;have c1:World.cell? _ ⟨W3.heap.size,1,none⟩=_:=hS.2.2.2.2 1 _ rfl;clear hS;go_simp) hHeld ?_
 walk_nrm
 refine zt 1 (.string x0) rfl (fun _ hS=>by have c0:World.cell? _ ⟨W3.heap.size,0,none⟩=_:=hS.2.2.2.2 0 _ rfl;have c1:World.cell? _ ⟨W3.heap.size,1,none⟩=_:=hS.2.2.2.2 1 _ rfl;clear hS;go_simp) hHeld ?_
 walk_nrm
 refine zt 2 (.pointer (some ⟨W3.heap.size,1,none⟩)) rfl (fun _ hS=>by have c0:World.cell? _ ⟨W3.heap.size,0,none⟩=_:=hS.2.2.2.2 0 _ rfl;have c1:World.cell? _ ⟨W3.heap.size,1,none⟩=_:=hS.2.2.2.2 1 _ rfl;clear hS;go_simp) hHeld ?_
 walk_nrm
 refine zt 3 (.string x1) rfl (fun _ hS=>by have c0:World.cell? _ ⟨W3.heap.size,0,none⟩=_:=hS.2.2.2.2 0 _ rfl;have c1:World.cell? _ ⟨W3.heap.size,1,none⟩=_:=hS.2.2.2.2 1 _ rfl;clear hS;go_simp) hHeld ?_
 walk_nrm
 refine zj 4 (.agg L4.toArray) rfl (yieldsIf_load_mid (by rfl) 27 _ rfl w.heap.size 0 rfl L4 _ (fun _ h=>h.1) hu rfl HI4.out) hHeld ?_
 walk_nrm
 refine zj 5 (.agg L5.toArray) rfl (yieldsIf_load_mid (by rfl) 27 _ rfl (w.heap.size+1) 0 rfl L5 _ (fun _ h=>h.2.1) hu rfl HI5.out) hHeld ?_
 walk_nrm
 refine zt 6 (.string x0) rfl (fun _ hS=>by go_simp) hHeld ?_
 walk_nrm
 refine zt 7 (.string x1) rfl (fun _ hS=>by go_simp) hHeld ?_
 walk_nrm
 refine wpAnyH_one (i:=8) (o:=_) (by kernel_rfl) rfl (fun K hK=>?_)
 rw [if_pos (by rfl)]
 refine wp_store_mid _ _ _ rfl w.heap.size 0 L4.toArray rfl rfl (by simpa only [List.size_toArray,HL4.out] using hHeld.2.2.1) (by simpa only [List.size_toArray] using HI4.out) HA41.out ?_
 refine hK.out _ _ ⟨World.rangeAt_setCells_same _ _ _ _ (by rw [HL4.out];exact hHeld.2.2.1),World.rangeAt_setCells_apart hHeld.2.1 _ _ _ (by omega),World.there_setCells hHeld.2.2.1 _ _ _,World.there_setCells hHeld.2.2.2.1 _ _ _,World.rangeAt_setCells_apart hHeld.2.2.2.2 _ _ _ (by omega)⟩ (fun hHeld=>?_)
 clear hK K
 walk_nrm
 refine wpAnyH_one (i:=9) (o:=_) (by kernel_rfl) rfl (fun K hK=>?_)
 rw [if_pos (by rfl)]
 refine wp_store_mid _ _ _ rfl (w.heap.size+1) 0 L5.toArray rfl rfl (by simpa only [List.size_toArray,HL5.out] using hHeld.2.2.2.1) (by simpa only [List.size_toArray] using HI5.out) HA51.out ?_
 refine hK.out _ _ ⟨World.rangeAt_setCells_apart hHeld.1 _ _ _ (by omega),World.rangeAt_setCells_same _ _ _ _ (by rw [HL5.out];exact hHeld.2.2.2.1),World.there_setCells hHeld.2.2.1 _ _ _,World.there_setCells hHeld.2.2.2.1 _ _ _,World.rangeAt_setCells_apart hHeld.2.2.2.2 _ _ _ (by omega)⟩ (fun hHeld=>?_)
 clear hK K
 walk_nrm
 refine zt 10 (.int .i64 0) rfl (fun _ hS=>by go_simp) hHeld ?_
 walk_nrm
 refine zd ?_
 go_wp2_with fail
 refine bodyPost_ret (results_rec _ _ w.heap.size (w.heap.size+1) L4 L5 _ _ _ rfl rfl rfl rfl rfl hHeld.1 hHeld.2.1 HL4.out HL5.out) rfl ?_
 exact ⟨below_setCells (below_setCells (below_drew H11.out.below) (Nat.le_refl _) _) (by omega) _,x0,x1,_,_,0,rfl,⟨by simpa using HL4.out,HA41.out,by simpa using HL5.out,HA51.out⟩,by rw [HS.out];exact ⟨rfl,rfl,rfl⟩⟩
end Go.Proofs.YtdfdikpklddnhaaGreatDoor
