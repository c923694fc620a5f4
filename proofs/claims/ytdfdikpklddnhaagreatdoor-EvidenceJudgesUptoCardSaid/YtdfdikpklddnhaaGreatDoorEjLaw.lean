/- Of the proof of EvidenceJudges, second form: for values of bulk at most 1048576. (EjLaw) -/
import Derived.Test.YtdfdikpklddnhaaGreatDoorEj01
import Derived.Test.YtdfdikpklddnhaaGreatDoorCards
import Derived.Test.YtdfdikpklddnhaaGreatDoorTie
import Derived.Test.YtdfdikpklddnhaaGreatDoorEj31
import Derived.Test.YtdfdikpklddnhaaGreatDoorEj48
import Derived.Test.YtdfdikpklddnhaaGreatDoorEj49
import Derived.WalkKit
import Derived.ProofKit
import Derived.OpenShut
import Derived.Below
import Derived.Lay
import Derived.Deep.DeepHandedRow
import Derived.SevenTiedAt
namespace Go.Proofs.YtdfdikpklddnhaaGreatDoor.evidenceJudges
open Go.Proofs.YtdfdikpklddnhaaGreatDoor
open Go.ChangeShapes Go.WideShapes Go.ChangeAt Go.RowKit
set_option linter.unusedVariables false
theorem own:ownKnob Tryz.prog.godebug=none:=by kernel_rfl
theorem params5:Tryz.f5.params=#[25]:=by kernel_rfl
theorem list6 {α:Type} {l:List α} (h:l.length=6):∃ v0 v1 v2 v3 v4 v5,l=[v0,v1,v2,v3,v4,v5]:=by
 match l,h with
 | [v0,v1,v2,v3,v4,v5],_=>exact ⟨v0,v1,v2,v3,v4,v5,rfl⟩
set_option maxRecDepth 100000 in
theorem case_of_trod {H:Type} {enc:TypeId × Value→H} {W:World} {fuel:Nat} {cs:List Value} {x:DataW H × List MemPlace} (h:DataW.trod enc Tryz.prog W 0 (fun _=>true) true fuel 25 cs=some x) (hb:Rows.uptoBulk x.1≤1048576) :
  ∃ (k:Int) (av bv:Value) (p q:ByteArray) (lv:Value) (A B:List FactP) (K:List Bs),cs=(caseC k av bv p q lv).toList ∧
   (FactsArg W av A∧A.length≤1048576∧(∀ f∈A,f.note.length≤1048576)∧∀ f∈A,∀ y∈f.proof,y.length=32) ∧
   (FactsArg W bv B∧B.length≤1048576∧(∀ f∈B,f.note.length≤1048576)∧∀ f∈B,∀ y∈f.proof,y.length=32) ∧
   (HsArg W lv K∧K.length≤1048576∧∀ y∈K,y.length=32)∧p.size≤1048576∧q.size≤1048576:=by
 obtain ⟨xs,n,_,rfl,hl,hlen,hf⟩:=DataW.trod_struct Tryz.underlying25 h
 rw [Tryz.cells25'] at hl
 obtain ⟨v0,v1,v2,v3,v4,v5,rfl⟩:=list6 hl
 obtain ⟨y0,y1,y2,y3,y4,y5,rfl⟩:=list6 (l:=xs) hlen
 have g0:=hf 0 _ rfl
 have g1:=hf 1 _ rfl
 have g2:=hf 2 _ rfl
 have g3:=hf 3 _ rfl
 have g4:=hf 4 _ rfl
 have g5:=hf 5 _ rfl
 simp [Tryz.cells3',Tryz.cells22',Tryz.cells9',Tryz.cells23'] at g0 g1 g2 g3 g4 g5
 have hy:∀ y∈[y0,y1,y2,y3,y4,y5],Rows.uptoBulk y.1≤1048576:=fun y hy=>by
  have h1:=bulk_mem (l:=[y0,y1,y2,y3,y4,y5].map (·.1)) (List.mem_map.2 ⟨y,hy,rfl⟩)
  have h2:Rows.uptoBulk (DataW.agg ([y0,y1,y2,y3,y4,y5].map (·.1)))≤1048576:=hb
  simp only [Rows.uptoBulk] at h2
  omega
 obtain ⟨k,e0,_⟩:=DataW.trod_int Tryz.underlying3 g0
 obtain ⟨av,A,e1,rA⟩:=facts_of_trod g1 (hy _ (by simp))
 obtain ⟨bv,B,e2,rB⟩:=facts_of_trod g2 (hy _ (by simp))
 obtain ⟨p,e3,x3,_⟩:=DataW.trod_string Tryz.underlying9 g3
 obtain ⟨q,e4,x4,_⟩:=DataW.trod_string Tryz.underlying9 g4
 obtain ⟨lv,K,e5,hK,hK32,hKb⟩:=hashes_of_trod g5
 have b3:=hy y3 (by simp)
 have b4:=hy y4 (by simp)
 rw [x3] at b3
 rw [x4] at b4
 simp only [Rows.uptoBulk,Array.length_toList] at b3 b4
 simp at e0 e1 e2 e3 e4 e5
 subst e0 e1 e2 e3 e4 e5
 exact ⟨k,v1,v2,p,q,v5,A,B,K,rfl,rA,rB,⟨hK,Nat.le_trans hKb (hy _ (by simp)),hK32⟩,by show p.data.size≤_;omega,by show q.data.size≤_;omega⟩
theorem plainLaid:(Rows.evidenceJudgesUptoRow.laid.all fun x=>x.2.handleName?.isNone)=true:=by kernel_rfl
set_option maxRecDepth 100000 in
theorem contract (H:Type) (enc:TypeId × Value→H) (W:World) (base:Nat) (args:Array Value) (ds gs:List (DataW H)) (before:List MemPlace)
  (hval:∀ (j:Nat) t v,Tryz.f5.params[j]?=some t→args[j]?=some v→Value.okWide Tryz.prog W .any base t v)
  (hW:DataW.Whole enc Tryz.prog Tryz.f5.params.toList Rows.evidenceJudgesSpec.vars false W args.toList ds gs before) (hk:Rows.uptoSmall H (ds++gs)=true) (hL:laidMetH Tryz.prog Rows.evidenceJudgesUptoRow.laid W) (hsh:W.ShapedOpen Tryz.prog) :
  Calls Tryz.prog 5 args W fun e W'=>∃ v,e=.returned v∧Rows.evidenceJudgesSpec.post enc Tryz.prog Tryz.f5 false true false false W args v W':=by
 have hW':=hW
 obtain ⟨p,q,hA0,hV,rfl,hfz,hnd⟩:=hW
 have hA:DataW.TrodAll enc Tryz.prog W 0 (fun _=>true) true Tryz.f5.params.toList args.toList ds p:=hA0
 rw [params5] at hA hval
 obtain ⟨v0,d,rfl,rfl,h0⟩:=trodAll_one hA
 obtain ⟨rfl,rfl⟩:=trodVars_none hV
 have k0:=h0
 have lt0:∀ x∈p,x.block<W.heap.size:=by obtain ⟨m,hm⟩:=k0;exact DataW.trod_lt m _ _ _ hm
 have hb:Rows.uptoBulk d≤1048576:=by
  have h:Rows.uptoBulkAll ([d]++([]:List (DataW H)))≤1048576:=of_decide_eq_true hk
  exact Nat.le_trans (bulk_mem (l:=[d]++[]) (List.mem_cons_self ..)) h
 obtain ⟨cs,rfl,hsz⟩:=okWide_struct Tryz.underlying25 (hval 0 25 v0 rfl rfl)
 obtain ⟨fuel,hf⟩:=h0
 obtain ⟨k,av,bv,pp,qq,lv,A,B,K,hcs,⟨rA,rA1,rA2,rA3⟩,⟨rB,rB1,rB2,rB3⟩,⟨rK,rK1,rK2⟩,_,_⟩:=case_of_trod (x:=(d,p)) hf hb
 have hcs2:cs=caseC k av bv pp qq lv:=by
  have:cs.toList=(caseC k av bv pp qq lv).toList:=hcs
  exact Array.toList_inj.1 this
 subst hcs2
 obtain ⟨he,henv⟩:=env_of_laid hL plainLaid hsh (by simp [Rows.evidenceJudgesUptoRow]) (by simp [Rows.evidenceJudgesUptoRow]) (by simp [Rows.evidenceJudgesUptoRow]) (by simp [Rows.evidenceJudgesUptoRow]) (by simp [Rows.evidenceJudgesUptoRow])
 clear hA0
 simp only [List.append_nil] at hW'
 refine (judges_walk k av bv lv pp qq A B K W rA rA1 rA2 rA3 rB rB1 rB2 rB3 rK rK1 rK2 he henv).mono fun e W' ⟨he,hm⟩=>?_
 subst he
 have bel:=hm.below
 exact ⟨_,rfl,_,_,_,[],_,[],hW',trodAll_mk1 (shut_bool Tryz.underlying4 _),trodAll_mk1 (Below.trod laidOut (by kernel_rfl) (of_decide_eq_true (by kernel_rfl)) k0 bel lt0),rfl,bel.frame _,fun h=>by cases h⟩
theorem reads (os:Os) {H:Type} (enc:TypeId × Value→H):∃ places,DataW.whole enc Tryz.prog ((World.laidAll Tryz.prog os Rows.evidenceJudgesUptoRow.laid).forCall (fun _ _=>0) ⟨#[],#[.agg (caseC 0 (.slice none 0 0) (.slice none 0 0) ByteArray.empty ByteArray.empty (.slice none 0 0))],[]⟩).memory Tryz.f5.params.toList Rows.evidenceJudgesSpec.vars false #[Value.agg (caseC 0 (.slice none 0 0) (.slice none 0 0) ByteArray.empty ByteArray.empty (.slice none 0 0))].toList 8=some ([.agg [.lit (.int .i64 0),.nil,.nil,.lit (.string []),.lit (.string []),.nil]],[],places) :=
 ⟨[],by kernel_rfl⟩
theorem laid_met (os:Os) (args:Array Value):laidMetH Tryz.prog Rows.evidenceJudgesUptoRow.laid ((World.laidAll Tryz.prog os Rows.evidenceJudgesUptoRow.laid).forCall (fun _ _=>0) ⟨#[],args,[]⟩).memory:=by
 rw [MakeChecks.laidMetH_plain _ _ _ plainLaid]
 exact laidMet_laidAll _ (by kernel_rfl) (by kernel_rfl)
set_option maxRecDepth 100000 in
theorem lifted (os:Os) (started:os.Started) (H:Type) (enc:TypeId × Value→H) (F:Stop.Interp) :
  ReturnsInHanded {} Tryz.checked os 5 .any ((Rows.OpenSpec.upto Rows.evidenceJudgesSpec).preRow enc Tryz.prog Tryz.f5 Rows.evidenceJudgesUptoRow.domain false Rows.evidenceJudgesUptoRow.laid) (((Rows.OpenSpec.upto Rows.evidenceJudgesSpec).at F).post enc Tryz.prog Tryz.f5 false true false false):=by
 obtain ⟨places,hx⟩:=reads os enc
 refine returnsInHanded_of_row (C:=Tryz.checked) (s:=Rows.OpenSpec.upto Rows.evidenceJudgesSpec) own started (by kernel_rfl) Tryz.func5
  ⟨World.laidAll Tryz.prog os Rows.evidenceJudgesUptoRow.laid,fun _ _=>0,⟨#[],#[.agg (caseC 0 (.slice none 0 0) (.slice none 0 0) ByteArray.empty ByteArray.empty (.slice none 0 0))],[]⟩,World.laidAll_os _ _ _,
   World.shaped_of_ZipB (by kernel_rfl) (by kernel_rfl),rfl,(Input.okWide_of_okWideB (by kernel_rfl)).2,
   OpenSpec.preRow_of_cond 8 hx (by kernel_rfl) (fun k hk=>by cases hk;kernel_rfl) (by kernel_rfl) (laid_met os _),by simp [Assume.holds]⟩ ?_
 intro W base args ds gs before hval hW _ hcond _ hL hsh _
 exact contract H enc W base args ds gs before hval hW (hcond _ rfl) hL hsh
theorem saidUpto:Rows.EvidenceJudgesUptoSaid :=
 OpenClaim.holds_of_cond 5 Tryz.f5 rfl rfl rfl rfl rfl rfl rfl ⟨rfl,rfl,rfl,rfl,rfl⟩ rfl rfl rfl rfl rfl (by kernel_rfl) Tryz.func5 closed
  (of_decide_eq_true (by kernel_rfl)) (by unfold Func.isWrapper;first|(rw [if_pos (by decide +kernel)];kernel_rfl)|(rw [if_neg (by decide +kernel)];exact ⟨rfl,rfl⟩))
  (fun os started H enc _ F=>by rw [OpenClaim.pre_eq_preRow];exact lifted os started H enc F)
theorem plain (f : FuncId) (fn : Func) (hf : Tryz.pinned.checked.prog.funcNamed "ledger/ledgerlaw18.EvidenceJudges" = some f) (hfn : Tryz.pinned.checked.prog.funcs[f]? = some fn) :
  true=Tryz.pinned.checked.prog.looks []∧∀ (j:Nat) t,fn.params[j]?=some t→Tryz.pinned.checked.prog.wantsStandIn t=false:=by
 obtain rfl : f = 5 := Option.some.inj ((show Tryz.prog.funcNamed "ledger/ledgerlaw18.EvidenceJudges" = some 5 by kernel_rfl).symm.trans hf) |>.symm
 obtain rfl:fn=Tryz.f5:=(Option.some.inj (Tryz.func5.symm.trans hfn)).symm
 refine ⟨by kernel_rfl,fun j t ht=>?_⟩
 rw [params5] at ht
 obtain rfl:t=25:=by simpa using Array.mem_of_getElem? ht
 exact (show Tryz.prog.wantsStandIn 25=false by kernel_rfl)
theorem proved:Rows.EvidenceJudgesUptoCardSaid :=
 Claim7.holds_tied_plain_at .later [] _ _ _ _ saidUpto (fun _ h=>by cases h) (by kernel_rfl) (fun _ h=>by cases h) evidenceJudgesUpto_row_tie rfl ⟨rfl,rfl⟩ (by kernel_rfl) rfl plain (by kernel_rfl)
end Go.Proofs.YtdfdikpklddnhaaGreatDoor.evidenceJudges
