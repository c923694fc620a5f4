/- Of the proof of EvidenceJudges, second form: for values of bulk at most 1048576. (Ej15) -/
import Derived.Test.YtdfdikpklddnhaaGreatDoorEj01
import Derived.Test.YtdfdikpklddnhaaGreatDoorEj14
import Derived.Maps.Own
import Derived.Maps.Views
import Derived.DeepKeys4
import Derived.Deep.DeepCutAuto
import Derived.BigQuiet
namespace Go.Proofs.YtdfdikpklddnhaaGreatDoor
open Go.RowKit
set_option linter.unusedSimpArgs false
theorem byteV_inj {a b:UInt8} (h:byteV a=byteV b):a=b:=by
 unfold byteV at h
 simp only [Value.int.injEq,true_and] at h
 exact UInt8.toNat_inj.1 (by omega)
theorem hashV_inj {a b:Bs} (h:hashV a=hashV b):a=b:=by
 unfold hashV at h
 simp only [Value.agg.injEq] at h
 have h2:a.map byteV=b.map byteV:=by simpa using congrArg Array.toList h
 clear h
 induction a generalizing b with
 | nil=>cases b with
  | nil=>rfl
  | cons y ys=>simp at h2
 | cons x xs ih=>cases b with
  | nil=>simp at h2
  | cons y ys =>
   simp only [List.map_cons,List.cons.injEq] at h2
   rw [byteV_inj h2.1,ih h2.2]
open Classical in
noncomputable def RH (v:Value):Option (DataW Unit × List MemPlace) :=
 if h:∃ l:Bs,l.length=32∧v=hashV l then some (.lit (.string h.choose),[]) else none
theorem RH_hash (l:Bs) (hl:l.length=32):RH (hashV l)=some (.lit (.string l),[]):=by
 have h:∃ m:Bs,m.length=32∧hashV l=hashV m:=⟨l,hl,rfl⟩
 unfold RH
 rw [dif_pos h,←hashV_inj h.choose_spec.2]
theorem RH_inv {v:Value} {d:DataW Unit} {ps:List MemPlace} (h:RH v=some (d,ps)):∃ l:Bs,l.length=32∧v=hashV l∧d=.lit (.string l):=by
 unfold RH at h
 split at h
 ·rename_i hx
  cases h
  exact ⟨hx.choose,hx.choose_spec.1,hx.choose_spec.2,rfl⟩
 ·cases h
theorem laidOut:laidOutB Tryz.prog=true:=by kernel_rfl
theorem row170:(170:TypeId)<Tryz.prog.types.size:=of_decide_eq_true (by kernel_rfl)
theorem wide170:(match Tryz.prog.underlying 170 with|some (.array _ _)|some (.struct _)=>true|_=>false)=true:=by kernel_rfl
theorem keyAt170:Tryz.prog.keyTypeAt 2 170=true:=by kernel_rfl
set_option maxRecDepth 100000 in
theorem spanLaw:Maps.Keyed Tryz.prog 170:=Maps.Keyed.of_law (deep_law_laid laidOut (m:=2) (by omega) row170 keyAt170 wide170)
theorem keyTop:∃ n,Tryz.prog.types.size+1=n+2:=⟨464,by kernel_rfl⟩
theorem keyType170:Tryz.prog.keyType 170=true:=by kernel_rfl
theorem cellsOf170:Tryz.prog.cellsOf 170=2:=by kernel_rfl
theorem cellsOf2:Tryz.prog.cellsOf 2=1:=by kernel_rfl
theorem wf_i64 (a:Nat) (h:a≤281474976710656):(Lit.int .i64 (a:Int)).wf=true:=by
 have h1:IntKind.i64.min=-9223372036854775808:=by decide
 have h2:IntKind.i64.max=9223372036854775807:=by decide
 show (decide (IntKind.i64.min≤(a:Int)) && decide ((a:Int)≤IntKind.i64.max))=true
 rw [h1,h2,Bool.and_eq_true]
 exact ⟨decide_eq_true (by omega),decide_eq_true (by omega)⟩
def spanV (a b:Nat):Value:=.agg #[.int .i64 a,.int .i64 b]
def spanK (a b:Nat):Lit:=.string (keyBytes [.int .i64 a,.int .i64 b])
theorem keyOf_span (a b:Nat) (ha:a≤281474976710656) (hb:b≤281474976710656):keyOf Tryz.prog 170 (spanV a b)=some (spanK a b):=by
 have wa:=wf_i64 a ha
 have wb:=wf_i64 b hb
 obtain ⟨n,hn⟩:=keyTop
 unfold keyOf spanV spanK
 rw [Tryz.underlying170,hn]
 simp [keyType170,Value.formed,Tryz.underlying170,cellsOf170,Value.cells,Program.keyLits,Tryz.underlying2,cellsOf2,wa,wb]
theorem spanK_inj {a b c d:Nat} (ha:a≤281474976710656) (hb:b≤281474976710656) (hc:c≤281474976710656) (hd:d≤281474976710656) (h:spanK a b=spanK c d):a=c∧b=d:=by
 have e:=spanLaw.inj (keyOf_span a b ha hb) (h ▸ keyOf_span c d hc hd)
 unfold spanV at e
 simp only [Value.agg.injEq] at e
 have e2:=congrArg Array.toList e
 simp at e2
 omega
def MapIs (w:World) (b n:Nat) (f:Nat→Nat→Bs):Prop :=
 ∃ D:DataW Unit,(∃ es,D=.map es)∧w.ownsMap Tryz.prog 170 RH b n D∧∀ x y,x≤281474976710656→y≤281474976710656→D.atKey (spanK x y) (.lit (.string zero32))=.lit (.string (f x y))
theorem MapIs.lt {w:World} {b n:Nat} {f:Nat→Nat→Bs} (h:MapIs w b n f):b<w.heap.size:=by
 obtain ⟨D,_,h,_⟩:=h
 exact h.lt
theorem MapIs.mv {F:Nat→Prop} {w w':World} {b n:Nat} {f:Nat→Nat→Bs} (h:MapIs w b n f) (hm:Mv F w w') (hF:¬ F b):MapIs w' b n f:=by
 have hlt:=h.lt
 obtain ⟨D,h0,⟨es,c,h1,h2⟩,h3⟩:=h
 exact ⟨D,h0,⟨es,c,(hm.block b hlt hF).trans h1,h2⟩,h3⟩
theorem MapIs.made (w:World):MapIs (w.alloc (.map #[] 0)) w.heap.size 0 (fun _ _=>zero32) :=
 ⟨.map [],⟨_,rfl⟩,World.ownsMap_made w _ _ _,fun _ _ _ _=>rfl⟩
def mput (f:Nat→Nat→Bs) (a b:Nat) (h:Bs):Nat→Nat→Bs:=fun x y=>if x=a∧y=b then h else f x y
theorem MapIs.put {w':World} {b n:Nat} {f:Nat→Nat→Bs} {D:DataW Unit} (hD:∃ es,D=.map es) (hf:∀ x y,x≤281474976710656→y≤281474976710656→D.atKey (spanK x y) (.lit (.string zero32))=.lit (.string (f x y)))
  (p q:Nat) (hp:p≤281474976710656) (hq:q≤281474976710656) (l:Bs) (h:w'.ownsMap Tryz.prog 170 RH b n (D.put (spanK p q) (.lit (.string l)))):MapIs w' b n (mput f p q l):=by
 have hk:=spanLaw.key (keyOf_span p q hp hq)
 obtain ⟨es,rfl⟩:=hD
 refine ⟨_,⟨_,rfl⟩,h,fun x y hx hy=>?_⟩
 unfold mput
 by_cases e:x=p∧y=q
 ·obtain ⟨rfl,rfl⟩:=e
  rw [if_pos ⟨rfl,rfl⟩]
  exact Maps.atKey_put_same (D:=.map es) ⟨es,rfl⟩ hk _ _
 ·rw [if_neg e,←hf x y hx hy]
  exact Maps.atKey_put_other (D:=.map es) (fun h=>e (spanK_inj hx hy hp hq h)) _ _
theorem MapIs.update {w:World} {b n:Nat} {f:Nat→Nat→Bs} (h:MapIs w b n f) (hn:n<maxLen) (p q:Nat) (hp:p≤281474976710656) (hq:q≤281474976710656) (l:Bs) (hl:l.length=32) :
  ∃ w',(Instr.mapUpdate 178 (.map (some b)) (spanV p q) (hashV l)).run Tryz.prog w=.ok () w'∧MapIs w' b (n+1) (mput f p q l)∧w.grownBy w' (some b):=by
 obtain ⟨D,hD,ho,hf⟩:=h
 obtain ⟨w',h1,h2,h3⟩:=ho.update spanLaw Tryz.underlying178 hn (keyOf_span p q hp hq) (RH_hash l hl)
 exact ⟨w',h1,MapIs.put hD hf p q hp hq l h2,h3⟩
theorem wp_insert {o:Oper} {a:Act} {w:World} {K:Act→World→Prop} {Q:Exit→Act→World→Prop} (m x v:Operand) (ho:o.op=.insert 178 m x v∨o.op=.mapUpdate 178 m x v) {b n:Nat} {f:Nat→Nat→Bs} (p q:Nat) (l:Bs)
  (hm:a.eval m=.map (some b)) (hx:a.eval x=spanV p q) (hv:a.eval v=hashV l) (h:MapIs w b n f) (hn:n<maxLen) (hp:p≤281474976710656) (hq:q≤281474976710656) (hl:l.length=32)
  (hK:∀ w',MapIs w' b (n+1) (mput f p q l)→w.grownBy w' (some b)→K (a.put o.dst undef) w'):Oper.wp Tryz.prog o a w K Q:=by
 obtain ⟨w',h1,h2,h3⟩:=h.update hn p q hp hq l hl
 unfold Oper.wp
 rcases ho with ho|ho <;> simp [execOp,ho,hm,hx,hv,h1,Result.andThen] <;> exact hK w' h2 h3
end Go.Proofs.YtdfdikpklddnhaaGreatDoor
namespace Go.Proofs.YtdfdikpklddnhaaGreatDoor
open Go.RowKit
def wayUp (n m:Nat):List Step:=(wayDown (treeStop m) (treeLeft m) 0 n).1.reverse
theorem wayTree_zero (n m:Nat) (h:(treeSeed n m).1=0):wayTree n m=wayUp n m:=by
 unfold wayTree wayUp;rw [if_neg (by omega),List.nil_append]
theorem wayTree_pos (n m:Nat) (h:0<(treeSeed n m).1):wayTree n m=⟨(treeSeed n m).1,(treeSeed n m).2,false⟩ :: wayUp n m:=by
 unfold wayTree wayUp;rw [if_pos h];rfl
structure TSt where
 fresh:Nd
 old:Nd
 sa:Nat
 sb:Nat
def tStep (k:Int) (st:TSt) (s:Step) (h:Bs):TSt :=
 if s.right=true then ⟨.joined st.fresh (.given h) (nodeP k st.fresh.sum h),st.old,st.sa,s.b⟩
 else ⟨.joined (.given h) st.fresh (nodeP k h st.fresh.sum),.joined (.given h) st.old (nodeP k h st.old.sum),s.a,st.sb⟩
def tRun (k:Int) (st:TSt) (way:List Step) (p:List Bs):Nat→TSt
 | 0=>st
 | j+1=>tStep k (tRun k st way p j) (way.getD j ⟨0,0,false⟩) (p.getD j [])
def tMap (k:Int) (st:TSt) (way:List Step) (p:List Bs):Nat→Nat→Nat→Bs
 | 0=>mput (fun _ _=>zero32) st.sa st.sb st.fresh.sum
 | j+1=>mput (tMap k st way p j) (tRun k st way p (j+1)).sa (tRun k st way p (j+1)).sb (tRun k st way p (j+1)).fresh.sum
def tBeg (n m:Nat) (old:Bs) (p:List Bs):Bs:=if 0<(treeSeed n m).1 then p.getD 0 [] else old
def tRest (n m:Nat) (p:List Bs):List Bs:=if 0<(treeSeed n m).1 then p.drop 1 else p
def tStart (n m:Nat) (old:Bs) (p:List Bs):TSt:=⟨.given (tBeg n m old p),.given (tBeg n m old p),(treeSeed n m).1,(treeSeed n m).2⟩
def tEnd (k:Int) (n m:Nat) (old:Bs) (p:List Bs):TSt:=tRun k (tStart n m old p) (wayUp n m) (tRest n m p) (wayUp n m).length
def tHashes (k:Int) (n m:Nat) (old:Bs) (p:List Bs):Nat→Nat→Bs:=tMap k (tStart n m old p) (wayUp n m) (tRest n m p) (wayUp n m).length
theorem wayDown_bound (stop:Nat→Nat→Bool) (left:Nat→Bool) (a b:Nat):∀ B,a≤B→b≤B→(∀ s∈(wayDown stop left a b).1,s.a≤B∧s.b≤B)∧(wayDown stop left a b).2.1≤B∧(wayDown stop left a b).2.2≤B:=by
 intro B ha hb
 by_cases h1:stop a b=true∨b<a+2
 ·rw [wayDown,if_pos h1]
  exact ⟨fun _ h=>(by cases h),ha,hb⟩
 ·have hc:=cutN_in a b (by omega)
  rw [wayDown,if_neg h1]
  by_cases h4:left (cutN a b)=true
  ·rw [if_pos h4]
   obtain ⟨i1,i2,i3⟩:=wayDown_bound stop left a (cutN a b) B ha (by omega)
   refine ⟨fun s hs=>?_,i2,i3⟩
   rcases List.mem_cons.1 hs with rfl|hs
   ·exact ⟨by show cutN a b≤B;omega,hb⟩
   ·exact i1 s hs
  ·rw [if_neg h4]
   obtain ⟨i1,i2,i3⟩:=wayDown_bound stop left (cutN a b) b B (by omega) hb
   refine ⟨fun s hs=>?_,i2,i3⟩
   rcases List.mem_cons.1 hs with rfl|hs
   ·exact ⟨ha,by show cutN a b≤B;omega⟩
   ·exact i1 s hs
termination_by b - a
theorem tRun_len (k:Int) (st:TSt) (way:List Step) (p:List Bs) (h1:st.fresh.sum.length=32) (h2:st.old.sum.length=32):∀ j,(tRun k st way p j).fresh.sum.length=32∧(tRun k st way p j).old.sum.length=32
 | 0=>⟨h1,h2⟩
 | j+1=>by
  show (tStep k (tRun k st way p j) _ _).fresh.sum.length=32∧(tStep k (tRun k st way p j) _ _).old.sum.length=32
  unfold tStep
  split
  ·exact ⟨nodeP_length _ _ _,(tRun_len k st way p h1 h2 j).2⟩
  ·exact ⟨nodeP_length _ _ _,nodeP_length _ _ _⟩
theorem tRun_bound (k:Int) (st:TSt) (way:List Step) (p:List Bs) (B:Nat) (h1:st.sa≤B) (h2:st.sb≤B) (hw:∀ s∈way,s.a≤B∧s.b≤B):∀ j,j≤way.length→(tRun k st way p j).sa≤B∧(tRun k st way p j).sb≤B
 | 0,_=>⟨h1,h2⟩
 | j+1,hj=>by
  have ih:=tRun_bound k st way p B h1 h2 hw j (by omega)
  have hs:way.getD j ⟨0,0,false⟩∈way:=by
   rw [List.getD_eq_getElem?_getD,List.getElem?_eq_getElem (by omega)]
   exact List.getElem_mem _
  have hb:=hw _ hs
  show (tStep k (tRun k st way p j) _ _).sa≤B∧(tStep k (tRun k st way p j) _ _).sb≤B
  unfold tStep
  split
  ·exact ⟨ih.1,hb.2⟩
  ·exact ⟨hb.1,ih.2⟩
theorem wayUp_len (n m:Nat) (hn:n≤281474976710656):(wayUp n m).length≤48:=by
 unfold wayUp
 rw [List.length_reverse]
 exact wayDown_len _ _ 48 0 n hn (by omega)
def WayIn (w:World) (v:Value) (way:List Step):Prop:=∃ a c,v=.slice a way.length c∧way.length≤c∧∀ j,j<way.length→∃ g off,a=some ⟨g,off,none⟩∧w.cell? ⟨g,off+j * 3,none⟩=some (.int .i64 (way.getD j ⟨0,0,false⟩).a)∧w.cell? ⟨g,off+j * 3+1,none⟩=some (.int .i64 (way.getD j ⟨0,0,false⟩).b)∧w.cell? ⟨g,off+j * 3+2,none⟩=some (.bool (way.getD j ⟨0,0,false⟩).right)
theorem WayIn.mv {w w':World} {v:Value} {way:List Step} (h:WayIn w v way) (hm:Mv (fun _=>False) w w'):WayIn w' v way:=by
 obtain ⟨a,c,rfl,hc,h⟩:=h
 refine ⟨a,c,rfl,hc,fun j hj=>?_⟩
 obtain ⟨g,off,rfl,h1,h2,h3⟩:=h j hj
 have hlt:=World.block_lt_of_cell? _ _ h1
 exact ⟨g,off,rfl,(hm.cell (p:=⟨g,off+j * 3,none⟩) hlt id).trans h1,(hm.cell (p:=⟨g,off+j * 3+1,none⟩) hlt id).trans h2,(hm.cell (p:=⟨g,off+j * 3+2,none⟩) hlt id).trans h3⟩
theorem WayIn.of_owns {w:World} {B:Nat} {v:Value} {way:List Step} (h:w.ownsRow B 174 3 v way.length (stepsV way)):WayIn w v way:=by
 obtain ⟨a,c,rfl⟩:=owns_shape h
 refine ⟨a,c,rfl,?_,fun j hj=>?_⟩
 ·rcases h.2 with ⟨he,h0⟩|⟨g,cap,cur,he,_,_,hc,_⟩
  ·rw [h0];exact Nat.zero_le _
  ·simp only [Value.slice.injEq] at he
   rw [he.2.2];exact hc
 obtain ⟨g,rfl,h0,h1,h2⟩:=way_at h j hj
 exact ⟨g,0,rfl,by rw [Nat.zero_add];exact h0,by rw [Nat.zero_add];exact h1,by rw [Nat.zero_add];exact h2⟩
theorem WayIn.tail {w:World} {g off c n:Nat} {s:Step} {way:List Step} (h:WayIn w (.slice (some ⟨g,off,none⟩) n c) (s :: way)):WayIn w (.slice (if c=1 then some ⟨g,off,none⟩ else some ⟨g,off+3,none⟩) (n - 1) (c - 1)) way:=by
 obtain ⟨a,c',he,hc,h⟩:=h
 simp only [Value.slice.injEq] at he
 obtain ⟨rfl,rfl,rfl⟩:=he
 simp only [List.length_cons] at hc
 by_cases h1:c=1
 ·rw [if_pos h1]
  refine ⟨some ⟨g,off,none⟩,c - 1,by simp,by omega,fun j hj=>by omega⟩
 ·rw [if_neg h1]
  refine ⟨some ⟨g,off+3,none⟩,c - 1,by simp,by omega,fun j hj=>?_⟩
  obtain ⟨g',off',he,h0,h1,h2⟩:=h (j+1) (by simp;omega)
  simp only [Option.some.injEq,Addr.mk.injEq] at he
  obtain ⟨rfl,rfl,_⟩:=he
  simp only [List.getD_cons_succ] at h0 h1 h2
  refine ⟨g,off+3,rfl,?_,?_,?_⟩
  ·rw [show off+3+j * 3=off+(j+1) * 3 by omega];exact h0
  ·rw [show off+3+j * 3+1=off+(j+1) * 3+1 by omega];exact h1
  ·rw [show off+3+j * 3+2=off+(j+1) * 3+2 by omega];exact h2
theorem HsIn.tail {w:World} {g off c n:Nat} {h0:Bs} {p:List Bs} (h:HsIn w (.slice (some ⟨g,off,none⟩) n c) (h0 :: p)):HsIn w (.slice (if c=1 then some ⟨g,off,none⟩ else some ⟨g,off+32,none⟩) (n - 1) (c - 1)) p:=by
 rcases h with ⟨he,_⟩|⟨g',off',cap,he,hc,hh,hlt⟩
 ·cases he
 ·simp only [Value.slice.injEq,Option.some.injEq,Addr.mk.injEq] at he
  obtain ⟨⟨rfl,rfl,_⟩,rfl,rfl⟩:=he
  simp only [List.length_cons] at hc
  by_cases h1:c=1
  ·rw [if_pos h1]
   have hp:p=[]:=List.eq_nil_of_length_eq_zero (by omega)
   subst hp
   exact .inr ⟨g,off,c - 1,by simp,by simp,fun j x hx=>by simp at hx,fun h=>absurd rfl h⟩
  ·rw [if_neg h1]
   refine .inr ⟨g,off+32,c - 1,by simp,by omega,fun j x hx=>?_,fun _=>hlt (by simp)⟩
   obtain ⟨a1,a2⟩:=hh (j+1) x (by simpa using hx)
   refine ⟨a1,fun t u hu=>?_⟩
   rw [show off+32+j * 32+t=off+(j+1) * 32+t by omega]
   exact a2 t u hu
end Go.Proofs.YtdfdikpklddnhaaGreatDoor
namespace Go.Proofs.YtdfdikpklddnhaaGreatDoor
open Go.RowKit
set_option linter.unusedSimpArgs false
set_option maxRecDepth 100000 in
theorem wp_sum {o : Oper} {a : Act} {w : World} {K : Act → World → Prop} {Q : Exit → Act → World → Prop} (s : Nat) (ho : o.op = .call { callee := .invoke (.tmp s) "ledger/proof.sum", args := #[], argTypes := #[] }) (v : Value) (t : Nd) (hx : a.tmps[s]?.getD undef = v) (hn : NodeAt w v t)
  (hK:∀ w',Mv (fun _=>False) w w'→K (a.put o.dst (hashV t.sum)) w'):Oper.wp Tryz.prog o a w K Q:=by
 have hmg:=method_given
 have hmj:=method_joined
 unfold Oper.wp execOp
 rw [ho]
 cases t with
 | given h =>
  obtain ⟨hl,rfl⟩:=hn
  go_simp
  refine (givenSum_any h w hl).mono ?_
  rintro e w' ⟨rfl,hm⟩
  exact hK w' hm
 | joined l r h =>
  obtain ⟨hl,J,vl,vr,rfl,hj,_,_⟩:=hn
  go_simp
  refine (joinedSum_any h J vl vr w hl hj).mono ?_
  rintro e w' ⟨rfl,hm⟩
  exact hK w' hm
structure TL (w0 w:World) (T SB B R c:Nat) (st:TSt) (f:Nat→Nat→Bs):Prop where
 nodes:∃ fv ov,w.heap[T]?=some (.cells #[fv,ov,.map (some B)] 180 (0,0))∧NodeAt w fv st.fresh∧NodeAt w ov st.old
 s:w.heap[SB]?=some (.cells #[.int .i64 st.sa,.int .i64 st.sb] 170 (0,0))
 r:w.heap[R]?=some (.cells #[.nilIface,.nilIface,.map none] 180 (0,0))
 m:MapIs w B c f
 mv:Mv (fun _=>False) w0 w
theorem TL.still {w0 w w':World} {T SB B R c:Nat} {st:TSt} {f:Nat→Nat→Bs} (h:TL w0 w T SB B R c st f) (hm:Mv (fun _=>False) w w'):TL w0 w' T SB B R c st f:=by
 obtain ⟨⟨fv,ov,h1,h2,h3⟩,h4,h5,h6,h7⟩:=h
 exact ⟨⟨fv,ov,(hm.block T (lt_of_heap h1) id).trans h1,h2.mv hm,h3.mv hm⟩,(hm.block SB (lt_of_heap h4) id).trans h4,(hm.block R (lt_of_heap h5) id).trans h5,h6.mv hm id,h7.trans hm⟩
theorem TL.made {w wc x:World} {T S B R sa sb:Nat} {beg:Bs} {f:Nat→Nat→Bs} {Z:Array Value} (hm:Mv (fun _=>False) w wc) (hx:Mv (fun _=>False) wc x) (hT:x.heap[T]?=some (.cells Z 180 (0,0))) (hS:x.heap[S]?=some (.cells #[.int .i64 sa,.int .i64 sb] 170 (0,0)))
  (hR:x.heap[R]?=some (.cells #[.nilIface,.nilIface,.map none] 180 (0,0))) (hB:MapIs x B 1 f) (hb:beg.length=32) (h1:T≠B) (h2:T≠S) (h3:T≠R) (h4:w.heap.size≤T) :
  TL w (x.setRow T #[.iface 248 (hashV beg),.iface 248 (hashV beg),.map (some B)]) T S B R 1 ⟨.given beg,.given beg,sa,sb⟩ f :=
 have hmv:Mv (fun b=>b=T) x (x.setRow T #[.iface 248 (hashV beg),.iface 248 (hashV beg),.map (some B)]):=(Mv.refl (fun b=>b=T) _).setRow (.inl rfl) _
 ⟨⟨_,_,setRow_heap _ _ _ _ _ _ hT,⟨hb,rfl⟩,⟨hb,rfl⟩⟩,(setRow_other _ _ _ _ (Ne.symm h2)).trans hS,(setRow_other _ _ _ _ (Ne.symm h3)).trans hR,hB.mv hmv (Ne.symm h1),(hm.trans hx).setRow (.inr h4) _⟩
theorem three_one (t t':TypeId) (v v':Value) (b:Option Nat):(#[.iface t v,.iface t' v',.map b]:Array Value).all (·.oneCell')=true:=by simp [Value.oneCell']
theorem NodeAt.setCell {w:World} {v:Value} {t:Nd} (h:NodeAt w v t) {b i:Nat} {C:Array Value} {E:TypeId} (hb:w.heap[b]?=some (.cells C E (0,0))) (hE:E≠309) (x:Value):NodeAt (w.setCell ⟨b,i,none⟩ x) v t :=
 NodeAt.mvT (F:=fun k=>k=b) ((Mv.refl (fun k=>k=b) _).setCell (p:=⟨b,i,none⟩) (.inl rfl) _) (fun k hk c e=>by subst hk;rw [hb] at e;simp at e;exact hE e.2) h
theorem MapIs.setCell {w:World} {B n:Nat} {f:Nat→Nat→Bs} (h:MapIs w B n f) {b i:Nat} (hb:B≠b) (x:Value):MapIs (w.setCell ⟨b,i,none⟩ x) B n f :=
 h.mv (F:=fun k=>k=b) ((Mv.refl (fun k=>k=b) _).setCell (p:=⟨b,i,none⟩) (.inl rfl) _) hb
theorem TL.fresh {w0 w w6:World} {T S B R c:Nat} {st:TSt} {f:Nat→Nat→Bs} (h:TL w0 w T S B R c st f) (hm:Mv (fun _=>False) w w6) {v:Value} {t:Nd} (hv:NodeAt w6 v t)
  (h0:w0.heap.size≤T) (h1:T≠B) (h2:T≠S) (h3:T≠R):TL w0 (w6.setCell ⟨T,0,none⟩ v) T S B R c { st with fresh:=t } f:=by
 obtain ⟨⟨fv,ov,a1,a2,a3⟩,a4,a5,a6,a7⟩:=h.still hm
 exact ⟨⟨v,ov,heap_setCell_same a1 _,hv.setCell a1 (by decide) _,a3.setCell a1 (by decide) _⟩,(heap_setCell_other (Ne.symm h2) _).trans a4,(heap_setCell_other (Ne.symm h3) _).trans a5,a6.setCell (Ne.symm h1) _,a7.setCell (.inr h0) _⟩
theorem TL.older {w0 w w6:World} {T S B R c:Nat} {st:TSt} {f:Nat→Nat→Bs} (h:TL w0 w T S B R c st f) (hm:Mv (fun _=>False) w w6) {v:Value} {t:Nd} (hv:NodeAt w6 v t)
  (h0:w0.heap.size≤T) (h1:T≠B) (h2:T≠S) (h3:T≠R):TL w0 (w6.setCell ⟨T,1,none⟩ v) T S B R c { st with old:=t } f:=by
 obtain ⟨⟨fv,ov,a1,a2,a3⟩,a4,a5,a6,a7⟩:=h.still hm
 exact ⟨⟨fv,v,heap_setCell_same a1 _,a2.setCell a1 (by decide) _,hv.setCell a1 (by decide) _⟩,(heap_setCell_other (Ne.symm h2) _).trans a4,(heap_setCell_other (Ne.symm h3) _).trans a5,a6.setCell (Ne.symm h1) _,a7.setCell (.inr h0) _⟩
theorem TL.setB {w0 w:World} {T S B R c:Nat} {st:TSt} {f:Nat→Nat→Bs} (h:TL w0 w T S B R c st f) (b:Nat) (h0:w0.heap.size≤S) (h1:B≠S) (h2:T≠S) (h3:R≠S):TL w0 (w.setCell ⟨S,1,none⟩ (.int .i64 b)) T S B R c { st with sb:=b } f:=by
 obtain ⟨⟨fv,ov,a1,a2,a3⟩,a4,a5,a6,a7⟩:=h
 exact ⟨⟨fv,ov,(heap_setCell_other h2 _).trans a1,a2.setCell a4 (by decide) _,a3.setCell a4 (by decide) _⟩,heap_setCell_same a4 _,(heap_setCell_other h3 _).trans a5,a6.setCell h1 _,a7.setCell (.inr h0) _⟩
theorem TL.setA {w0 w:World} {T S B R c:Nat} {st:TSt} {f:Nat→Nat→Bs} (h:TL w0 w T S B R c st f) (a:Nat) (h0:w0.heap.size≤S) (h1:B≠S) (h2:T≠S) (h3:R≠S):TL w0 (w.setCell ⟨S,0,none⟩ (.int .i64 a)) T S B R c { st with sa:=a } f:=by
 obtain ⟨⟨fv,ov,a1,a2,a3⟩,a4,a5,a6,a7⟩:=h
 exact ⟨⟨fv,ov,(heap_setCell_other h2 _).trans a1,a2.setCell a4 (by decide) _,a3.setCell a4 (by decide) _⟩,heap_setCell_same a4 _,(heap_setCell_other h3 _).trans a5,a6.setCell h1 _,a7.setCell (.inr h0) _⟩
theorem TL.put {w0 w w':World} {T S B R c:Nat} {st:TSt} {f g:Nat→Nat→Bs} (h:TL w0 w T S B R c st f) (hm:MapIs w' B (c+1) g) (hg:w.grownBy w' (some B)) (h0:w0.heap.size≤B) (h1:T≠B) (h2:B≠S) (h3:B≠R):TL w0 w' T S B R (c+1) st g:=by
 have hmv:Mv (fun k=>k=B) w w':=(Mv.refl _ _).grown hg (fun k hk=>.inl (by cases hk;rfl))
 obtain ⟨⟨fv,ov,a1,a2,a3⟩,a4,a5,⟨D,_,⟨es,cl,hb,_⟩,_⟩,a7⟩:=h
 have hT:∀ b,b=B→∀ c,w.heap[b]?≠some (.cells c 309 (0,0)):=fun b e c he=>by subst e;rw [hb] at he;cases he
 exact ⟨⟨fv,ov,(hmv.block T (lt_of_heap a1) h1).trans a1,NodeAt.mvT hmv hT a2,NodeAt.mvT hmv hT a3⟩,(hmv.block S (lt_of_heap a4) (Ne.symm h2)).trans a4,(hmv.block R (lt_of_heap a5) (Ne.symm h3)).trans a5,hm,a7.trans' hmv (fun i hi h=>by omega)⟩
set_option maxRecDepth 100000 in
set_option maxHeartbeats 3200000 in
theorem climbedTree_any (k:Int) (pv:Value) (p:List Bs) (n m:Nat) (old:Bs) (w:World) (hp:HsIn w pv p) (hn:n≤281474976710656) (hm:1≤m∧m≤n) (hlen:p.length=(wayTree n m).length) (ho:old.length=32) (he:EnvH w) :
  Calls Tryz.prog 92 #[.int .i64 k,pv,.int .i64 n,.int .i64 m,hashV old] w fun e w'=>∃ fv ov B c,e=.returned (.agg #[fv,ov,.map (some B)])∧NodeAt w' fv (tEnd k n m old p).fresh∧NodeAt w' ov (tEnd k n m old p).old ∧
   w.heap.size≤B∧c≤64∧MapIs w' B c (tHashes k n m old p)∧Mv (fun _=>False) w w':=by
 obtain ⟨cs,hcs⟩:=zg ((old.map byteV).toArray)
 rw [show hashV old=.agg cs by rw [hcs];rfl]
 have hcsz:cs.size=32:=by rw [hcs];simp [ho]
 have HCS:=zh hcs
 have hbg:=build_given cs hcsz
 have HI34:Hid ((Tryz.prog.info? 34).map (·.size)=some cs.size):=zh (by rw [hcsz];exact info34)
 obtain ⟨pa,pc,hpv⟩:=hp.shape
 subst hpv
 obtain ⟨sa,hsa⟩:=zg ((treeSeed n m).1)
 obtain ⟨sb,hsb⟩:=zg ((treeSeed n m).2)
 have hb:=wayDown_bound (treeStop m) (treeLeft m) 0 n 281474976710656 (by omega) hn
 have hsab:sa≤281474976710656∧sb≤281474976710656:=⟨by rw [hsa];exact hb.2.1,by rw [hsb];exact hb.2.2⟩
 have hwb:∀ s∈wayUp n m,s.a≤281474976710656∧s.b≤281474976710656:=fun s hs=>hb.1 s (by unfold wayUp at hs;simpa using hs)
 have hw48:=wayUp_len n m hn
 have HP:=zh hp
 have HO:=zh ho
 have HE:=zh he
 have HSA:=zh hsa
 have HSB:=zh hsb
 have HSAB:=zh hsab
 have HWB:=zh hwb
 have HLEN:=zh hlen
 have HW48:=zh hw48
 obtain ⟨pl,hpl⟩:=zg (p.length)
 rw [←hpl]
 have HPL:=zh hpl
 clear hcs hp ho he hb hsab hwb hw48 hlen hsa hsb hpl
 go_enter Tryz.func92,Tryz.ntmps92
 go_wp2_with fail
 obtain ⟨A,hA⟩:=zg (w.heap.size)
 obtain ⟨R,hR⟩:=zg (A+1)
 have h1:((w.alloc (.cells cs 34)).alloc (.cells #[.nilIface,.nilIface,.map none] 180)).heap[A]?=some (.cells cs 34 (0,0)):=by rw [hA];exact (Below.heap_alloc _ _ _ (by simp)).trans (heap_alloc_new _ _)
 have h2:((w.alloc (.cells cs 34)).alloc (.cells #[.nilIface,.nilIface,.map none] 180)).heap[R]?=some (.cells #[.nilIface,.nilIface,.map none] 180 (0,0)):=by
  rw [hR,hA,show w.heap.size+1=(w.alloc (.cells cs 34)).heap.size by simp];exact heap_alloc_new _ _
 have hma:Mv (fun _=>False) w ((w.alloc (.cells cs 34)).alloc (.cells #[.nilIface,.nilIface,.map none] 180)):=((Mv.refl _ _).alloc _).alloc _
 generalize hW1:(w.alloc (.cells cs 34)).alloc (.cells #[.nilIface,.nilIface,.map none] 180)=W1
 rw [hW1] at h1 h2 hma
 rw [←hA,←hR]
 have H1:=zh h1
 have H2:=zh h2
 have HM:=zh hma
 have HAR:Hid (A=w.heap.size∧R=A+1):=zh ⟨hA,hR⟩
 clear hW1 h1 h2 hma hA hR
 refine (wayFrom_any n m W1 hn hm).mono ?_
 rintro e w2 ⟨wv,rfl,hown,hm2⟩
 have hway:=WayIn.of_owns hown
 obtain ⟨wa,wc,rfl⟩:=owns_shape hown
 rw [←HSA.out,←HSB.out]
 have HWAY:=zh hway
 have HM2:=zh (HM.out.trans hm2)
 have H1b:=zh ((hm2.block A (lt_of_heap H1.out) id).trans H1.out)
 have H2b:=zh ((hm2.block R (lt_of_heap H2.out) id).trans H2.out)
 obtain ⟨wl,hwl⟩:=zg ((wayTree n m).length)
 rw [←hwl] at hway ⊢
 have HWL:=zh hwl
 clear hown hway hm2 hwl
 have HF:Hid (∀ o,(w2.alloc o).heap[A]?=some (.cells cs 34 (0,0))):=zh fun o=>(Below.heap_alloc _ _ _ (lt_of_heap H1b.out)).trans H1b.out
 go_upto_if 28 with (first
  | (refine wpList_load_row rfl 34 _ rfl A rfl 34 cs (0,0) _ (HF.out _) Tryz.underlying34 rfl HI34.out ?_))
 obtain ⟨S,hS⟩:=zg (w2.heap.size)
 have h3:(w2.alloc (.cells #[.int .i64 sa,.int .i64 sb] 170)).heap[S]?=some (.cells #[.int .i64 sa,.int .i64 sb] 170 (0,0)):=by rw [hS];exact heap_alloc_new _ _
 have h4:(w2.alloc (.cells #[.int .i64 sa,.int .i64 sb] 170)).heap[R]?=some (.cells #[.nilIface,.nilIface,.map none] 180 (0,0)):=(Below.heap_alloc _ _ _ (lt_of_heap H2b.out)).trans H2b.out
 have hm3:Mv (fun _=>False) w2 (w2.alloc (.cells #[.int .i64 sa,.int .i64 sb] 170)):=(Mv.refl _ _).alloc _
 have hRS:R<w2.heap.size:=lt_of_heap H2b.out
 rw [←hS] at hRS ⊢
 have HRS:Hid (R<S):=zh hRS
 generalize w2.alloc (.cells #[.int .i64 sa,.int .i64 sb] 170)=w3 at h3 h4 hm3 ⊢
 have H3:=zh h3
 have H4:=zh h4
 have HM3:=zh (HM2.out.trans hm3)
 have HM23:=zh hm3
 have HS2:Hid (S=w2.heap.size):=zh hS
 clear h3 h4 hm3 hRS hS HF H1b H2b H1 H2
 go_cut [1,11,13] (fun s1 s11 s13 wx=>HsIn w2 s1 (tRest n m p)∧WayIn w2 s11 (wayUp n m)∧s13=.iface 248 (hashV (tBeg n m old p))∧(tBeg n m old p).length=32∧wx.heap[S]?=some (.cells #[.int .i64 sa,.int .i64 sb] 170 (0,0))∧wx.heap[R]?=some (.cells #[.nilIface,.nilIface,.map none] 180 (0,0))∧Mv (fun _=>False) w wx∧Mv (fun _=>False) w2 wx)
 case first =>
  by_cases h0:sa=0
  ·subst h0
   go_wp2_with fail
   go_meet
   have hz:(treeSeed n m).1=0:=HSA.out.symm
   refine ⟨?_,?_,?_,?_,H3.out,H4.out,HM3.out,HM23.out⟩
   ·unfold tRest;rw [if_neg (by omega)];rw [HPL.out];exact HP.out.mv HM2.out (fun _ _ h=>h)
   ·have:=HWAY.out;rw [wayTree_zero n m hz] at this;rw [HWL.out,wayTree_zero n m hz];exact this
   ·unfold tBeg hashV;rw [if_neg (by omega),HCS.out]
   ·unfold tBeg;rw [if_neg (by omega)];exact HO.out
  ·have hz:0<(treeSeed n m).1:=by rw [←HSA.out];omega
   have g0:decide ((0:Int)<sa)=true:=decide_eq_true (by omega)
   have hne:0<p.length:=by rw [HLEN.out,wayTree_pos n m hz];simp
   have hp3:=HP.out.mv HM3.out (fun _ _ h=>h)
   obtain ⟨gp,op,hgp,hpc,hh32,hpcells⟩:=HsIn.at hp3 0 hne
   subst hgp
   obtain ⟨hb0,hh⟩:=zg (p.getD 0 [])
   rw [←hh] at hh32 hpcells
   obtain ⟨hc,hhc⟩:=zg (hb0.map byteV)
   rw [←hhc] at hpcells
   have hhl:hc.length=32:=by rw [hhc,List.length_map];exact hh32
   have hbg2:=build_givenL hc hhl
   have hway3:=HWAY.out
   rw [←HWL.out,wayTree_pos n m hz] at hway3
   obtain ⟨gw,ow,hgw⟩:∃ gw ow,wa=some ⟨gw,ow,none⟩:=by
    obtain ⟨a',c',he,_,hx⟩:=hway3
    simp only [Value.slice.injEq] at he
    obtain ⟨g,off,h1,_⟩:=hx 0 (by simp)
    exact ⟨g,off,by rw [he.1,h1]⟩
   subst hgw
   have hwc:wl≤wc:=by
    obtain ⟨a',c',he,hx,_⟩:=hway3
    simp only [Value.slice.injEq] at he
    rw [he.2.1,he.2.2];exact hx
   have HIL:Hid ((Tryz.prog.info? 34).map (·.size)=some hc.length):=zh (by rw [hhl];exact info34)
   have HPC:Hid (∀ (t:Nat) u,hc[t]?=some u→w3.cell? ⟨gp,op+0 * 32+t,none⟩=some u):=zh hpcells
   have HHC:=zh hhc
   have HHH:=zh hh
   have HH32:=zh hh32
   have hpl1:0<pl:=by rw [HPL.out];exact hne
   have hwl1:0<wl:=by rw [HWL.out,wayTree_pos n m hz];simp
   rw [←HPL.out] at hpc
   have q1:(1:Int)≤pl:=by omega
   have q2:(pl:Int)≤pc:=by omega
   have q3:(1:Int)≤wl:=by omega
   have q4:(wl:Int)≤wc:=by omega
   have HP3:=zh (HP.out.mv HM2.out (fun _ _ h=>h))
   have HW3:=zh hway3
   clear hpcells hhc hh hh32 hp3 hway3 hbg hne
   go_upto_region 5 with (first
    | (refine wpList_load_cellsAt rfl 34 _ rfl gp (op+0 * 32) (by go_simp) hc _ HPC.out Tryz.underlying34 rfl HIL.out ?_))
   go_quiet (fail)
   rename_i nq
   generalize hqa:(if pc=1 then some (⟨gp,op,none⟩:Addr) else some ⟨gp,op+32,none⟩)=qa
   generalize hqb:(if wc=1 then some (⟨gw,ow,none⟩:Addr) else some ⟨gw,ow+3,none⟩)=qb
   have HQA:=zh hqa
   have HQB:=zh hqb
   clear hqa hqb
   go_wp2_with fail
   go_meet
   have hpp:p=hb0 :: p.drop 1:=by
    rw [HHH.out]
    cases p with
    | nil=>simp at HPL;rw [HPL.out] at hpl1;simp at hpl1
    | cons x xs=>rfl
   have hmq:Mv (fun _=>False) w3 (w3.drewN nq):=⟨rfl,rfl,rfl,Nat.le_refl _,fun _ _ _=>rfl⟩
   refine ⟨?_,?_,?_,?_,H3.out,H4.out,HM3.out.trans hmq,HM23.out.trans hmq⟩
   ·unfold tRest;rw [if_pos hz]
    have:=HP3.out
    rw [←HPL.out,hpp] at this
    rw [←HQA.out]
    exact HsIn.tail this
   ·rw [←HQB.out];exact WayIn.tail HW3.out
   ·unfold tBeg hashV;rw [if_pos hz,←HHH.out,←HHC.out]
   ·unfold tBeg;rw [if_pos hz,←HHH.out];exact HH32.out
 case rest =>
  obtain ⟨hps,hws,rfl,hb32,hs0,hr0,hmv0,hmv2⟩:=hcut
  have HMV2:=zh hmv2
  obtain ⟨beg,hbeg⟩:=zg (tBeg n m old p)
  rw [←hbeg] at hb32 ⊢
  have HBEG:=zh hb32
  have HBG:=zh hbeg
  have HPS:=zh hps
  have HWS:=zh hws
  have HS0:=zh hs0
  have HR0:=zh hr0
  have HMV0:=zh hmv0
  have HSWC:Hid (S<wc.heap.size):=zh (lt_of_heap hs0)
  have HMx0:Hid (Mv (fun _=>False) wc wc.drew):=zh (Mv.refl _ _).drew
  clear hbg hps hws hs0 hr0 hmv0 hbeg hb32 hmv2
  go_upto_region 6 with fail
  obtain ⟨w4,hw4⟩:=zg (wc)
  rw [←hw4] at HS0 HR0 HMV0 HSWC HMx0 HMV2 ⊢
  clear hw4 wc
  go_cut [14] (fun s14 wx=>∃ T B,s14=.pointer (some ⟨T,0,none⟩)∧w2.heap.size≤T∧w2.heap.size≤B∧T≠B∧T≠S∧B≠S∧T≠R∧B≠R∧TL w wx T S B R 1 ⟨.given beg,.given beg,sa,sb⟩ (mput (fun _ _=>zero32) sa sb beg)∧Mv (fun _=>False) w2 wx)
  case first =>
   refine wp_region_noPanic ?_
   refine wp_region_held_drew (S:=(fun w'=>w'.heap[S]?=some (.cells #[.int .i64 sa,.int .i64 sb] 170 (0,0)))) (by kernel_rfl) (HS0.out) (fun hHeld=>?_)
   refine zt 0 (.iface 248 (hashV beg)) rfl (fun _ hS=>by go_simp) hHeld ?_
   try walk_nrm
   refine zt 1 (.iface 248 (hashV beg)) rfl (fun _ hS=>by go_simp) hHeld ?_
   try walk_nrm
   refine zt 4 (.iface 248 (hashV beg)) rfl (fun _ hS=>by go_simp) hHeld ?_
   try walk_nrm
   refine zt 3 (spanV sa sb) rfl (fun _ hS=>by have:=cell_of_heap hS 0 rfl;have:=cell_of_heap hS 1 rfl;unfold spanV;go_simp) hHeld ?_
   try walk_nrm
   refine wpAnyH_ready (rs:=[2,5,9]) (by kernel_rfl) (by simp) (AllReadyH.cons rfl (fun K' hK=>?r1x2) (AllReadyH.cons rfl (fun K' hK=>?r1x5) (AllReadyH.cons rfl (fun K' hK=>?r1x9) AllReadyH.nil)))
   case r1x2 =>
    rw [if_pos (by rfl)]
    unfold Oper.wp execOp
    go_simp
    have hs:(w4.drew.alloc (.map #[] 0)).heap[S]?=some (.cells #[.int .i64 sa,.int .i64 sb] 170 (0,0)):=(Below.heap_alloc _ _ _ (lt_of_heap hHeld)).trans hHeld
    refine hK.out _ (w4.drew.alloc (.map #[] 0)) hs (fun hHeld=>?_)
    clear hK K' hs
    try walk_nrm
    have hm:Mv (fun _=>False) w4.drew (w4.drew.alloc (.map #[] 0)):=(Mv.refl _ _).alloc _
    have hb:MapIs (w4.drew.alloc (.map #[] 0)) w4.drew.heap.size 0 (fun _ _=>zero32):=MapIs.made _
    obtain ⟨B1,hB1⟩:=zg (w4.drew.heap.size)
    rw [←hB1] at hb ⊢
    have HBWB1:Hid (w4.heap.size≤B1):=zh (by rw [hB1];exact HMx0.out.size)
    generalize w4.drew.alloc (.map #[] 0)=x1 at hHeld hm hb ⊢
    have HMx1:Hid (Mv (fun _=>False) w4 x1):=zh (HMx0.out.trans hm)
    have HB1:=zh hb
    clear hm hb hB1
    refine wpAnyH_ready (rs:=[5,9]) (by kernel_rfl) (by simp) (AllReadyH.cons rfl (fun K' hK=>?r2x5) (AllReadyH.cons rfl (fun K' hK=>?r2x9) AllReadyH.nil))
    case r2x5 =>
     rw [if_pos (by rfl)]
     refine wp_sum 42 rfl _ (.given beg) rfl ⟨HBEG.out,rfl⟩ (fun x2 hm=>?_)
     have HMx2:Hid (Mv (fun _=>False) w4 x2):=zh (HMx1.out.trans hm)
     have HB2:Hid (MapIs x2 B1 0 (fun _ _=>zero32)):=zh (HB1.out.mv hm id)
     have hs:=(hm.block S (lt_of_heap hHeld) id).trans hHeld
     clear hm
     refine hK.out _ _ hs (fun hHeld=>?_)
     clear hK K' hs
     try walk_nrm
     refine wpAnyH_ready (rs:=[6,9]) (by kernel_rfl) (by simp) (AllReadyH.cons rfl (fun K' hK=>?r3x6) (AllReadyH.cons rfl (fun K' hK=>?r3x9) AllReadyH.nil))
     case r3x6 =>
      rw [if_pos (by rfl)]
      refine wp_insert (.tmp 40) (.tmp 41) (.tmp 43) (.inl rfl) sa sb beg rfl rfl rfl HB2.out (by unfold maxLen;omega) HSAB.out.1 HSAB.out.2 HBEG.out (fun x3 hmp hg=>?_)
      have HB3:Hid (MapIs x3 B1 1 (mput (fun _ _=>zero32) sa sb beg)):=zh hmp
      have hlt:=HB2.out.lt
      have hmg:Mv (fun b=>b=B1) x2 x3:=(Mv.refl _ _).grown hg (fun k hk=>.inl (by cases hk;rfl))
      have HMx3:Hid (Mv (fun _=>False) w4 x3):=zh (HMx2.out.trans' hmg (fun i hi h=>by have:=HBWB1.out;omega))
      have hs:=(hmg.block S (lt_of_heap hHeld) (by have:=HBWB1.out;have:=HSWC.out;omega)).trans hHeld
      clear hmp hg hmg hlt
      refine hK.out _ _ hs (fun hHeld=>?_)
      clear hK K' hs
      try walk_nrm
      refine zt 7 (.map (some B1)) rfl (fun _ hS=>by go_simp) hHeld ?_
      try walk_nrm
      refine zt 8 (.agg #[.iface 248 (hashV beg),.iface 248 (hashV beg),.map (some B1)]) rfl (fun _ hS=>by go_simp) hHeld ?_
      try walk_nrm
      refine wpAnyH_ready (rs:=[9]) (by kernel_rfl) (by simp) (AllReadyH.cons rfl (fun K' hK=>?r4x9) AllReadyH.nil)
      case r4x9 =>
       rw [if_pos (by rfl)]
       unfold Oper.wp execOp
       go_simp
       have hs:(x3.alloc (.cells #[.nilIface,.nilIface,.map none] 180)).heap[S]?=some (.cells #[.int .i64 sa,.int .i64 sb] 170 (0,0)):=(Below.heap_alloc _ _ _ (lt_of_heap hHeld)).trans hHeld
       refine hK.out _ (x3.alloc (.cells #[.nilIface,.nilIface,.map none] 180)) hs (fun hHeld=>?_)
       clear hK K' hs
       try walk_nrm
       have hm:Mv (fun _=>False) x3 (x3.alloc (.cells #[.nilIface,.nilIface,.map none] 180)):=(Mv.refl _ _).alloc _
       have hb:(x3.alloc (.cells #[.nilIface,.nilIface,.map none] 180)).heap[x3.heap.size]?=some (.cells #[.nilIface,.nilIface,.map none] 180 (0,0)):=heap_alloc_new _ _
       obtain ⟨T4,hT4⟩:=zg (x3.heap.size)
       rw [←hT4] at hb ⊢
       have HBWT4:Hid (w4.heap.size≤T4):=zh (by rw [hT4];exact HMx3.out.size)
       have HNE:Hid (T4≠B1):=zh (by have:=HB3.out.lt;omega)
       generalize x3.alloc (.cells #[.nilIface,.nilIface,.map none] 180)=x4 at hHeld hm hb ⊢
       have HMx4:Hid (Mv (fun _=>False) w4 x4):=zh (HMx3.out.trans hm)
       have HT4:=zh hb
       have HB4:Hid (MapIs x4 B1 1 (mput (fun _ _=>zero32) sa sb beg)):=zh (HB3.out.mv hm id)
       clear hm hb hT4
       refine zo 10 rfl fun K' hK=>?_
       refine wp_store_row 180 (.tmp 14) (.tmp 45) rfl T4 #[.iface 248 (hashV beg),.iface 248 (hashV beg),.map (some B1)] rfl rfl 180 _ HT4.out (by kernel_rfl) rfl (three_one _ _ _ _ _) ?_
       have htl:=TL.made (T:=T4) (S:=S) (B:=B1) (R:=R) (sa:=sa) (sb:=sb) (beg:=beg) HMV0.out HMx4.out HT4.out hHeld ((HMx4.out.block R (by have:=HSWC.out;have:=HRS.out;omega) id).trans HR0.out) HB4.out HBEG.out HNE.out (by have:=HBWT4.out;have:=HSWC.out;omega) (by have:=HBWT4.out;have:=HSWC.out;have:=HRS.out;omega) (by have:=HBWT4.out;have:=HMV0.out.size;omega)
       have HTL:=zh htl
       have HMZ:=zh (HMx4.out.setRow (g:=T4) (.inr HBWT4.out) #[.iface 248 (hashV beg),.iface 248 (hashV beg),.map (some B1)])
       refine hK.out _ _ htl.s (fun hHeld=>?_)
       clear hK K' htl
       try walk_nrm
       refine zd ?_
       go_wp2_with fail
       go_meet
       exact ⟨T4,B1,rfl,by have:=HBWT4.out;have:=HMV2.out.size;omega,by have:=HBWB1.out;have:=HMV2.out.size;omega,HNE.out,by have:=HBWT4.out;have:=HSWC.out;omega,by have:=HBWB1.out;have:=HSWC.out;omega,by have:=HBWT4.out;have:=HSWC.out;have:=HRS.out;omega,by have:=HBWB1.out;have:=HSWC.out;have:=HRS.out;omega,HTL.out,HMV2.out.trans HMZ.out⟩
     case r3x9 =>
      rw [if_pos (by rfl)]
      unfold Oper.wp execOp
      go_simp
      have hs:(x2.alloc (.cells #[.nilIface,.nilIface,.map none] 180)).heap[S]?=some (.cells #[.int .i64 sa,.int .i64 sb] 170 (0,0)):=(Below.heap_alloc _ _ _ (lt_of_heap hHeld)).trans hHeld
      refine hK.out _ (x2.alloc (.cells #[.nilIface,.nilIface,.map none] 180)) hs (fun hHeld=>?_)
      clear hK K' hs
      try walk_nrm
      have hm:Mv (fun _=>False) x2 (x2.alloc (.cells #[.nilIface,.nilIface,.map none] 180)):=(Mv.refl _ _).alloc _
      have hb:(x2.alloc (.cells #[.nilIface,.nilIface,.map none] 180)).heap[x2.heap.size]?=some (.cells #[.nilIface,.nilIface,.map none] 180 (0,0)):=heap_alloc_new _ _
      obtain ⟨T3,hT3⟩:=zg (x2.heap.size)
      rw [←hT3] at hb ⊢
      have HBWT3:Hid (w4.heap.size≤T3):=zh (by rw [hT3];exact HMx2.out.size)
      have HNE:Hid (T3≠B1):=zh (by have:=HB2.out.lt;omega)
      generalize x2.alloc (.cells #[.nilIface,.nilIface,.map none] 180)=x3 at hHeld hm hb ⊢
      have HMx3:Hid (Mv (fun _=>False) w4 x3):=zh (HMx2.out.trans hm)
      have HT3:=zh hb
      have HB3:Hid (MapIs x3 B1 0 (fun _ _=>zero32)):=zh (HB2.out.mv hm id)
      clear hm hb hT3
      refine wpAnyH_ready (rs:=[6]) (by kernel_rfl) (by simp) (AllReadyH.cons rfl (fun K' hK=>?r6x6) AllReadyH.nil)
      case r6x6 =>
       rw [if_pos (by rfl)]
       refine wp_insert (.tmp 40) (.tmp 41) (.tmp 43) (.inl rfl) sa sb beg rfl rfl rfl HB3.out (by unfold maxLen;omega) HSAB.out.1 HSAB.out.2 HBEG.out (fun x4 hmp hg=>?_)
       have HB4:Hid (MapIs x4 B1 1 (mput (fun _ _=>zero32) sa sb beg)):=zh hmp
       have hlt:=HB3.out.lt
       have hmg:Mv (fun b=>b=B1) x3 x4:=(Mv.refl _ _).grown hg (fun k hk=>.inl (by cases hk;rfl))
       have HMx4:Hid (Mv (fun _=>False) w4 x4):=zh (HMx3.out.trans' hmg (fun i hi h=>by have:=HBWB1.out;omega))
       have HT4:Hid (x4.heap[T3]?=some (.cells #[.nilIface,.nilIface,.map none] 180 (0,0))):=zh ((hmg.block _ (lt_of_heap HT3.out) HNE.out).trans HT3.out)
       have hs:=(hmg.block S (lt_of_heap hHeld) (by have:=HBWB1.out;have:=HSWC.out;omega)).trans hHeld
       clear hmp hg hmg hlt
       refine hK.out _ _ hs (fun hHeld=>?_)
       clear hK K' hs
       try walk_nrm
       refine zt 7 (.map (some B1)) rfl (fun _ hS=>by go_simp) hHeld ?_
       try walk_nrm
       refine zt 8 (.agg #[.iface 248 (hashV beg),.iface 248 (hashV beg),.map (some B1)]) rfl (fun _ hS=>by go_simp) hHeld ?_
       try walk_nrm
       refine zo 10 rfl fun K' hK=>?_
       refine wp_store_row 180 (.tmp 14) (.tmp 45) rfl T3 #[.iface 248 (hashV beg),.iface 248 (hashV beg),.map (some B1)] rfl rfl 180 _ HT4.out (by kernel_rfl) rfl (three_one _ _ _ _ _) ?_
       have htl:=TL.made (T:=T3) (S:=S) (B:=B1) (R:=R) (sa:=sa) (sb:=sb) (beg:=beg) HMV0.out HMx4.out HT4.out hHeld ((HMx4.out.block R (by have:=HSWC.out;have:=HRS.out;omega) id).trans HR0.out) HB4.out HBEG.out HNE.out (by have:=HBWT3.out;have:=HSWC.out;omega) (by have:=HBWT3.out;have:=HSWC.out;have:=HRS.out;omega) (by have:=HBWT3.out;have:=HMV0.out.size;omega)
       have HTL:=zh htl
       have HMZ:=zh (HMx4.out.setRow (g:=T3) (.inr HBWT3.out) #[.iface 248 (hashV beg),.iface 248 (hashV beg),.map (some B1)])
       refine hK.out _ _ htl.s (fun hHeld=>?_)
       clear hK K' htl
       try walk_nrm
       refine zd ?_
       go_wp2_with fail
       go_meet
       exact ⟨T3,B1,rfl,by have:=HBWT3.out;have:=HMV2.out.size;omega,by have:=HBWB1.out;have:=HMV2.out.size;omega,HNE.out,by have:=HBWT3.out;have:=HSWC.out;omega,by have:=HBWB1.out;have:=HSWC.out;omega,by have:=HBWT3.out;have:=HSWC.out;have:=HRS.out;omega,by have:=HBWB1.out;have:=HSWC.out;have:=HRS.out;omega,HTL.out,HMV2.out.trans HMZ.out⟩
    case r2x9 =>
     rw [if_pos (by rfl)]
     unfold Oper.wp execOp
     go_simp
     have hs:(x1.alloc (.cells #[.nilIface,.nilIface,.map none] 180)).heap[S]?=some (.cells #[.int .i64 sa,.int .i64 sb] 170 (0,0)):=(Below.heap_alloc _ _ _ (lt_of_heap hHeld)).trans hHeld
     refine hK.out _ (x1.alloc (.cells #[.nilIface,.nilIface,.map none] 180)) hs (fun hHeld=>?_)
     clear hK K' hs
     try walk_nrm
     have hm:Mv (fun _=>False) x1 (x1.alloc (.cells #[.nilIface,.nilIface,.map none] 180)):=(Mv.refl _ _).alloc _
     have hb:(x1.alloc (.cells #[.nilIface,.nilIface,.map none] 180)).heap[x1.heap.size]?=some (.cells #[.nilIface,.nilIface,.map none] 180 (0,0)):=heap_alloc_new _ _
     obtain ⟨T2,hT2⟩:=zg (x1.heap.size)
     rw [←hT2] at hb ⊢
     have HBWT2:Hid (w4.heap.size≤T2):=zh (by rw [hT2];exact HMx1.out.size)
     have HNE:Hid (T2≠B1):=zh (by have:=HB1.out.lt;omega)
     generalize x1.alloc (.cells #[.nilIface,.nilIface,.map none] 180)=x2 at hHeld hm hb ⊢
     have HMx2:Hid (Mv (fun _=>False) w4 x2):=zh (HMx1.out.trans hm)
     have HT2:=zh hb
     have HB2:Hid (MapIs x2 B1 0 (fun _ _=>zero32)):=zh (HB1.out.mv hm id)
     clear hm hb hT2
     refine wpAnyH_ready (rs:=[5]) (by kernel_rfl) (by simp) (AllReadyH.cons rfl (fun K' hK=>?r8x5) AllReadyH.nil)
     case r8x5 =>
      rw [if_pos (by rfl)]
      refine wp_sum 42 rfl _ (.given beg) rfl ⟨HBEG.out,rfl⟩ (fun x3 hm=>?_)
      have HMx3:Hid (Mv (fun _=>False) w4 x3):=zh (HMx2.out.trans hm)
      have HB3:Hid (MapIs x3 B1 0 (fun _ _=>zero32)):=zh (HB2.out.mv hm id)
      have HT3:Hid (x3.heap[T2]?=some (.cells #[.nilIface,.nilIface,.map none] 180 (0,0))):=zbl hm HT2
      have hs:=(hm.block S (lt_of_heap hHeld) id).trans hHeld
      clear hm
      refine hK.out _ _ hs (fun hHeld=>?_)
      clear hK K' hs
      try walk_nrm
      refine wpAnyH_ready (rs:=[6]) (by kernel_rfl) (by simp) (AllReadyH.cons rfl (fun K' hK=>?r9x6) AllReadyH.nil)
      case r9x6 =>
       rw [if_pos (by rfl)]
       refine wp_insert (.tmp 40) (.tmp 41) (.tmp 43) (.inl rfl) sa sb beg rfl rfl rfl HB3.out (by unfold maxLen;omega) HSAB.out.1 HSAB.out.2 HBEG.out (fun x4 hmp hg=>?_)
       have HB4:Hid (MapIs x4 B1 1 (mput (fun _ _=>zero32) sa sb beg)):=zh hmp
       have hlt:=HB3.out.lt
       have hmg:Mv (fun b=>b=B1) x3 x4:=(Mv.refl _ _).grown hg (fun k hk=>.inl (by cases hk;rfl))
       have HMx4:Hid (Mv (fun _=>False) w4 x4):=zh (HMx3.out.trans' hmg (fun i hi h=>by have:=HBWB1.out;omega))
       have HT4:Hid (x4.heap[T2]?=some (.cells #[.nilIface,.nilIface,.map none] 180 (0,0))):=zh ((hmg.block _ (lt_of_heap HT3.out) HNE.out).trans HT3.out)
       have hs:=(hmg.block S (lt_of_heap hHeld) (by have:=HBWB1.out;have:=HSWC.out;omega)).trans hHeld
       clear hmp hg hmg hlt
       refine hK.out _ _ hs (fun hHeld=>?_)
       clear hK K' hs
       try walk_nrm
       refine zt 7 (.map (some B1)) rfl (fun _ hS=>by go_simp) hHeld ?_
       try walk_nrm
       refine zt 8 (.agg #[.iface 248 (hashV beg),.iface 248 (hashV beg),.map (some B1)]) rfl (fun _ hS=>by go_simp) hHeld ?_
       try walk_nrm
       refine zo 10 rfl fun K' hK=>?_
       refine wp_store_row 180 (.tmp 14) (.tmp 45) rfl T2 #[.iface 248 (hashV beg),.iface 248 (hashV beg),.map (some B1)] rfl rfl 180 _ HT4.out (by kernel_rfl) rfl (three_one _ _ _ _ _) ?_
       have htl:=TL.made (T:=T2) (S:=S) (B:=B1) (R:=R) (sa:=sa) (sb:=sb) (beg:=beg) HMV0.out HMx4.out HT4.out hHeld ((HMx4.out.block R (by have:=HSWC.out;have:=HRS.out;omega) id).trans HR0.out) HB4.out HBEG.out HNE.out (by have:=HBWT2.out;have:=HSWC.out;omega) (by have:=HBWT2.out;have:=HSWC.out;have:=HRS.out;omega) (by have:=HBWT2.out;have:=HMV0.out.size;omega)
       have HTL:=zh htl
       have HMZ:=zh (HMx4.out.setRow (g:=T2) (.inr HBWT2.out) #[.iface 248 (hashV beg),.iface 248 (hashV beg),.map (some B1)])
       refine hK.out _ _ htl.s (fun hHeld=>?_)
       clear hK K' htl
       try walk_nrm
       refine zd ?_
       go_wp2_with fail
       go_meet
       exact ⟨T2,B1,rfl,by have:=HBWT2.out;have:=HMV2.out.size;omega,by have:=HBWB1.out;have:=HMV2.out.size;omega,HNE.out,by have:=HBWT2.out;have:=HSWC.out;omega,by have:=HBWB1.out;have:=HSWC.out;omega,by have:=HBWT2.out;have:=HSWC.out;have:=HRS.out;omega,by have:=HBWB1.out;have:=HSWC.out;have:=HRS.out;omega,HTL.out,HMV2.out.trans HMZ.out⟩
   case r1x5 =>
    rw [if_pos (by rfl)]
    refine wp_sum 42 rfl _ (.given beg) rfl ⟨HBEG.out,rfl⟩ (fun x1 hm=>?_)
    have HMx1:Hid (Mv (fun _=>False) w4 x1):=zh (HMx0.out.trans hm)
    have hs:=(hm.block S (lt_of_heap hHeld) id).trans hHeld
    clear hm
    refine hK.out _ _ hs (fun hHeld=>?_)
    clear hK K' hs
    try walk_nrm
    refine wpAnyH_ready (rs:=[2,9]) (by kernel_rfl) (by simp) (AllReadyH.cons rfl (fun K' hK=>?r11x2) (AllReadyH.cons rfl (fun K' hK=>?r11x9) AllReadyH.nil))
    case r11x2 =>
     rw [if_pos (by rfl)]
     unfold Oper.wp execOp
     go_simp
     have hs:(x1.alloc (.map #[] 0)).heap[S]?=some (.cells #[.int .i64 sa,.int .i64 sb] 170 (0,0)):=(Below.heap_alloc _ _ _ (lt_of_heap hHeld)).trans hHeld
     refine hK.out _ (x1.alloc (.map #[] 0)) hs (fun hHeld=>?_)
     clear hK K' hs
     try walk_nrm
     have hm:Mv (fun _=>False) x1 (x1.alloc (.map #[] 0)):=(Mv.refl _ _).alloc _
     have hb:MapIs (x1.alloc (.map #[] 0)) x1.heap.size 0 (fun _ _=>zero32):=MapIs.made _
     obtain ⟨B2,hB2⟩:=zg (x1.heap.size)
     rw [←hB2] at hb ⊢
     have HBWB2:Hid (w4.heap.size≤B2):=zh (by rw [hB2];exact HMx1.out.size)
     generalize x1.alloc (.map #[] 0)=x2 at hHeld hm hb ⊢
     have HMx2:Hid (Mv (fun _=>False) w4 x2):=zh (HMx1.out.trans hm)
     have HB2:=zh hb
     clear hm hb hB2
     refine wpAnyH_ready (rs:=[6,9]) (by kernel_rfl) (by simp) (AllReadyH.cons rfl (fun K' hK=>?r12x6) (AllReadyH.cons rfl (fun K' hK=>?r12x9) AllReadyH.nil))
     case r12x6 =>
      rw [if_pos (by rfl)]
      refine wp_insert (.tmp 40) (.tmp 41) (.tmp 43) (.inl rfl) sa sb beg rfl rfl rfl HB2.out (by unfold maxLen;omega) HSAB.out.1 HSAB.out.2 HBEG.out (fun x3 hmp hg=>?_)
      have HB3:Hid (MapIs x3 B2 1 (mput (fun _ _=>zero32) sa sb beg)):=zh hmp
      have hlt:=HB2.out.lt
      have hmg:Mv (fun b=>b=B2) x2 x3:=(Mv.refl _ _).grown hg (fun k hk=>.inl (by cases hk;rfl))
      have HMx3:Hid (Mv (fun _=>False) w4 x3):=zh (HMx2.out.trans' hmg (fun i hi h=>by have:=HBWB2.out;omega))
      have hs:=(hmg.block S (lt_of_heap hHeld) (by have:=HBWB2.out;have:=HSWC.out;omega)).trans hHeld
      clear hmp hg hmg hlt
      refine hK.out _ _ hs (fun hHeld=>?_)
      clear hK K' hs
      try walk_nrm
      refine zt 7 (.map (some B2)) rfl (fun _ hS=>by go_simp) hHeld ?_
      try walk_nrm
      refine zt 8 (.agg #[.iface 248 (hashV beg),.iface 248 (hashV beg),.map (some B2)]) rfl (fun _ hS=>by go_simp) hHeld ?_
      try walk_nrm
      refine wpAnyH_ready (rs:=[9]) (by kernel_rfl) (by simp) (AllReadyH.cons rfl (fun K' hK=>?r13x9) AllReadyH.nil)
      case r13x9 =>
       rw [if_pos (by rfl)]
       unfold Oper.wp execOp
       go_simp
       have hs:(x3.alloc (.cells #[.nilIface,.nilIface,.map none] 180)).heap[S]?=some (.cells #[.int .i64 sa,.int .i64 sb] 170 (0,0)):=(Below.heap_alloc _ _ _ (lt_of_heap hHeld)).trans hHeld
       refine hK.out _ (x3.alloc (.cells #[.nilIface,.nilIface,.map none] 180)) hs (fun hHeld=>?_)
       clear hK K' hs
       try walk_nrm
       have hm:Mv (fun _=>False) x3 (x3.alloc (.cells #[.nilIface,.nilIface,.map none] 180)):=(Mv.refl _ _).alloc _
       have hb:(x3.alloc (.cells #[.nilIface,.nilIface,.map none] 180)).heap[x3.heap.size]?=some (.cells #[.nilIface,.nilIface,.map none] 180 (0,0)):=heap_alloc_new _ _
       obtain ⟨T4,hT4⟩:=zg (x3.heap.size)
       rw [←hT4] at hb ⊢
       have HBWT4:Hid (w4.heap.size≤T4):=zh (by rw [hT4];exact HMx3.out.size)
       have HNE:Hid (T4≠B2):=zh (by have:=HB3.out.lt;omega)
       generalize x3.alloc (.cells #[.nilIface,.nilIface,.map none] 180)=x4 at hHeld hm hb ⊢
       have HMx4:Hid (Mv (fun _=>False) w4 x4):=zh (HMx3.out.trans hm)
       have HT4:=zh hb
       have HB4:Hid (MapIs x4 B2 1 (mput (fun _ _=>zero32) sa sb beg)):=zh (HB3.out.mv hm id)
       clear hm hb hT4
       refine zo 10 rfl fun K' hK=>?_
       refine wp_store_row 180 (.tmp 14) (.tmp 45) rfl T4 #[.iface 248 (hashV beg),.iface 248 (hashV beg),.map (some B2)] rfl rfl 180 _ HT4.out (by kernel_rfl) rfl (three_one _ _ _ _ _) ?_
       have htl:=TL.made (T:=T4) (S:=S) (B:=B2) (R:=R) (sa:=sa) (sb:=sb) (beg:=beg) HMV0.out HMx4.out HT4.out hHeld ((HMx4.out.block R (by have:=HSWC.out;have:=HRS.out;omega) id).trans HR0.out) HB4.out HBEG.out HNE.out (by have:=HBWT4.out;have:=HSWC.out;omega) (by have:=HBWT4.out;have:=HSWC.out;have:=HRS.out;omega) (by have:=HBWT4.out;have:=HMV0.out.size;omega)
       have HTL:=zh htl
       have HMZ:=zh (HMx4.out.setRow (g:=T4) (.inr HBWT4.out) #[.iface 248 (hashV beg),.iface 248 (hashV beg),.map (some B2)])
       refine hK.out _ _ htl.s (fun hHeld=>?_)
       clear hK K' htl
       try walk_nrm
       refine zd ?_
       go_wp2_with fail
       go_meet
       exact ⟨T4,B2,rfl,by have:=HBWT4.out;have:=HMV2.out.size;omega,by have:=HBWB2.out;have:=HMV2.out.size;omega,HNE.out,by have:=HBWT4.out;have:=HSWC.out;omega,by have:=HBWB2.out;have:=HSWC.out;omega,by have:=HBWT4.out;have:=HSWC.out;have:=HRS.out;omega,by have:=HBWB2.out;have:=HSWC.out;have:=HRS.out;omega,HTL.out,HMV2.out.trans HMZ.out⟩
     case r12x9 =>
      rw [if_pos (by rfl)]
      unfold Oper.wp execOp
      go_simp
      have hs:(x2.alloc (.cells #[.nilIface,.nilIface,.map none] 180)).heap[S]?=some (.cells #[.int .i64 sa,.int .i64 sb] 170 (0,0)):=(Below.heap_alloc _ _ _ (lt_of_heap hHeld)).trans hHeld
      refine hK.out _ (x2.alloc (.cells #[.nilIface,.nilIface,.map none] 180)) hs (fun hHeld=>?_)
      clear hK K' hs
      try walk_nrm
      have hm:Mv (fun _=>False) x2 (x2.alloc (.cells #[.nilIface,.nilIface,.map none] 180)):=(Mv.refl _ _).alloc _
      have hb:(x2.alloc (.cells #[.nilIface,.nilIface,.map none] 180)).heap[x2.heap.size]?=some (.cells #[.nilIface,.nilIface,.map none] 180 (0,0)):=heap_alloc_new _ _
      obtain ⟨T3,hT3⟩:=zg (x2.heap.size)
      rw [←hT3] at hb ⊢
      have HBWT3:Hid (w4.heap.size≤T3):=zh (by rw [hT3];exact HMx2.out.size)
      have HNE:Hid (T3≠B2):=zh (by have:=HB2.out.lt;omega)
      generalize x2.alloc (.cells #[.nilIface,.nilIface,.map none] 180)=x3 at hHeld hm hb ⊢
      have HMx3:Hid (Mv (fun _=>False) w4 x3):=zh (HMx2.out.trans hm)
      have HT3:=zh hb
      have HB3:Hid (MapIs x3 B2 0 (fun _ _=>zero32)):=zh (HB2.out.mv hm id)
      clear hm hb hT3
      refine wpAnyH_ready (rs:=[6]) (by kernel_rfl) (by simp) (AllReadyH.cons rfl (fun K' hK=>?r15x6) AllReadyH.nil)
      case r15x6 =>
       rw [if_pos (by rfl)]
       refine wp_insert (.tmp 40) (.tmp 41) (.tmp 43) (.inl rfl) sa sb beg rfl rfl rfl HB3.out (by unfold maxLen;omega) HSAB.out.1 HSAB.out.2 HBEG.out (fun x4 hmp hg=>?_)
       have HB4:Hid (MapIs x4 B2 1 (mput (fun _ _=>zero32) sa sb beg)):=zh hmp
       have hlt:=HB3.out.lt
       have hmg:Mv (fun b=>b=B2) x3 x4:=(Mv.refl _ _).grown hg (fun k hk=>.inl (by cases hk;rfl))
       have HMx4:Hid (Mv (fun _=>False) w4 x4):=zh (HMx3.out.trans' hmg (fun i hi h=>by have:=HBWB2.out;omega))
       have HT4:Hid (x4.heap[T3]?=some (.cells #[.nilIface,.nilIface,.map none] 180 (0,0))):=zh ((hmg.block _ (lt_of_heap HT3.out) HNE.out).trans HT3.out)
       have hs:=(hmg.block S (lt_of_heap hHeld) (by have:=HBWB2.out;have:=HSWC.out;omega)).trans hHeld
       clear hmp hg hmg hlt
       refine hK.out _ _ hs (fun hHeld=>?_)
       clear hK K' hs
       try walk_nrm
       refine zt 7 (.map (some B2)) rfl (fun _ hS=>by go_simp) hHeld ?_
       try walk_nrm
       refine zt 8 (.agg #[.iface 248 (hashV beg),.iface 248 (hashV beg),.map (some B2)]) rfl (fun _ hS=>by go_simp) hHeld ?_
       try walk_nrm
       refine zo 10 rfl fun K' hK=>?_
       refine wp_store_row 180 (.tmp 14) (.tmp 45) rfl T3 #[.iface 248 (hashV beg),.iface 248 (hashV beg),.map (some B2)] rfl rfl 180 _ HT4.out (by kernel_rfl) rfl (three_one _ _ _ _ _) ?_
       have htl:=TL.made (T:=T3) (S:=S) (B:=B2) (R:=R) (sa:=sa) (sb:=sb) (beg:=beg) HMV0.out HMx4.out HT4.out hHeld ((HMx4.out.block R (by have:=HSWC.out;have:=HRS.out;omega) id).trans HR0.out) HB4.out HBEG.out HNE.out (by have:=HBWT3.out;have:=HSWC.out;omega) (by have:=HBWT3.out;have:=HSWC.out;have:=HRS.out;omega) (by have:=HBWT3.out;have:=HMV0.out.size;omega)
       have HTL:=zh htl
       have HMZ:=zh (HMx4.out.setRow (g:=T3) (.inr HBWT3.out) #[.iface 248 (hashV beg),.iface 248 (hashV beg),.map (some B2)])
       refine hK.out _ _ htl.s (fun hHeld=>?_)
       clear hK K' htl
       try walk_nrm
       refine zd ?_
       go_wp2_with fail
       go_meet
       exact ⟨T3,B2,rfl,by have:=HBWT3.out;have:=HMV2.out.size;omega,by have:=HBWB2.out;have:=HMV2.out.size;omega,HNE.out,by have:=HBWT3.out;have:=HSWC.out;omega,by have:=HBWB2.out;have:=HSWC.out;omega,by have:=HBWT3.out;have:=HSWC.out;have:=HRS.out;omega,by have:=HBWB2.out;have:=HSWC.out;have:=HRS.out;omega,HTL.out,HMV2.out.trans HMZ.out⟩
    case r11x9 =>
     rw [if_pos (by rfl)]
     unfold Oper.wp execOp
     go_simp
     have hs:(x1.alloc (.cells #[.nilIface,.nilIface,.map none] 180)).heap[S]?=some (.cells #[.int .i64 sa,.int .i64 sb] 170 (0,0)):=(Below.heap_alloc _ _ _ (lt_of_heap hHeld)).trans hHeld
     refine hK.out _ (x1.alloc (.cells #[.nilIface,.nilIface,.map none] 180)) hs (fun hHeld=>?_)
     clear hK K' hs
     try walk_nrm
     have hm:Mv (fun _=>False) x1 (x1.alloc (.cells #[.nilIface,.nilIface,.map none] 180)):=(Mv.refl _ _).alloc _
     have hb:(x1.alloc (.cells #[.nilIface,.nilIface,.map none] 180)).heap[x1.heap.size]?=some (.cells #[.nilIface,.nilIface,.map none] 180 (0,0)):=heap_alloc_new _ _
     obtain ⟨T2,hT2⟩:=zg (x1.heap.size)
     rw [←hT2] at hb ⊢
     have HBWT2:Hid (w4.heap.size≤T2):=zh (by rw [hT2];exact HMx1.out.size)
     generalize x1.alloc (.cells #[.nilIface,.nilIface,.map none] 180)=x2 at hHeld hm hb ⊢
     have HMx2:Hid (Mv (fun _=>False) w4 x2):=zh (HMx1.out.trans hm)
     have HT2:=zh hb
     clear hm hb hT2
     refine wpAnyH_ready (rs:=[2]) (by kernel_rfl) (by simp) (AllReadyH.cons rfl (fun K' hK=>?r17x2) AllReadyH.nil)
     case r17x2 =>
      rw [if_pos (by rfl)]
      unfold Oper.wp execOp
      go_simp
      have hs:(x2.alloc (.map #[] 0)).heap[S]?=some (.cells #[.int .i64 sa,.int .i64 sb] 170 (0,0)):=(Below.heap_alloc _ _ _ (lt_of_heap hHeld)).trans hHeld
      refine hK.out _ (x2.alloc (.map #[] 0)) hs (fun hHeld=>?_)
      clear hK K' hs
      try walk_nrm
      have hm:Mv (fun _=>False) x2 (x2.alloc (.map #[] 0)):=(Mv.refl _ _).alloc _
      have hb:MapIs (x2.alloc (.map #[] 0)) x2.heap.size 0 (fun _ _=>zero32):=MapIs.made _
      obtain ⟨B3,hB3⟩:=zg (x2.heap.size)
      rw [←hB3] at hb ⊢
      have HBWB3:Hid (w4.heap.size≤B3):=zh (by rw [hB3];exact HMx2.out.size)
      have HNE:Hid (T2≠B3):=zh (by have:=lt_of_heap HT2.out;omega)
      generalize x2.alloc (.map #[] 0)=x3 at hHeld hm hb ⊢
      have HMx3:Hid (Mv (fun _=>False) w4 x3):=zh (HMx2.out.trans hm)
      have HB3:=zh hb
      have HT3:Hid (x3.heap[T2]?=some (.cells #[.nilIface,.nilIface,.map none] 180 (0,0))):=zbl hm HT2
      clear hm hb hB3
      refine wpAnyH_ready (rs:=[6]) (by kernel_rfl) (by simp) (AllReadyH.cons rfl (fun K' hK=>?r18x6) AllReadyH.nil)
      case r18x6 =>
       rw [if_pos (by rfl)]
       refine wp_insert (.tmp 40) (.tmp 41) (.tmp 43) (.inl rfl) sa sb beg rfl rfl rfl HB3.out (by unfold maxLen;omega) HSAB.out.1 HSAB.out.2 HBEG.out (fun x4 hmp hg=>?_)
       have HB4:Hid (MapIs x4 B3 1 (mput (fun _ _=>zero32) sa sb beg)):=zh hmp
       have hlt:=HB3.out.lt
       have hmg:Mv (fun b=>b=B3) x3 x4:=(Mv.refl _ _).grown hg (fun k hk=>.inl (by cases hk;rfl))
       have HMx4:Hid (Mv (fun _=>False) w4 x4):=zh (HMx3.out.trans' hmg (fun i hi h=>by have:=HBWB3.out;omega))
       have HT4:Hid (x4.heap[T2]?=some (.cells #[.nilIface,.nilIface,.map none] 180 (0,0))):=zh ((hmg.block _ (lt_of_heap HT3.out) HNE.out).trans HT3.out)
       have hs:=(hmg.block S (lt_of_heap hHeld) (by have:=HBWB3.out;have:=HSWC.out;omega)).trans hHeld
       clear hmp hg hmg hlt
       refine hK.out _ _ hs (fun hHeld=>?_)
       clear hK K' hs
       try walk_nrm
       refine zt 7 (.map (some B3)) rfl (fun _ hS=>by go_simp) hHeld ?_
       try walk_nrm
       refine zt 8 (.agg #[.iface 248 (hashV beg),.iface 248 (hashV beg),.map (some B3)]) rfl (fun _ hS=>by go_simp) hHeld ?_
       try walk_nrm
       refine zo 10 rfl fun K' hK=>?_
       refine wp_store_row 180 (.tmp 14) (.tmp 45) rfl T2 #[.iface 248 (hashV beg),.iface 248 (hashV beg),.map (some B3)] rfl rfl 180 _ HT4.out (by kernel_rfl) rfl (three_one _ _ _ _ _) ?_
       have htl:=TL.made (T:=T2) (S:=S) (B:=B3) (R:=R) (sa:=sa) (sb:=sb) (beg:=beg) HMV0.out HMx4.out HT4.out hHeld ((HMx4.out.block R (by have:=HSWC.out;have:=HRS.out;omega) id).trans HR0.out) HB4.out HBEG.out HNE.out (by have:=HBWT2.out;have:=HSWC.out;omega) (by have:=HBWT2.out;have:=HSWC.out;have:=HRS.out;omega) (by have:=HBWT2.out;have:=HMV0.out.size;omega)
       have HTL:=zh htl
       have HMZ:=zh (HMx4.out.setRow (g:=T2) (.inr HBWT2.out) #[.iface 248 (hashV beg),.iface 248 (hashV beg),.map (some B3)])
       refine hK.out _ _ htl.s (fun hHeld=>?_)
       clear hK K' htl
       try walk_nrm
       refine zd ?_
       go_wp2_with fail
       go_meet
       exact ⟨T2,B3,rfl,by have:=HBWT2.out;have:=HMV2.out.size;omega,by have:=HBWB3.out;have:=HMV2.out.size;omega,HNE.out,by have:=HBWT2.out;have:=HSWC.out;omega,by have:=HBWB3.out;have:=HSWC.out;omega,by have:=HBWT2.out;have:=HSWC.out;have:=HRS.out;omega,by have:=HBWB3.out;have:=HSWC.out;have:=HRS.out;omega,HTL.out,HMV2.out.trans HMZ.out⟩
   case r1x9 =>
    rw [if_pos (by rfl)]
    unfold Oper.wp execOp
    go_simp
    have hs:(w4.drew.alloc (.cells #[.nilIface,.nilIface,.map none] 180)).heap[S]?=some (.cells #[.int .i64 sa,.int .i64 sb] 170 (0,0)):=(Below.heap_alloc _ _ _ (lt_of_heap hHeld)).trans hHeld
    refine hK.out _ (w4.drew.alloc (.cells #[.nilIface,.nilIface,.map none] 180)) hs (fun hHeld=>?_)
    clear hK K' hs
    try walk_nrm
    have hm:Mv (fun _=>False) w4.drew (w4.drew.alloc (.cells #[.nilIface,.nilIface,.map none] 180)):=(Mv.refl _ _).alloc _
    have hb:(w4.drew.alloc (.cells #[.nilIface,.nilIface,.map none] 180)).heap[w4.heap.size]?=some (.cells #[.nilIface,.nilIface,.map none] 180 (0,0)):=heap_alloc_new _ _
    obtain ⟨T1,hT1⟩:=zg (w4.heap.size)
    rw [←hT1] at hb ⊢
    have HBWT1:Hid (w4.heap.size≤T1):=zh (by rw [hT1];exact HMx0.out.size)
    generalize w4.drew.alloc (.cells #[.nilIface,.nilIface,.map none] 180)=x1 at hHeld hm hb ⊢
    have HMx1:Hid (Mv (fun _=>False) w4 x1):=zh (HMx0.out.trans hm)
    have HT1:=zh hb
    clear hm hb hT1
    refine wpAnyH_ready (rs:=[2,5]) (by kernel_rfl) (by simp) (AllReadyH.cons rfl (fun K' hK=>?r20x2) (AllReadyH.cons rfl (fun K' hK=>?r20x5) AllReadyH.nil))
    case r20x2 =>
     rw [if_pos (by rfl)]
     unfold Oper.wp execOp
     go_simp
     have hs:(x1.alloc (.map #[] 0)).heap[S]?=some (.cells #[.int .i64 sa,.int .i64 sb] 170 (0,0)):=(Below.heap_alloc _ _ _ (lt_of_heap hHeld)).trans hHeld
     refine hK.out _ (x1.alloc (.map #[] 0)) hs (fun hHeld=>?_)
     clear hK K' hs
     try walk_nrm
     have hm:Mv (fun _=>False) x1 (x1.alloc (.map #[] 0)):=(Mv.refl _ _).alloc _
     have hb:MapIs (x1.alloc (.map #[] 0)) x1.heap.size 0 (fun _ _=>zero32):=MapIs.made _
     obtain ⟨B2,hB2⟩:=zg (x1.heap.size)
     rw [←hB2] at hb ⊢
     have HBWB2:Hid (w4.heap.size≤B2):=zh (by rw [hB2];exact HMx1.out.size)
     have HNE:Hid (T1≠B2):=zh (by have:=lt_of_heap HT1.out;omega)
     generalize x1.alloc (.map #[] 0)=x2 at hHeld hm hb ⊢
     have HMx2:Hid (Mv (fun _=>False) w4 x2):=zh (HMx1.out.trans hm)
     have HB2:=zh hb
     have HT2:Hid (x2.heap[T1]?=some (.cells #[.nilIface,.nilIface,.map none] 180 (0,0))):=zbl hm HT1
     clear hm hb hB2
     refine wpAnyH_ready (rs:=[5]) (by kernel_rfl) (by simp) (AllReadyH.cons rfl (fun K' hK=>?r21x5) AllReadyH.nil)
     case r21x5 =>
      rw [if_pos (by rfl)]
      refine wp_sum 42 rfl _ (.given beg) rfl ⟨HBEG.out,rfl⟩ (fun x3 hm=>?_)
      have HMx3:Hid (Mv (fun _=>False) w4 x3):=zh (HMx2.out.trans hm)
      have HB3:Hid (MapIs x3 B2 0 (fun _ _=>zero32)):=zh (HB2.out.mv hm id)
      have HT3:Hid (x3.heap[T1]?=some (.cells #[.nilIface,.nilIface,.map none] 180 (0,0))):=zbl hm HT2
      have hs:=(hm.block S (lt_of_heap hHeld) id).trans hHeld
      clear hm
      refine hK.out _ _ hs (fun hHeld=>?_)
      clear hK K' hs
      try walk_nrm
      refine wpAnyH_ready (rs:=[6]) (by kernel_rfl) (by simp) (AllReadyH.cons rfl (fun K' hK=>?r22x6) AllReadyH.nil)
      case r22x6 =>
       rw [if_pos (by rfl)]
       refine wp_insert (.tmp 40) (.tmp 41) (.tmp 43) (.inl rfl) sa sb beg rfl rfl rfl HB3.out (by unfold maxLen;omega) HSAB.out.1 HSAB.out.2 HBEG.out (fun x4 hmp hg=>?_)
       have HB4:Hid (MapIs x4 B2 1 (mput (fun _ _=>zero32) sa sb beg)):=zh hmp
       have hlt:=HB3.out.lt
       have hmg:Mv (fun b=>b=B2) x3 x4:=(Mv.refl _ _).grown hg (fun k hk=>.inl (by cases hk;rfl))
       have HMx4:Hid (Mv (fun _=>False) w4 x4):=zh (HMx3.out.trans' hmg (fun i hi h=>by have:=HBWB2.out;omega))
       have HT4:Hid (x4.heap[T1]?=some (.cells #[.nilIface,.nilIface,.map none] 180 (0,0))):=zh ((hmg.block _ (lt_of_heap HT3.out) HNE.out).trans HT3.out)
       have hs:=(hmg.block S (lt_of_heap hHeld) (by have:=HBWB2.out;have:=HSWC.out;omega)).trans hHeld
       clear hmp hg hmg hlt
       refine hK.out _ _ hs (fun hHeld=>?_)
       clear hK K' hs
       try walk_nrm
       refine zt 7 (.map (some B2)) rfl (fun _ hS=>by go_simp) hHeld ?_
       try walk_nrm
       refine zt 8 (.agg #[.iface 248 (hashV beg),.iface 248 (hashV beg),.map (some B2)]) rfl (fun _ hS=>by go_simp) hHeld ?_
       try walk_nrm
       refine zo 10 rfl fun K' hK=>?_
       refine wp_store_row 180 (.tmp 14) (.tmp 45) rfl T1 #[.iface 248 (hashV beg),.iface 248 (hashV beg),.map (some B2)] rfl rfl 180 _ HT4.out (by kernel_rfl) rfl (three_one _ _ _ _ _) ?_
       have htl:=TL.made (T:=T1) (S:=S) (B:=B2) (R:=R) (sa:=sa) (sb:=sb) (beg:=beg) HMV0.out HMx4.out HT4.out hHeld ((HMx4.out.block R (by have:=HSWC.out;have:=HRS.out;omega) id).trans HR0.out) HB4.out HBEG.out HNE.out (by have:=HBWT1.out;have:=HSWC.out;omega) (by have:=HBWT1.out;have:=HSWC.out;have:=HRS.out;omega) (by have:=HBWT1.out;have:=HMV0.out.size;omega)
       have HTL:=zh htl
       have HMZ:=zh (HMx4.out.setRow (g:=T1) (.inr HBWT1.out) #[.iface 248 (hashV beg),.iface 248 (hashV beg),.map (some B2)])
       refine hK.out _ _ htl.s (fun hHeld=>?_)
       clear hK K' htl
       try walk_nrm
       refine zd ?_
       go_wp2_with fail
       go_meet
       exact ⟨T1,B2,rfl,by have:=HBWT1.out;have:=HMV2.out.size;omega,by have:=HBWB2.out;have:=HMV2.out.size;omega,HNE.out,by have:=HBWT1.out;have:=HSWC.out;omega,by have:=HBWB2.out;have:=HSWC.out;omega,by have:=HBWT1.out;have:=HSWC.out;have:=HRS.out;omega,by have:=HBWB2.out;have:=HSWC.out;have:=HRS.out;omega,HTL.out,HMV2.out.trans HMZ.out⟩
    case r20x5 =>
     rw [if_pos (by rfl)]
     refine wp_sum 42 rfl _ (.given beg) rfl ⟨HBEG.out,rfl⟩ (fun x2 hm=>?_)
     have HMx2:Hid (Mv (fun _=>False) w4 x2):=zh (HMx1.out.trans hm)
     have HT2:Hid (x2.heap[T1]?=some (.cells #[.nilIface,.nilIface,.map none] 180 (0,0))):=zbl hm HT1
     have hs:=(hm.block S (lt_of_heap hHeld) id).trans hHeld
     clear hm
     refine hK.out _ _ hs (fun hHeld=>?_)
     clear hK K' hs
     try walk_nrm
     refine wpAnyH_ready (rs:=[2]) (by kernel_rfl) (by simp) (AllReadyH.cons rfl (fun K' hK=>?r24x2) AllReadyH.nil)
     case r24x2 =>
      rw [if_pos (by rfl)]
      unfold Oper.wp execOp
      go_simp
      have hs:(x2.alloc (.map #[] 0)).heap[S]?=some (.cells #[.int .i64 sa,.int .i64 sb] 170 (0,0)):=(Below.heap_alloc _ _ _ (lt_of_heap hHeld)).trans hHeld
      refine hK.out _ (x2.alloc (.map #[] 0)) hs (fun hHeld=>?_)
      clear hK K' hs
      try walk_nrm
      have hm:Mv (fun _=>False) x2 (x2.alloc (.map #[] 0)):=(Mv.refl _ _).alloc _
      have hb:MapIs (x2.alloc (.map #[] 0)) x2.heap.size 0 (fun _ _=>zero32):=MapIs.made _
      obtain ⟨B3,hB3⟩:=zg (x2.heap.size)
      rw [←hB3] at hb ⊢
      have HBWB3:Hid (w4.heap.size≤B3):=zh (by rw [hB3];exact HMx2.out.size)
      have HNE:Hid (T1≠B3):=zh (by have:=lt_of_heap HT2.out;omega)
      generalize x2.alloc (.map #[] 0)=x3 at hHeld hm hb ⊢
      have HMx3:Hid (Mv (fun _=>False) w4 x3):=zh (HMx2.out.trans hm)
      have HB3:=zh hb
      have HT3:Hid (x3.heap[T1]?=some (.cells #[.nilIface,.nilIface,.map none] 180 (0,0))):=zbl hm HT2
      clear hm hb hB3
      refine wpAnyH_ready (rs:=[6]) (by kernel_rfl) (by simp) (AllReadyH.cons rfl (fun K' hK=>?r25x6) AllReadyH.nil)
      case r25x6 =>
       rw [if_pos (by rfl)]
       refine wp_insert (.tmp 40) (.tmp 41) (.tmp 43) (.inl rfl) sa sb beg rfl rfl rfl HB3.out (by unfold maxLen;omega) HSAB.out.1 HSAB.out.2 HBEG.out (fun x4 hmp hg=>?_)
       have HB4:Hid (MapIs x4 B3 1 (mput (fun _ _=>zero32) sa sb beg)):=zh hmp
       have hlt:=HB3.out.lt
       have hmg:Mv (fun b=>b=B3) x3 x4:=(Mv.refl _ _).grown hg (fun k hk=>.inl (by cases hk;rfl))
       have HMx4:Hid (Mv (fun _=>False) w4 x4):=zh (HMx3.out.trans' hmg (fun i hi h=>by have:=HBWB3.out;omega))
       have HT4:Hid (x4.heap[T1]?=some (.cells #[.nilIface,.nilIface,.map none] 180 (0,0))):=zh ((hmg.block _ (lt_of_heap HT3.out) HNE.out).trans HT3.out)
       have hs:=(hmg.block S (lt_of_heap hHeld) (by have:=HBWB3.out;have:=HSWC.out;omega)).trans hHeld
       clear hmp hg hmg hlt
       refine hK.out _ _ hs (fun hHeld=>?_)
       clear hK K' hs
       try walk_nrm
       refine zt 7 (.map (some B3)) rfl (fun _ hS=>by go_simp) hHeld ?_
       try walk_nrm
       refine zt 8 (.agg #[.iface 248 (hashV beg),.iface 248 (hashV beg),.map (some B3)]) rfl (fun _ hS=>by go_simp) hHeld ?_
       try walk_nrm
       refine zo 10 rfl fun K' hK=>?_
       refine wp_store_row 180 (.tmp 14) (.tmp 45) rfl T1 #[.iface 248 (hashV beg),.iface 248 (hashV beg),.map (some B3)] rfl rfl 180 _ HT4.out (by kernel_rfl) rfl (three_one _ _ _ _ _) ?_
       have htl:=TL.made (T:=T1) (S:=S) (B:=B3) (R:=R) (sa:=sa) (sb:=sb) (beg:=beg) HMV0.out HMx4.out HT4.out hHeld ((HMx4.out.block R (by have:=HSWC.out;have:=HRS.out;omega) id).trans HR0.out) HB4.out HBEG.out HNE.out (by have:=HBWT1.out;have:=HSWC.out;omega) (by have:=HBWT1.out;have:=HSWC.out;have:=HRS.out;omega) (by have:=HBWT1.out;have:=HMV0.out.size;omega)
       have HTL:=zh htl
       have HMZ:=zh (HMx4.out.setRow (g:=T1) (.inr HBWT1.out) #[.iface 248 (hashV beg),.iface 248 (hashV beg),.map (some B3)])
       refine hK.out _ _ htl.s (fun hHeld=>?_)
       clear hK K' htl
       try walk_nrm
       refine zd ?_
       go_wp2_with fail
       go_meet
       exact ⟨T1,B3,rfl,by have:=HBWT1.out;have:=HMV2.out.size;omega,by have:=HBWB3.out;have:=HMV2.out.size;omega,HNE.out,by have:=HBWT1.out;have:=HSWC.out;omega,by have:=HBWB3.out;have:=HSWC.out;omega,by have:=HBWT1.out;have:=HSWC.out;have:=HRS.out;omega,by have:=HBWB3.out;have:=HSWC.out;have:=HRS.out;omega,HTL.out,HMV2.out.trans HMZ.out⟩
  case rest =>
   obtain ⟨T,B,rfl,hT,hB,hTB,hTS,hBS,hTR,hBR,htl,hm4⟩:=hcut
   have HNE:Hid (w2.heap.size≤T∧w2.heap.size≤B∧T≠B∧T≠S∧B≠S∧T≠R∧B≠R):=zh ⟨hT,hB,hTB,hTS,hBS,hTR,hBR⟩
   obtain ⟨st0,hst0⟩:=zg (tStart n m old p)
   obtain ⟨way,hway⟩:=zg (wayUp n m)
   obtain ⟨q,hq⟩:=zg (tRest n m p)
   obtain ⟨L,hL⟩:=zg (way.length)
   have hql:q.length=L:=by
    rw [hL,hq,hway]
    have h1:=HLEN.out
    unfold tRest
    by_cases hz:0<(treeSeed n m).1
    ·rw [if_pos hz];rw [wayTree_pos n m hz] at h1;rw [List.length_drop,h1];simp
    ·rw [if_neg hz];rw [wayTree_zero n m (by omega)] at h1;exact h1
   have hsteq:(⟨.given beg,.given beg,sa,sb⟩:TSt)=st0:=by rw [hst0];unfold tStart;rw [←HBG.out,←HSA.out,←HSB.out]
   have hmapeq:mput (fun _ _=>zero32) sa sb beg=tMap k st0 way q 0:=by rw [←hsteq];rfl
   rw [hsteq,hmapeq] at htl
   have hend:tEnd k n m old p=tRun k st0 way q L:=by unfold tEnd;rw [hL,hst0,hway,hq]
   have hhsh:tHashes k n m old p=tMap k st0 way q L:=by unfold tHashes;rw [hL,hst0,hway,hq]
   have hlen0:st0.fresh.sum.length=32∧st0.old.sum.length=32:=by rw [←hsteq];exact ⟨HBEG.out,HBEG.out⟩
   have hrl:=tRun_len k st0 way q hlen0.1 hlen0.2
   have hrb:=tRun_bound k st0 way q 281474976710656 (by rw [←hsteq];exact HSAB.out.1) (by rw [←hsteq];exact HSAB.out.2) (by rw [hway];exact HWB.out)
   have HRL:=zh hrl
   have HRB:=zh hrb
   have HEND:=zh hend
   have HHSH:=zh hhsh
   have HL:=zh hL
   have hL48:L≤48:=by rw [hL,hway];exact HW48.out
   have HQL:=zh hql
   have hps:=HPS.out
   have hws:=HWS.out
   rw [←hq] at hps
   rw [←hway] at hws
   obtain ⟨pa',pc',rfl⟩:=hps.shape
   obtain ⟨wa',wc',rfl,hwc'⟩:∃ a c,u11=.slice a way.length c∧way.length≤c:=by
    obtain ⟨a,c,h1,h2,_⟩:=hws
    exact ⟨a,c,h1,h2⟩
   have HPQ:=zh hps
   have HWQ:=zh hws
   have HTL:=zh htl
   have HM4:=zh hm4
   rw [hql,←hL]
   clear hT hB hTB hTS hBS hTR hBR htl hm4 hst0 hsteq hmapeq hend hhsh hlen0 hrl hrb hL hql hps hws hq hway HPS HWS HS0 HR0 HMx0
   go_wp2_with fail
   go_loopw [48] (fun i wr=>∃ (j:Nat),j≤L∧i=.int .i64 j∧TL w wr T S B R (j+1) (tRun k st0 way q j) (tMap k st0 way q j)∧Mv (fun _=>False) w2 wr) (fun i _=>L - (intOf i).toNat)
   case atStart=>exact ⟨0,by omega,rfl,HTL.out,HM4.out⟩
   case round =>
    obtain ⟨j,hj,rfl,htl,hmv⟩:=hrel
    have HTLJ:=zh htl
    have HMV:=zh hmv
    by_cases hjn:j<L
    ·obtain ⟨gw,ow,hgw,c0,c1,c2⟩:=(by obtain ⟨a,c,he,_,hx⟩:=HWQ.out.mv hmv;simp only [Value.slice.injEq] at he;obtain ⟨g,off,h1,h2⟩:=hx j (by rw [←HL.out];exact hjn);exact ⟨g,off,by rw [he.1,h1],h2⟩:∃ g off,wa'=some ⟨g,off,none⟩∧wr.cell? ⟨g,off+j * 3,none⟩=some (.int .i64 (way.getD j ⟨0,0,false⟩).a)∧wr.cell? ⟨g,off+j * 3+1,none⟩=some (.int .i64 (way.getD j ⟨0,0,false⟩).b)∧wr.cell? ⟨g,off+j * 3+2,none⟩=some (.bool (way.getD j ⟨0,0,false⟩).right))
     obtain ⟨gp,op,hgp,hpc,hh32,hpcells⟩:=HsIn.at (HPQ.out.mv hmv (fun _ _ h=>h)) j (by rw [HQL.out];exact hjn)
     subst hgw hgp
     obtain ⟨s,hs⟩:=zg (way.getD j ⟨0,0,false⟩)
     rw [←hs] at c0 c1 c2
     obtain ⟨hb0,hh⟩:=zg (q.getD j [])
     rw [←hh] at hh32 hpcells
     have hstep:tRun k st0 way q (j+1)=tStep k (tRun k st0 way q j) s hb0:=by rw [hs,hh];rfl
     have hmstep:tMap k st0 way q (j+1)=mput (tMap k st0 way q j) (tRun k st0 way q (j+1)).sa (tRun k st0 way q (j+1)).sb (tRun k st0 way q (j+1)).fresh.sum:=rfl
     have HSTEP:=zh hstep
     have HMSTEP:=zh hmstep
     obtain ⟨st,hst⟩:=zg (tRun k st0 way q j)
     obtain ⟨f,hf⟩:=zg (tMap k st0 way q j)
     rw [←hst] at HSTEP
     rw [←hf] at HMSTEP
     rw [←hst,←hf] at HTLJ
     have HS:=zh hs
     obtain ⟨hc,hhc⟩:=zg (hb0.map byteV)
     rw [←hhc] at hpcells
     have hhl:hc.length=32:=by rw [hhc,List.length_map];exact hh32
     have HHC:=zh hhc
     have HH32:=zh hh32
     have HPC:=zh hpcells
     have HIL:Hid ((Tryz.prog.info? 34).map (·.size)=some hc.length):=zh (by rw [hhl];exact info34)
     have HST:=zh hst
     have HFF:=zh hf
     have hpj:(j:Int)<L:=by omega
     have hLpc:L≤pc':=by rw [←HQL.out];exact hpc
     have HHL:=zh hhl
     clear htl hmv hs hh hstep hmstep hst hf hhc hh32 hpcells hhl hpc
     go_upto_if 54 with fail
     obtain ⟨X,hX⟩:=zg (wr.heap.size)
     have hx0:(wr.alloc (.cells #[.int .i64 s.a,.int .i64 s.b,.bool s.right] 174)).heap[X]?=some (.cells #[.int .i64 s.a,.int .i64 s.b,.bool s.right] 174 (0,0)):=by rw [hX];exact heap_alloc_new _ _
     have hmx:Mv (fun _=>False) wr (wr.alloc (.cells #[.int .i64 s.a,.int .i64 s.b,.bool s.right] 174)):=(Mv.refl _ _).alloc _
     have HPX:Hid (∀ (o:Obj) (t:Nat) u,hc[t]?=some u→(wr.alloc o).cell? ⟨gp,op+j * 32+t,none⟩=some u):=zh fun o t u hu =>
      (World.cell?_of_block (Below.heap_alloc _ _ _ (World.block_lt_of_cell? _ _ (HPC.out t u hu)))).trans (HPC.out t u hu)
     have hpx:=HPX.out (.cells #[.int .i64 s.a,.int .i64 s.b,.bool s.right] 174)
     have htx:=HTLJ.out.still hmx
     have HXS:Hid (T≠X∧S≠X∧X≠T∧X≠S):=zh (by
      obtain ⟨_,_,h1,_,_⟩:=HTLJ.out.nodes
      have:=lt_of_heap h1
      have:=lt_of_heap HTLJ.out.s
      omega)
     rw [←hX]
     generalize wr.alloc (.cells #[.int .i64 s.a,.int .i64 s.b,.bool s.right] 174)=w5 at hx0 hmx hpx htx ⊢
     have HX0:=zh hx0
     have HM5:=zh (HMV.out.trans hmx)
     have HPX5:=zh hpx
     have HTX:=zh htx
     clear HPX hx0 hmx hpx htx hX HPC HTLJ HMV c0 c1 c2
     go_cut [] (fun wx=>TL w wx T S B R (j+1) (tStep k st s hb0) f∧Mv (fun _=>False) w2 wx)
     case first =>
      obtain ⟨fv,ov,hT5,hfv,hov⟩:=HTX.out.nodes
      have HT5:=zh hT5
      have HFV:=zh hfv
      have HOV:=zh hov
      obtain ⟨fty,fx,hfx⟩:=hfv.iface
      obtain ⟨oty,ox,hox⟩:=hov.iface
      subst hfx hox
      clear hT5 hfv hov
      have hbg2:=build_givenL hc HHL.out
      have hq0:q≠[]:=by intro e;have:=HQL.out;rw [e] at this;simp at this;omega
      have hgpT:gp≠T:=by
       have h2:=HNE.out.1
       rcases HPQ.out with ⟨he,_⟩|⟨g,off,cap,he,_,_,hlt⟩
       ·cases he
       ·simp only [Value.slice.injEq,Option.some.injEq,Addr.mk.injEq] at he
        have:=hlt hq0
        omega
      have HGP:=zh hgpT
      have HMV2W:Hid (w.heap.size≤w2.heap.size):=zh HM2.out.size
      clear hq0 hgpT
      cases hsr:s.right with
      | true =>
       rw [hsr] at HX0
       have HSR:=zh hsr
       clear hsr
       go_upto_region 11 with fail
       refine wp_region_noPanic ?_
       refine wp_region_held_drew (S:=(fun w'=>∀ (t:Nat) u,hc[t]?=some u→w'.cell? ⟨gp,op+j * 32+t,none⟩=some u)) (by kernel_rfl) (HPX5.out) (fun hHeld=>?_)
       refine zt 0 (.int .i64 k) rfl (fun _ hS=>by go_simp) hHeld ?_
       try walk_nrm
       refine zt 1 (.pointer (some ⟨T,0,none⟩)) rfl (fun _ hS=>by go_simp) hHeld ?_
       try walk_nrm
       refine zt 3 (.slice (some ⟨gp,op,none⟩) L pc') rfl (fun _ hS=>by go_simp) hHeld ?_
       try walk_nrm
       refine zt 4 (.int .i64 j) rfl (fun _ hS=>by go_simp) hHeld ?_
       try walk_nrm
       refine zt 5 (.pointer (some ⟨gp,op+j * 32,none⟩)) rfl (fun _ hS=>by go_simp) hHeld ?_
       try walk_nrm
       refine zj 6 (.agg hc.toArray) rfl (yieldsIf_load_mid (by rfl) 34 _ rfl gp (op+j * 32) rfl hc _ (fun _ h=>h) Tryz.underlying34 rfl HIL.out) hHeld ?_
       try walk_nrm
       refine zt 7 (.agg hc.toArray) rfl (fun _ hS=>by have:=HHL.out;go_simp) hHeld ?_
       try walk_nrm
       refine zt 8 (.iface 248 (.agg hc.toArray)) rfl (fun _ hS=>by go_simp) hHeld ?_
       try walk_nrm
       refine zo 2 rfl fun K' hK=>?_
       have cT:w5.drew.cell? ⟨T,0,none⟩=some (.iface fty fx):=cell_of_heap HT5.out 0 rfl
       unfold Oper.wp execOp
       go_simp
       clear cT
       refine hK.out _ _ hHeld (fun hHeld=>?_)
       clear hK K'
       try walk_nrm
       refine zo 9 rfl fun K' hK=>?_
       unfold Oper.wp execOp
       go_simp
       have hj:=join_any k (.iface fty fx) (.iface 248 (hashV hb0)) st.fresh (.given hb0) w5.drew (HFV.out.mv (Mv.refl _ _).drew) ⟨HH32.out,rfl⟩ (HE.out.mv (HM2.out.trans HM5.out).drew (fun _ h=>h.elim))
       rw [show hashV hb0=.agg hc.toArray by rw [HHC.out];rfl] at hj
       refine hj.mono ?_
       rintro e w6 ⟨v5,rfl,hv5,hm6⟩
       obtain ⟨ty5,x5,hx5⟩:=hv5.iface
       subst hx5
       have HV5:=zh hv5
       have HJ5:Hid (Mv (fun _=>False) w5 w6):=zh ((Mv.refl _ _).drew.trans hm6)
       have hs6:∀ (t:Nat) u,hc[t]?=some u→w6.cell? ⟨gp,op+j * 32+t,none⟩=some u:=fun t u hu=>(hm6.cell (p:=⟨gp,op+j * 32+t,none⟩) (World.block_lt_of_cell? _ _ (hHeld t u hu)) id).trans (hHeld t u hu)
       have hT6:w6.heap[T]?=some (.cells #[.iface fty fx,.iface oty ox,.map (some B)] 180 (0,0)):=(HJ5.out.block T (lt_of_heap HT5.out) id).trans HT5.out
       have HT65:=zh hT6
       clear hj hv5 hm6 hT6
       refine hK.out _ _ hs6 (fun hHeld=>?_)
       clear hK K'
       try walk_nrm
       clear hs6
       refine zt 10 (.pointer (some ⟨T,0,none⟩)) rfl (fun _ hS=>by go_simp) hHeld ?_
       try walk_nrm
       refine zo 11 rfl fun K' hK=>?_
       have cT:=cell_of_heap HT65.out 0 rfl
       have zT:=free_of_heap HT65.out 0
       unfold Oper.wp execOp
       go_simp
       have hs7:∀ (t:Nat) u,hc[t]?=some u→(w6.setCell ⟨T,0,none⟩ (.iface ty5 x5)).cell? ⟨gp,op+j * 32+t,none⟩=some u:=fun t u hu=>(World.cell?_setCell_far _ _ _ _ (Ne.symm HGP.out)).trans (hHeld t u hu)
       have hT7:(w6.setCell ⟨T,0,none⟩ (.iface ty5 x5)).heap[T]?=some (.cells #[.iface ty5 x5,.iface oty ox,.map (some B)] 180 (0,0)):=heap_setCell_same HT65.out _
       have hm7:Mv (fun _=>False) w2 (w6.setCell ⟨T,0,none⟩ (.iface ty5 x5)):=(HM5.out.trans HJ5.out).setCell (.inr HNE.out.1) _
       have hp7:=hs7
       clear cT zT
       refine hK.out _ _ hs7 (fun hHeld=>?_)
       clear hK K'
       try walk_nrm
       clear hs7 hHeld
       refine zd ?_
       have HTw7:=zh hT7
       have HMw7:=zh hm7
       have HPXw7:=zh hp7
       have htl7:=TL.fresh HTX.out HJ5.out HV5.out (Nat.le_trans HMV2W.out HNE.out.1) HNE.out.2.2.1 HNE.out.2.2.2.1 HNE.out.2.2.2.2.2.1
       have hx7:(w6.setCell ⟨T,0,none⟩ (.iface ty5 x5)).heap[X]?=some (.cells #[.int .i64 s.a,.int .i64 s.b,.bool true] 174 (0,0)):=(heap_setCell_other HXS.out.2.2.1 _).trans ((HJ5.out.block X (lt_of_heap HX0.out) id).trans HX0.out)
       generalize w6.setCell ⟨T,0,none⟩ (.iface ty5 x5)=w7 at HTw7 HMw7 HPXw7 htl7 hx7 ⊢
       have HTL7:=zh htl7
       have HX0:=zh hx7
       clear hT7 hm7 hp7 hx7
       clear htl7
       have d0:=cell_of_heap HX0.out 1 rfl
       have d1:=cell_of_heap HTL7.out.s 1 rfl
       have d2:=free_of_heap HTL7.out.s 1
       go_wp2_with fail
       go_meet
       refine ⟨?_,HMw7.out.setCell (p:=⟨S,1,none⟩) (.inr (by have:=HS2.out;show w2.heap.size≤S;omega)) _⟩
       have:=TL.setB HTL7.out s.b (by have:=HMV2W.out;have:=HS2.out;omega) HNE.out.2.2.2.2.1 HNE.out.2.2.2.1 (by have:=HRS.out;omega)
       unfold tStep;rw [if_pos HSR.out];exact this
      | false =>
       rw [hsr] at HX0
       have HSR:=zh hsr
       clear hsr
       go_upto_region 13 with fail
       refine wp_region_noPanic ?_
       refine wp_region_held_drew (S:=(fun w'=>∀ (t:Nat) u,hc[t]?=some u→w'.cell? ⟨gp,op+j * 32+t,none⟩=some u)) (by kernel_rfl) (HPX5.out) (fun hHeld=>?_)
       refine zt 0 (.int .i64 k) rfl (fun _ hS=>by go_simp) hHeld ?_
       try walk_nrm
       refine zt 1 (.slice (some ⟨gp,op,none⟩) L pc') rfl (fun _ hS=>by go_simp) hHeld ?_
       try walk_nrm
       refine zt 2 (.int .i64 j) rfl (fun _ hS=>by go_simp) hHeld ?_
       try walk_nrm
       refine zt 3 (.pointer (some ⟨gp,op+j * 32,none⟩)) rfl (fun _ hS=>by go_simp) hHeld ?_
       try walk_nrm
       refine zj 4 (.agg hc.toArray) rfl (yieldsIf_load_mid (by rfl) 34 _ rfl gp (op+j * 32) rfl hc _ (fun _ h=>h) Tryz.underlying34 rfl HIL.out) hHeld ?_
       try walk_nrm
       refine zt 5 (.agg hc.toArray) rfl (fun _ hS=>by have:=HHL.out;go_simp) hHeld ?_
       try walk_nrm
       refine zt 6 (.iface 248 (.agg hc.toArray)) rfl (fun _ hS=>by go_simp) hHeld ?_
       try walk_nrm
       refine zt 7 (.pointer (some ⟨T,0,none⟩)) rfl (fun _ hS=>by go_simp) hHeld ?_
       try walk_nrm
       refine zo 8 rfl fun K' hK=>?_
       have cT:w5.drew.cell? ⟨T,0,none⟩=some (.iface fty fx):=cell_of_heap HT5.out 0 rfl
       unfold Oper.wp execOp
       go_simp
       clear cT
       refine hK.out _ _ hHeld (fun hHeld=>?_)
       clear hK K'
       try walk_nrm
       refine zo 9 rfl fun K' hK=>?_
       unfold Oper.wp execOp
       go_simp
       have hj:=join_any k (.iface 248 (hashV hb0)) (.iface fty fx) (.given hb0) st.fresh w5.drew ⟨HH32.out,rfl⟩ (HFV.out.mv (Mv.refl _ _).drew) (HE.out.mv (HM2.out.trans HM5.out).drew (fun _ h=>h.elim))
       rw [show hashV hb0=.agg hc.toArray by rw [HHC.out];rfl] at hj
       refine hj.mono ?_
       rintro e w6 ⟨v5,rfl,hv5,hm6⟩
       obtain ⟨ty5,x5,hx5⟩:=hv5.iface
       subst hx5
       have HV5:=zh hv5
       have HJ5:Hid (Mv (fun _=>False) w5 w6):=zh ((Mv.refl _ _).drew.trans hm6)
       have hs6:∀ (t:Nat) u,hc[t]?=some u→w6.cell? ⟨gp,op+j * 32+t,none⟩=some u:=fun t u hu=>(hm6.cell (p:=⟨gp,op+j * 32+t,none⟩) (World.block_lt_of_cell? _ _ (hHeld t u hu)) id).trans (hHeld t u hu)
       have hT6:w6.heap[T]?=some (.cells #[.iface fty fx,.iface oty ox,.map (some B)] 180 (0,0)):=(HJ5.out.block T (lt_of_heap HT5.out) id).trans HT5.out
       have HT65:=zh hT6
       clear hj hv5 hm6 hT6
       refine hK.out _ _ hs6 (fun hHeld=>?_)
       clear hK K'
       try walk_nrm
       clear hs6
       refine zt 10 (.pointer (some ⟨T,0,none⟩)) rfl (fun _ hS=>by go_simp) hHeld ?_
       try walk_nrm
       refine zo 11 rfl fun K' hK=>?_
       have cT:=cell_of_heap HT65.out 0 rfl
       have zT:=free_of_heap HT65.out 0
       unfold Oper.wp execOp
       go_simp
       have hs7:∀ (t:Nat) u,hc[t]?=some u→(w6.setCell ⟨T,0,none⟩ (.iface ty5 x5)).cell? ⟨gp,op+j * 32+t,none⟩=some u:=fun t u hu=>(World.cell?_setCell_far _ _ _ _ (Ne.symm HGP.out)).trans (hHeld t u hu)
       have hT7:(w6.setCell ⟨T,0,none⟩ (.iface ty5 x5)).heap[T]?=some (.cells #[.iface ty5 x5,.iface oty ox,.map (some B)] 180 (0,0)):=heap_setCell_same HT65.out _
       have hm7:Mv (fun _=>False) w2 (w6.setCell ⟨T,0,none⟩ (.iface ty5 x5)):=(HM5.out.trans HJ5.out).setCell (.inr HNE.out.1) _
       have hp7:=hs7
       clear cT zT
       refine hK.out _ _ hs7 (fun hHeld=>?_)
       clear hK K'
       try walk_nrm
       clear hs7 hHeld
       refine zd ?_
       have HTw7:=zh hT7
       have HMw7:=zh hm7
       have HPXw7:=zh hp7
       have htl7:=TL.fresh HTX.out HJ5.out HV5.out (Nat.le_trans HMV2W.out HNE.out.1) HNE.out.2.2.1 HNE.out.2.2.2.1 HNE.out.2.2.2.2.2.1
       have hx7:(w6.setCell ⟨T,0,none⟩ (.iface ty5 x5)).heap[X]?=some (.cells #[.int .i64 s.a,.int .i64 s.b,.bool false] 174 (0,0)):=(heap_setCell_other HXS.out.2.2.1 _).trans ((HJ5.out.block X (lt_of_heap HX0.out) id).trans HX0.out)
       have hov7:NodeAt (w6.setCell ⟨T,0,none⟩ (.iface ty5 x5)) (.iface oty ox) st.old:=(HOV.out.mv HJ5.out).setCell HT65.out (by decide) _
       generalize w6.setCell ⟨T,0,none⟩ (.iface ty5 x5)=w7 at HTw7 HMw7 HPXw7 htl7 hx7 hov7 ⊢
       have HTL7:=zh htl7
       have HX0:=zh hx7
       clear hT7 hm7 hp7 hx7
       have HOV7:=zh hov7
       have HT7:=HTw7
       have HM7:=HMw7
       have HPX7:=HPXw7
       clear hov7 htl7
       go_upto_region 14 with fail
       refine wp_region_noPanic ?_
       refine wp_region_held_drew (S:=(fun w'=>∀ (t:Nat) u,hc[t]?=some u→w'.cell? ⟨gp,op+j * 32+t,none⟩=some u)) (by kernel_rfl) (HPX7.out) (fun hHeld=>?_)
       refine zt 0 (.int .i64 k) rfl (fun _ hS=>by go_simp) hHeld ?_
       try walk_nrm
       refine zt 1 (.slice (some ⟨gp,op,none⟩) L pc') rfl (fun _ hS=>by go_simp) hHeld ?_
       try walk_nrm
       refine zt 2 (.int .i64 j) rfl (fun _ hS=>by go_simp) hHeld ?_
       try walk_nrm
       refine zt 3 (.pointer (some ⟨gp,op+j * 32,none⟩)) rfl (fun _ hS=>by go_simp) hHeld ?_
       try walk_nrm
       refine zj 4 (.agg hc.toArray) rfl (yieldsIf_load_mid (by rfl) 34 _ rfl gp (op+j * 32) rfl hc _ (fun _ h=>h) Tryz.underlying34 rfl HIL.out) hHeld ?_
       try walk_nrm
       refine zt 5 (.agg hc.toArray) rfl (fun _ hS=>by have:=HHL.out;go_simp) hHeld ?_
       try walk_nrm
       refine zt 6 (.iface 248 (.agg hc.toArray)) rfl (fun _ hS=>by go_simp) hHeld ?_
       try walk_nrm
       refine zt 7 (.pointer (some ⟨T,1,none⟩)) rfl (fun _ hS=>by go_simp) hHeld ?_
       try walk_nrm
       refine zo 8 rfl fun K' hK=>?_
       have cT:w7.drew.cell? ⟨T,1,none⟩=some (.iface oty ox):=cell_of_heap HT7.out 1 rfl
       unfold Oper.wp execOp
       go_simp
       clear cT
       refine hK.out _ _ hHeld (fun hHeld=>?_)
       clear hK K'
       try walk_nrm
       refine zo 9 rfl fun K' hK=>?_
       unfold Oper.wp execOp
       go_simp
       have hj:=join_any k (.iface 248 (hashV hb0)) (.iface oty ox) (.given hb0) st.old w7.drew ⟨HH32.out,rfl⟩ (HOV7.out.mv (Mv.refl _ _).drew) (HE.out.mv (HM2.out.trans HM7.out).drew (fun _ h=>h.elim))
       rw [show hashV hb0=.agg hc.toArray by rw [HHC.out];rfl] at hj
       refine hj.mono ?_
       rintro e w8 ⟨v7,rfl,hv5,hm6⟩
       obtain ⟨ty7,x7,hx5⟩:=hv5.iface
       subst hx5
       have HV7:=zh hv5
       have HJ7:Hid (Mv (fun _=>False) w7 w8):=zh ((Mv.refl _ _).drew.trans hm6)
       have hs6:∀ (t:Nat) u,hc[t]?=some u→w8.cell? ⟨gp,op+j * 32+t,none⟩=some u:=fun t u hu=>(hm6.cell (p:=⟨gp,op+j * 32+t,none⟩) (World.block_lt_of_cell? _ _ (hHeld t u hu)) id).trans (hHeld t u hu)
       have hT6:w8.heap[T]?=some (.cells #[.iface ty5 x5,.iface oty ox,.map (some B)] 180 (0,0)):=(HJ7.out.block T (lt_of_heap HT7.out) id).trans HT7.out
       have HT67:=zh hT6
       clear hj hv5 hm6 hT6
       refine hK.out _ _ hs6 (fun hHeld=>?_)
       clear hK K'
       try walk_nrm
       clear hs6
       refine zt 10 (.pointer (some ⟨T,1,none⟩)) rfl (fun _ hS=>by go_simp) hHeld ?_
       try walk_nrm
       refine zo 11 rfl fun K' hK=>?_
       have cT:=cell_of_heap HT67.out 1 rfl
       have zT:=free_of_heap HT67.out 1
       unfold Oper.wp execOp
       go_simp
       have hs7:∀ (t:Nat) u,hc[t]?=some u→(w8.setCell ⟨T,1,none⟩ (.iface ty7 x7)).cell? ⟨gp,op+j * 32+t,none⟩=some u:=fun t u hu=>(World.cell?_setCell_far _ _ _ _ (Ne.symm HGP.out)).trans (hHeld t u hu)
       have hT7:(w8.setCell ⟨T,1,none⟩ (.iface ty7 x7)).heap[T]?=some (.cells #[.iface ty5 x5,.iface ty7 x7,.map (some B)] 180 (0,0)):=heap_setCell_same HT67.out _
       have hm7:Mv (fun _=>False) w2 (w8.setCell ⟨T,1,none⟩ (.iface ty7 x7)):=(HM7.out.trans HJ7.out).setCell (.inr HNE.out.1) _
       have hp7:=hs7
       clear cT zT
       refine hK.out _ _ hs7 (fun hHeld=>?_)
       clear hK K'
       try walk_nrm
       clear hs7 hHeld
       refine zd ?_
       have HTw9:=zh hT7
       have HMw9:=zh hm7
       have HPXw9:=zh hp7
       have htl7:=TL.older HTL7.out HJ7.out HV7.out (Nat.le_trans HMV2W.out HNE.out.1) HNE.out.2.2.1 HNE.out.2.2.2.1 HNE.out.2.2.2.2.2.1
       have hx7:(w8.setCell ⟨T,1,none⟩ (.iface ty7 x7)).heap[X]?=some (.cells #[.int .i64 s.a,.int .i64 s.b,.bool false] 174 (0,0)):=(heap_setCell_other HXS.out.2.2.1 _).trans ((HJ7.out.block X (lt_of_heap HX0.out) id).trans HX0.out)
       generalize w8.setCell ⟨T,1,none⟩ (.iface ty7 x7)=w9 at HTw9 HMw9 HPXw9 htl7 hx7 ⊢
       have HTL9:=zh htl7
       have HX0:=zh hx7
       clear hT7 hm7 hp7 hx7
       clear htl7
       have d0:=cell_of_heap HX0.out 0 rfl
       have d1:=cell_of_heap HTL9.out.s 0 rfl
       have d2:=free_of_heap HTL9.out.s 0
       go_wp2_with fail
       go_meet
       refine ⟨?_,HMw9.out.setCell (p:=⟨S,0,none⟩) (.inr (by have:=HS2.out;show w2.heap.size≤S;omega)) _⟩
       have:=TL.setA HTL9.out s.a (by have:=HMV2W.out;have:=HS2.out;omega) HNE.out.2.2.2.2.1 HNE.out.2.2.2.1 (by have:=HRS.out;omega)
       unfold tStep;rw [if_neg (by rw [HSR.out];simp)];exact this
     case rest =>
      obtain ⟨htl,hm2⟩:=hcut
      obtain ⟨st1,hst1⟩:=zg (tStep k st s hb0)
      rw [←hst1] at htl HSTEP
      have hb1:=HRB.out (j+1) (by rw [←HL.out];omega)
      have hl1:=(HRL.out (j+1)).1
      rw [HSTEP.out] at hb1 hl1 HMSTEP
      obtain ⟨fv,ov,hT5,hfv,hov⟩:=htl.nodes
      obtain ⟨fty,fx,hfx⟩:=hfv.iface
      subst hfx
      have HT5:=zh hT5
      have HFV:=zh hfv
      have HB1:=zh hb1
      have HL1:=zh hl1
      have HTL1:=zh htl
      have HMW:=zh hm2
      clear hst1 htl hm2 hb1 hl1 hT5 hfv hov HX0 HM5 HPX5 HTX HXS hLpc
      go_upto_region 16 with fail
      refine wp_region_noPanic ?_
      refine wp_region_held_drew (S:=(fun w'=>w'.heap[T]?=some (.cells #[.iface fty fx,ov,.map (some B)] 180 (0,0))∧w'.heap[S]?=some (.cells #[.int .i64 st1.sa,.int .i64 st1.sb] 170 (0,0)))) (by kernel_rfl) (⟨HT5.out,HTL1.out.s⟩) (fun hHeld=>?_)
      refine zt 0 (.pointer (some ⟨T,2,none⟩)) rfl (fun _ hS=>by go_simp) hHeld ?_
      try walk_nrm
      refine zt 1 (.map (some B)) rfl (fun _ hS=>by have:=cell_of_heap hS.1 2 rfl;go_simp) hHeld ?_
      try walk_nrm
      refine zt 2 (spanV st1.sa st1.sb) rfl (fun _ hS=>by have:=cell_of_heap hS.2 0 rfl;have:=cell_of_heap hS.2 1 rfl;unfold spanV;go_simp) hHeld ?_
      try walk_nrm
      refine zt 3 (.pointer (some ⟨T,0,none⟩)) rfl (fun _ hS=>by go_simp) hHeld ?_
      try walk_nrm
      refine zt 4 (.iface fty fx) rfl (fun _ hS=>by have:=cell_of_heap hS.1 0 rfl;go_simp) hHeld ?_
      try walk_nrm
      refine zo 5 rfl fun K' hK=>?_
      refine wp_sum 100 rfl _ st1.fresh rfl (HFV.out.mv (Mv.refl _ _).drew) (fun w6 hm=>?_)
      have HJ:Hid (Mv (fun _=>False) wc w6):=zh ((Mv.refl _ _).drew.trans hm)
      have hs6:=And.intro ((hm.block T (lt_of_heap hHeld.1) id).trans hHeld.1) ((hm.block S (lt_of_heap hHeld.2) id).trans hHeld.2)
      clear hm
      refine hK.out _ _ hs6 (fun hHeld=>?_)
      clear hK K'
      try walk_nrm
      clear hs6
      refine zo 6 rfl fun K' hK=>?_
      have htl6:=HTL1.out.still HJ.out
      refine wp_insert (.tmp 97) (.tmp 98) (.tmp 101) (.inr rfl) st1.sa st1.sb st1.fresh.sum rfl rfl rfl htl6.m (by unfold maxLen;omega) HB1.out.1 HB1.out.2 HL1.out (fun w7 hmp hg=>?_)
      have htl7:=TL.put htl6 hmp hg (by have:=HNE.out.2.1;have:=HM2.out.size;omega) HNE.out.2.2.1 HNE.out.2.2.2.2.1 HNE.out.2.2.2.2.2.2
      have hmg:Mv (fun b=>b=B) w6 w7:=(Mv.refl _ _).grown hg (fun k hk=>.inl (by cases hk;rfl))
      have HM7:Hid (Mv (fun _=>False) w2 w7):=zh ((HMW.out.trans HJ.out).trans' hmg (fun i hi h=>by have:=HNE.out.2.1;omega))
      have HTL7:=zh htl7
      have hs7:=And.intro ((hmg.block T (lt_of_heap hHeld.1) HNE.out.2.2.1).trans hHeld.1) ((hmg.block S (lt_of_heap hHeld.2) (Ne.symm HNE.out.2.2.2.2.1)).trans hHeld.2)
      clear hmp hg hmg htl6 htl7
      refine hK.out _ _ hs7 (fun hHeld=>?_)
      clear hK K'
      try walk_nrm
      clear hs7 hHeld
      refine zd ?_
      go_wp2_with fail
      go_roundw
      case rel=>exact ⟨j+1,by omega,by go_num,by rw [HMSTEP.out,HSTEP.out];exact HTL7.out,HM7.out⟩
      case measure=>simp [intOf];omega
    ·have hjn2:j=L:=by omega
     subst hjn2
     obtain ⟨fv,ov,hT5,hfv,hov⟩:=HTLJ.out.nodes
     have hne:R≠T:=Ne.symm HNE.out.2.2.2.2.2.1
     obtain ⟨fty,fx,hfx⟩:=hfv.iface
     obtain ⟨oty,ox,hox⟩:=hov.iface
     subst hfx hox
     have HT5:=zh hT5
     have HFV:=zh hfv
     have HOV:=zh hov
     clear hT5 hfv hov htl hmv
     go_wp2_with (first
      | (refine wpList_load_row rfl 180 _ rfl T rfl 180 _ (0,0) _ HT5.out Tryz.underlying180 rfl (by kernel_rfl) ?_)
      | (refine wpList_store_row rfl 180 _ _ rfl R #[.iface fty fx,.iface oty ox,.map (some B)] rfl rfl 180 _ HTLJ.out.r (by kernel_rfl) rfl (three_one _ _ _ _ _) ?_))
     refine bodyPost_ret (results_cell_row (fn:=Tryz.f92) rfl _ _ R 180 #[.iface fty fx,.iface oty ox,.map (some B)] (0,0) _ rfl (setRow_heap _ _ _ _ _ _ HTLJ.out.r) Tryz.underlying180 rfl (by kernel_rfl)) rfl ?_
     have hmr:Mv (fun b=>b=R) wr (wr.setRow R #[.iface fty fx,.iface oty ox,.map (some B)]):=(Mv.refl (fun b=>b=R) _).setRow (.inl rfl) _
     have hn9:∀ b,b=R→∀ c,wr.heap[b]?≠some (.cells c 309 (0,0)):=fun b e c he=>by subst e;rw [HTLJ.out.r] at he;simp at he
     refine ⟨_,_,B,j+1,rfl,?_,?_,?_,by omega,?_,?_⟩
     ·rw [HEND.out];exact NodeAt.mvT hmr hn9 HFV.out
     ·rw [HEND.out];exact NodeAt.mvT hmr hn9 HOV.out
     ·have:=HNE.out.2.1;have:=HM2.out.size;omega
     ·rw [HHSH.out];exact HTLJ.out.m.mv hmr HNE.out.2.2.2.2.2.2
     ·exact HTLJ.out.mv.setRow (.inr (by have:=HAR.out;omega)) _
theorem results_cct {fn:Func} {t p p':Tmp} {ty ty':TypeId} (h:fn.results=#[.cell p ty,.cell p' ty',.tmp t]) (tmps:Array Value) (w:World) (b b':Nat) (et et':TypeId) (cs cs':Array Value) (u:Value) (d d':TypeDesc) (ht:tmps.getD t undef=u) (hp:tmps.getD p undef=.pointer (some ⟨b,0,none⟩)) (hp2:tmps.getD p' undef=.pointer (some ⟨b',0,none⟩)) (hg:w.heap[b]?=some (.cells cs et (0,0))) (hg2:w.heap[b']?=some (.cells cs' et' (0,0)))
  (hu:Tryz.prog.underlying ty=some d) (hu2:Tryz.prog.underlying ty'=some d') (hd:d.isRow=true) (hd2:d'.isRow=true) (hi:(Tryz.prog.info? ty).map (·.size)=some cs.size) (hi2:(Tryz.prog.info? ty').map (·.size)=some cs'.size) :
  (results fn tmps).run Tryz.prog w=.ok (.tuple #[.agg cs,.agg cs',u]) w:=by
 have e:=run_loadVar_row w b et ty cs (0,0) d hg hu (by cases d <;> first|rfl|simp [TypeDesc.isRow] at hd) hi
 have e2:=run_loadVar_row w b' et' ty' cs' (0,0) d' hg2 hu2 (by cases d' <;> first|rfl|simp [TypeDesc.isRow] at hd2) hi2
 have ht':tmps[t]?.getD undef=u:=by simpa using ht
 have hp':tmps[p]?.getD undef=.pointer (some ⟨b,0,none⟩):=by simpa using hp
 have hp2':tmps[p']?.getD undef=.pointer (some ⟨b',0,none⟩):=by simpa using hp2
 simp only [results,h]
 simp [Result.andThen,asAddr,e,e2,ht',hp',hp2']
def treeErr (n m:Int) (p:List Bs):Int:=if ¬ (sizedP n=true)∨m<1∨n<m then 1 else if p.length≠(wayTree n.toNat m.toNat).length then 90 else 0
def climbTV (k n m:Int) (old:Bs) (p:List Bs):Value:=.tuple #[hashV (if treeErr n m p=0 then (tEnd k n.toNat m.toNat old p).fresh.sum else zero32),hashV (if treeErr n m p=0 then (tEnd k n.toNat m.toNat old p).old.sum else zero32),.int .i64 (treeErr n m p)]
theorem climbTV_bad (k n m:Int) (old:Bs) (p:List Bs) (c:Int) (h:treeErr n m p=c) (hc:c≠0):climbTV k n m old p=.tuple #[.agg z32B,.agg z32B,.int .i64 c]:=by
 unfold climbTV
 rw [h,if_neg hc,if_neg hc,zero32_W]
theorem climbTV_ok (k n m:Int) (old:Bs) (p:List Bs) (h:treeErr n m p=0):climbTV k n m old p=.tuple #[hashV (tEnd k n.toNat m.toNat old p).fresh.sum,hashV (tEnd k n.toNat m.toNat old p).old.sum,.int .i64 0]:=by
 unfold climbTV
 rw [h,if_pos rfl,if_pos rfl]
theorem wayTree_len (n m:Nat) (hn:n≤281474976710656):(wayTree n m).length≤49:=by
 have h:=wayUp_len n m hn
 by_cases hz:0<(treeSeed n m).1
 ·rw [wayTree_pos n m hz];simp;omega
 ·rw [wayTree_zero n m (by omega)];omega
theorem tEnd_len (k:Int) (n m:Nat) (old:Bs) (p:List Bs) (h:(tBeg n m old p).length=32):(tEnd k n m old p).fresh.sum.length=32∧(tEnd k n m old p).old.sum.length=32:=tRun_len k (tStart n m old p) _ _ h h _
set_option maxRecDepth 100000 in
set_option maxHeartbeats 3200000 in
theorem climbTree_any (k n m:Int) (pv:Value) (p:List Bs) (old:Bs) (w:World) (hp:HsIn w pv p) (ho:old.length=32) (he:EnvH w) :
  Calls Tryz.prog 55 #[.int .i64 k,pv,.int .i64 n,.int .i64 m,hashV old] w fun e w'=>e=.returned (climbTV k n m old p)∧Mv (fun _=>False) w w':=by
 obtain ⟨cs,hcs⟩:=zg ((old.map byteV).toArray)
 rw [show hashV old=.agg cs by rw [hcs];rfl]
 have hcsz:cs.size=32:=by rw [hcs];simp [ho]
 have HCS:=zh hcs
 have HI34:Hid ((Tryz.prog.info? 34).map (·.size)=some cs.size):=zh (by rw [hcsz];exact info34)
 obtain ⟨pa,pc,hpv⟩:=hp.shape
 subst hpv
 have HP:=zh hp
 have HO:=zh ho
 have HE:=zh he
 have K:=sized_any n
 by_cases hs:sizedP n=true
 ·have hs1:1≤n∧n≤281474976710656:=of_decide_eq_true hs
  rw [hs] at K
  have HK:=zh K
  by_cases hi:1≤m∧m≤n
  ·obtain ⟨N,hN⟩:∃ N:Nat,n=N:=⟨n.toNat,by omega⟩
   obtain ⟨M,hM⟩:∃ M:Nat,m=M:=⟨m.toNat,by omega⟩
   subst hN hM
   have hMN:1≤M∧M≤N:=by omega
   have hN48:N≤281474976710656:=by omega
   have hce:treeErr N M p=if p.length≠(wayTree N M).length then 90 else 0:=by
    unfold treeErr
    rw [if_neg (by rw [hs];simp;omega)]
    rfl
   have HCE:=zh hce
   have h1m:¬ ((M:Int)<1):=by omega
   have h2m:¬ ((N:Int)<M):=by omega
   clear hcs hcsz hp ho he hs K hce hi
   go_enter Tryz.func55,Tryz.ntmps55
   go_upto_region 1 with fail
   generalize hZ:(#[_,_,_,_,_,_,_,_,_,_,_,_,_,_,_,_,_,_,_,_,_,_,_,_,_,_,_,_,_,_,_,_]:Array Value)=Z
   have hZs:Z.size=32:=by rw [←hZ];rfl
   obtain ⟨A,hA⟩:=zg (w.heap.size)
   have h1:(((w.alloc (.cells cs 34)).alloc (.cells Z 34)).alloc (.cells Z 34)).heap[w.heap.size]?=some (.cells cs 34 (0,0)):=(Below.heap_alloc _ _ _ (by simp;omega)).trans ((Below.heap_alloc _ _ _ (by simp)).trans (heap_alloc_new _ _))
   have h2:(((w.alloc (.cells cs 34)).alloc (.cells Z 34)).alloc (.cells Z 34)).heap[w.heap.size+1]?=some (.cells Z 34 (0,0)):=by
    refine (Below.heap_alloc _ _ _ (by simp)).trans ?_
    rw [show w.heap.size+1=(w.alloc (.cells cs 34)).heap.size by simp];exact heap_alloc_new _ _
   have h3:(((w.alloc (.cells cs 34)).alloc (.cells Z 34)).alloc (.cells Z 34)).heap[w.heap.size+2]?=some (.cells Z 34 (0,0)):=by
    rw [show w.heap.size+2=((w.alloc (.cells cs 34)).alloc (.cells Z 34)).heap.size by simp];exact heap_alloc_new _ _
   have hm:Mv (fun _=>False) w (((w.alloc (.cells cs 34)).alloc (.cells Z 34)).alloc (.cells Z 34)):=(((Mv.refl _ _).alloc _).alloc _).alloc _
   generalize hW1:((w.alloc (.cells cs 34)).alloc (.cells Z 34)).alloc (.cells Z 34)=W1
   rw [hW1] at h1 h2 h3 hm
   rw [←hA] at h1 h2 h3 ⊢
   have H1:=zh h1
   have H2:=zh h2
   have H3:=zh h3
   have HM:=zh hm
   have HA:=zh hA
   have HZS:=zh hZs
   clear hZ hZs hW1 h1 h2 h3 hm hA
   go_wp2_with (first
    | (go_at_call 89;refine (HK.out _).mono ?_;rintro e w1 ⟨rfl,rfl⟩))
   refine (wayFrom_any N M W1 hN48 hMN).mono ?_
   rintro e w2 ⟨wv,rfl,hown,hm2⟩
   obtain ⟨wa,wc,hwv⟩:=owns_shape hown
   subst hwv
   have HM2:Hid (Mv (fun _=>False) w w2):=zh (HM.out.trans hm2)
   have HR1:Hid (w2.heap[A+1]?=some (.cells Z 34 (0,0))):=zbl hm2 H2
   have HR2:Hid (w2.heap[A+2]?=some (.cells Z 34 (0,0))):=zbl hm2 H3
   have HA2:Hid (w2.heap[A]?=some (.cells cs 34 (0,0))):=zbl hm2 H1
   obtain ⟨L,hL⟩:=zg ((wayTree N M).length)
   rw [←hL]
   have HLL:=zh hL
   obtain ⟨pl,hpl2⟩:=zg (p.length)
   rw [←hpl2]
   have HPLL:=zh hpl2
   have hL64:=wayTree_len N M hN48
   rw [←hL] at hL64
   clear hown hm2 hL hpl2
   go_upto_region 4 with fail
   have hma:Mv (fun _=>False) w2 (w2.alloc (.cells #[.int .i64 (treeSeed N M).1,.int .i64 (treeSeed N M).2] 170)):=(Mv.refl _ _).alloc _
   generalize w2.alloc (.cells #[.int .i64 (treeSeed N M).1,.int .i64 (treeSeed N M).2] 170)=w3 at hma ⊢
   have HM3:=zh (HM2.out.trans hma)
   have HR1b:=zbl hma HR1
   have HR2b:=zbl hma HR2
   have HA2b:=zbl hma HA2
   clear hma
   by_cases hq:pl=L
   ·have HPL:Hid (p.length=(wayTree N M).length):=zh (by rw [←HPLL.out,hq,HLL.out])
    subst hq
    go_wp2_with (first
     | (refine wpList_load_row rfl 34 _ rfl A rfl 34 cs (0,0) _ HA2b.out Tryz.underlying34 rfl HI34.out ?_))
    have hcl:=climbedTree_any k (.slice pa p.length pc) p N M old w3 (HP.out.mv HM3.out (fun _ _ h=>h)) hN48 hMN HPL.out HO.out (HE.out.mv HM3.out (fun _ h=>h.elim))
    rw [←HPLL.out,show hashV old=.agg cs by rw [HCS.out];rfl] at hcl
    refine hcl.mono ?_
    rintro e w4 ⟨fv,ov,B,c,rfl,hfv,hov,hB,hc,hmap,hm4⟩
    obtain ⟨fty,fx,hfx⟩:=hfv.iface
    obtain ⟨oty,ox,hox⟩:=hov.iface
    subst hfx hox
    have HM4:Hid (Mv (fun _=>False) w w4):=zh (HM3.out.trans hm4)
    have HFV:=zh hfv
    have HOV:=zh hov
    have HR1c:=zbl hm4 HR1b
    have HR2c:=zbl hm4 HR2b
    clear hcl hfv hov hB hc hmap hm4
    go_upto_region 7 with fail
    obtain ⟨T,hT⟩:=zg (w4.heap.size)
    have hT4:(w4.alloc (.cells #[.iface fty fx,.iface oty ox,.map (some B)] 180)).heap[T]?=some (.cells #[.iface fty fx,.iface oty ox,.map (some B)] 180 (0,0)):=by rw [hT];exact heap_alloc_new _ _
    have hma:Mv (fun _=>False) w4 (w4.alloc (.cells #[.iface fty fx,.iface oty ox,.map (some B)] 180)):=(Mv.refl _ _).alloc _
    have HTR:Hid (T≠A+1∧T≠A+2∧A+1≠A+2):=zh (by have:=lt_of_heap HR1c.out;have:=lt_of_heap HR2c.out;omega)
    rw [←hT]
    generalize w4.alloc (.cells #[.iface fty fx,.iface oty ox,.map (some B)] 180)=w5 at hT4 hma ⊢
    have HT4:=zh hT4
    have HM5:=zh (HM4.out.trans hma)
    have HFV5:=zh (HFV.out.mv hma)
    have HOV5:=zh (HOV.out.mv hma)
    have HR1d:=zbl hma HR1c
    have HR2d:=zbl hma HR2c
    have HMT:Hid (tEnd k N M old p=tEnd k N M old p):=zh rfl
    clear hT hT4 hma
    refine wp_region_noPanic ?_
    refine wp_region_held_drew (S:=(fun w'=>w'.heap[T]?=some (.cells #[.iface fty fx,.iface oty ox,.map (some B)] 180 (0,0)))) (by kernel_rfl) (HT4.out) (fun hHeld=>?_)
    refine zt 0 (.pointer (some ⟨T,0,none⟩)) rfl (fun _ hS=>by go_simp) hHeld ?_
    try walk_nrm
    refine zt 1 (.iface fty fx) rfl (fun _ hS=>by have:=cell_of_heap hS 0 rfl;go_simp) hHeld ?_
    try walk_nrm
    refine zt 3 (.pointer (some ⟨T,1,none⟩)) rfl (fun _ hS=>by go_simp) hHeld ?_
    try walk_nrm
    refine zt 4 (.iface oty ox) rfl (fun _ hS=>by have:=cell_of_heap hS 1 rfl;go_simp) hHeld ?_
    try walk_nrm
    refine zo 2 rfl fun K' hK=>?_
    refine wp_sum 50 rfl _ (tEnd k N M old p).fresh rfl (HFV5.out.mv (Mv.refl _ _).drew) (fun w6 hm=>?_)
    have HM6:Hid (Mv (fun _=>False) w5 w6):=zh ((Mv.refl _ _).drew.trans hm)
    have hs6:=(hm.block T (lt_of_heap hHeld) id).trans hHeld
    clear hm
    refine hK.out _ _ hs6 (fun hHeld=>?_)
    clear hK K'
    try walk_nrm
    clear hs6
    refine zo 5 rfl fun K' hK=>?_
    refine wp_sum 53 rfl _ (tEnd k N M old p).old rfl (HOV5.out.mv HM6.out) (fun w7 hm=>?_)
    have HM7:Hid (Mv (fun _=>False) w5 w7):=zh (HM6.out.trans hm)
    have hs7:=(hm.block T (lt_of_heap hHeld) id).trans hHeld
    clear hm
    refine hK.out _ _ hs7 (fun hHeld=>?_)
    clear hK K'
    try walk_nrm
    clear hs7
    have HR1e:=zbl HM7.out HR1d
    have HR2e:=zbl HM7.out HR2d
    have hlf:=HFV5.out.len
    have hlo:=HOV5.out.len
    obtain ⟨fs,hfs⟩:=zg ((tEnd k N M old p).fresh.sum)
    obtain ⟨os,hos⟩:=zg ((tEnd k N M old p).old.sum)
    rw [←hfs,←hos]
    rw [←hfs] at hlf
    rw [←hos] at hlo
    have HFS:=zh hfs
    have HOS:=zh hos
    obtain ⟨fc,hfc⟩:=zg ((fs.map byteV).toArray)
    obtain ⟨oc,hoc⟩:=zg ((os.map byteV).toArray)
    rw [show hashV fs=.agg fc by rw [hfc];rfl,show hashV os=.agg oc by rw [hoc];rfl]
    have hfz:fc.size=32:=by rw [hfc];simp [hlf]
    have hoz:oc.size=32:=by rw [hoc];simp [hlo]
    have HIF:Hid ((Tryz.prog.info? 34).map (·.size)=some fc.size):=zh (by rw [hfz];exact info34)
    have HIO:Hid ((Tryz.prog.info? 34).map (·.size)=some oc.size):=zh (by rw [hoz];exact info34)
    have HZF:Hid (Z.size=fc.size):=zh (by rw [HZS.out,hfz])
    have HZO:Hid (Z.size=oc.size):=zh (by rw [HZS.out,hoz])
    have HOF:Hid (fc.all (·.oneCell')=true):=zh (by rw [hfc];exact hash_one fs)
    have HOO:Hid (oc.all (·.oneCell')=true):=zh (by rw [hoc];exact hash_one os)
    have HFC:=zh hfc
    have HOC:=zh hoc
    clear hlf hlo hfs hos hfc hoc hfz hoz
    refine zo 6 rfl fun K' hK=>?_
    refine wp_store_row 34 (.tmp 10) (.tmp 51) rfl (A+1) fc rfl rfl 34 Z HR1e.out HIF.out HZF.out HOF.out ?_
    have hs8:(w7.setRow (A+1) fc).heap[T]?=some (.cells #[.iface fty fx,.iface oty ox,.map (some B)] 180 (0,0)):=(setRow_other _ _ _ _ HTR.out.1).trans hHeld
    refine hK.out _ _ hs8 (fun hHeld=>?_)
    clear hK K'
    try walk_nrm
    clear hs8
    refine zo 7 rfl fun K' hK=>?_
    refine wp_store_row 34 (.tmp 11) (.tmp 54) rfl (A+2) oc rfl rfl 34 Z ((setRow_other _ _ _ _ (Ne.symm HTR.out.2.2)).trans HR2e.out) HIO.out HZO.out HOO.out ?_
    have hs9:((w7.setRow (A+1) fc).setRow (A+2) oc).heap[T]?=some (.cells #[.iface fty fx,.iface oty ox,.map (some B)] 180 (0,0)):=(setRow_other _ _ _ _ HTR.out.2.1).trans hHeld
    refine hK.out _ _ hs9 (fun hHeld=>?_)
    clear hK K'
    try walk_nrm
    clear hs9
    refine zo 8 rfl fun K' hK=>?_
    unfold Oper.wp execOp
    go_simp
    refine hK.out _ _ hHeld (fun hHeld=>?_)
    clear hK K'
    try walk_nrm
    refine zd ?_
    go_wp2_with fail
    refine bodyPost_ret (results_cct (fn:=Tryz.f55) rfl _ _ (A+1) (A+2) 34 34 fc oc (.int .i64 0) _ _ rfl rfl rfl ((setRow_other _ _ _ _ HTR.out.2.2).trans (setRow_heap _ _ _ _ _ _ HR1e.out)) (setRow_heap _ _ _ _ _ _ ((setRow_other _ _ _ _ (Ne.symm HTR.out.2.2)).trans HR2e.out)) Tryz.underlying34 Tryz.underlying34 rfl rfl HIF.out HIO.out) rfl ?_
    refine ⟨?_,((HM5.out.trans HM7.out).setRow (.inr (by have:=HA.out;omega)) _).setRow (.inr (by have:=HA.out;omega)) _⟩
    rw [climbTV_ok k N M old p (by rw [HCE.out,if_neg (by rw [HPL.out];simp)])]
    show Ending.returned (.tuple #[.agg fc,.agg oc,.int .i64 0])=.returned (.tuple #[hashV (tEnd k N M old p).fresh.sum,hashV (tEnd k N M old p).old.sum,.int .i64 0])
    rw [←HFS.out,←HOS.out,HFC.out,HOC.out]
    rfl
   ·have hqi:((pl:Int) != L)=true:=by simp;omega
    have hce90:treeErr N M p=90:=by rw [HCE.out,if_pos (by rw [←HPLL.out,←HLL.out];exact hq)]
    have hbad:=climbTV_bad k N M old p 90 hce90 (by decide)
    have HBAD:=zh hbad
    clear hce90 hbad
    go_wp2_with (first
     | (refine wpList_store_row rfl 34 _ _ rfl (A+1) z32B rfl rfl 34 Z HR1b.out info34z (HZS.out.trans rfl) z32_oneB ?_)
     | (refine wpList_store_row rfl 34 _ _ rfl (A+2) z32B rfl rfl 34 Z ((setRow_other _ _ _ _ (by omega)).trans HR2b.out) info34z (HZS.out.trans rfl) z32_oneB ?_))
    refine bodyPost_ret (results_cct (fn:=Tryz.f55) rfl _ _ (A+1) (A+2) 34 34 z32B z32B (.int .i64 90) _ _ rfl rfl rfl ((setRow_other _ _ _ _ (by omega)).trans (setRow_heap _ _ _ _ _ _ HR1b.out)) (setRow_heap _ _ _ _ _ _ ((setRow_other _ _ _ _ (by omega)).trans HR2b.out)) Tryz.underlying34 Tryz.underlying34 rfl rfl info34z info34z) rfl ?_
    exact ⟨by rw [HBAD.out],(HM3.out.setRow (.inr (by have:=HA.out;omega)) _).setRow (.inr (by have:=HA.out;omega)) _⟩
  ·have hce:treeErr n m p=1:=by unfold treeErr;rw [if_pos (by omega)]
   rw [climbTV_bad k n m old p 1 hce (by decide)]
   by_cases hi0:m<1
   ·clear hcs hcsz hp ho he hs hce K hi
    go_enter Tryz.func55,Tryz.ntmps55
    go_upto_region 1 with fail
    generalize hZ:(#[_,_,_,_,_,_,_,_,_,_,_,_,_,_,_,_,_,_,_,_,_,_,_,_,_,_,_,_,_,_,_,_]:Array Value)=Z
    have hZs:Z.size=32:=by rw [←hZ];rfl
    obtain ⟨A,hA⟩:=zg (w.heap.size)
    have h1:(((w.alloc (.cells cs 34)).alloc (.cells Z 34)).alloc (.cells Z 34)).heap[w.heap.size]?=some (.cells cs 34 (0,0)):=(Below.heap_alloc _ _ _ (by simp;omega)).trans ((Below.heap_alloc _ _ _ (by simp)).trans (heap_alloc_new _ _))
    have h2:(((w.alloc (.cells cs 34)).alloc (.cells Z 34)).alloc (.cells Z 34)).heap[w.heap.size+1]?=some (.cells Z 34 (0,0)):=by
     refine (Below.heap_alloc _ _ _ (by simp)).trans ?_
     rw [show w.heap.size+1=(w.alloc (.cells cs 34)).heap.size by simp];exact heap_alloc_new _ _
    have h3:(((w.alloc (.cells cs 34)).alloc (.cells Z 34)).alloc (.cells Z 34)).heap[w.heap.size+2]?=some (.cells Z 34 (0,0)):=by
     rw [show w.heap.size+2=((w.alloc (.cells cs 34)).alloc (.cells Z 34)).heap.size by simp];exact heap_alloc_new _ _
    have hm:Mv (fun _=>False) w (((w.alloc (.cells cs 34)).alloc (.cells Z 34)).alloc (.cells Z 34)):=(((Mv.refl _ _).alloc _).alloc _).alloc _
    generalize hW1:((w.alloc (.cells cs 34)).alloc (.cells Z 34)).alloc (.cells Z 34)=W1
    rw [hW1] at h1 h2 h3 hm
    rw [←hA] at h1 h2 h3 ⊢
    have H1:=zh h1
    have H2:=zh h2
    have H3:=zh h3
    have HM:=zh hm
    have HA:=zh hA
    have HZS:=zh hZs
    clear hZ hZs hW1 h1 h2 h3 hm hA
    go_wp2_with (first
     | (go_at_call 89;refine (HK.out _).mono ?_;rintro e w1 ⟨rfl,rfl⟩)
     | (refine wpList_store_row rfl 34 _ _ rfl (A+1) z32B rfl rfl 34 Z H2.out info34z (HZS.out.trans rfl) z32_oneB ?_)
     | (refine wpList_store_row rfl 34 _ _ rfl (A+2) z32B rfl rfl 34 Z ((setRow_other _ _ _ _ (by omega)).trans H3.out) info34z (HZS.out.trans rfl) z32_oneB ?_))
    refine bodyPost_ret (results_cct (fn:=Tryz.f55) rfl _ _ (A+1) (A+2) 34 34 z32B z32B (.int .i64 1) _ _ rfl rfl rfl ((setRow_other _ _ _ _ (by omega)).trans (setRow_heap _ _ _ _ _ _ H2.out)) (setRow_heap _ _ _ _ _ _ ((setRow_other _ _ _ _ (by omega)).trans H3.out)) Tryz.underlying34 Tryz.underlying34 rfl rfl info34z info34z) rfl ?_
    exact ⟨rfl,(HM.out.setRow (.inr (by have:=HA.out;omega)) _).setRow (.inr (by have:=HA.out;omega)) _⟩
   ·have hin:n<m:=by omega
    clear hcs hcsz hp ho he hs hce K hi
    go_enter Tryz.func55,Tryz.ntmps55
    go_upto_region 1 with fail
    generalize hZ:(#[_,_,_,_,_,_,_,_,_,_,_,_,_,_,_,_,_,_,_,_,_,_,_,_,_,_,_,_,_,_,_,_]:Array Value)=Z
    have hZs:Z.size=32:=by rw [←hZ];rfl
    obtain ⟨A,hA⟩:=zg (w.heap.size)
    have h1:(((w.alloc (.cells cs 34)).alloc (.cells Z 34)).alloc (.cells Z 34)).heap[w.heap.size]?=some (.cells cs 34 (0,0)):=(Below.heap_alloc _ _ _ (by simp;omega)).trans ((Below.heap_alloc _ _ _ (by simp)).trans (heap_alloc_new _ _))
    have h2:(((w.alloc (.cells cs 34)).alloc (.cells Z 34)).alloc (.cells Z 34)).heap[w.heap.size+1]?=some (.cells Z 34 (0,0)):=by
     refine (Below.heap_alloc _ _ _ (by simp)).trans ?_
     rw [show w.heap.size+1=(w.alloc (.cells cs 34)).heap.size by simp];exact heap_alloc_new _ _
    have h3:(((w.alloc (.cells cs 34)).alloc (.cells Z 34)).alloc (.cells Z 34)).heap[w.heap.size+2]?=some (.cells Z 34 (0,0)):=by
     rw [show w.heap.size+2=((w.alloc (.cells cs 34)).alloc (.cells Z 34)).heap.size by simp];exact heap_alloc_new _ _
    have hm:Mv (fun _=>False) w (((w.alloc (.cells cs 34)).alloc (.cells Z 34)).alloc (.cells Z 34)):=(((Mv.refl _ _).alloc _).alloc _).alloc _
    generalize hW1:((w.alloc (.cells cs 34)).alloc (.cells Z 34)).alloc (.cells Z 34)=W1
    rw [hW1] at h1 h2 h3 hm
    rw [←hA] at h1 h2 h3 ⊢
    have H1:=zh h1
    have H2:=zh h2
    have H3:=zh h3
    have HM:=zh hm
    have HA:=zh hA
    have HZS:=zh hZs
    clear hZ hZs hW1 h1 h2 h3 hm hA
    go_wp2_with (first
     | (go_at_call 89;refine (HK.out _).mono ?_;rintro e w1 ⟨rfl,rfl⟩)
     | (refine wpList_store_row rfl 34 _ _ rfl (A+1) z32B rfl rfl 34 Z H2.out info34z (HZS.out.trans rfl) z32_oneB ?_)
     | (refine wpList_store_row rfl 34 _ _ rfl (A+2) z32B rfl rfl 34 Z ((setRow_other _ _ _ _ (by omega)).trans H3.out) info34z (HZS.out.trans rfl) z32_oneB ?_))
    refine bodyPost_ret (results_cct (fn:=Tryz.f55) rfl _ _ (A+1) (A+2) 34 34 z32B z32B (.int .i64 1) _ _ rfl rfl rfl ((setRow_other _ _ _ _ (by omega)).trans (setRow_heap _ _ _ _ _ _ H2.out)) (setRow_heap _ _ _ _ _ _ ((setRow_other _ _ _ _ (by omega)).trans H3.out)) Tryz.underlying34 Tryz.underlying34 rfl rfl info34z info34z) rfl ?_
    exact ⟨rfl,(HM.out.setRow (.inr (by have:=HA.out;omega)) _).setRow (.inr (by have:=HA.out;omega)) _⟩
 ·have hs0:sizedP n=false:=by simpa using hs
  have hce:treeErr n m p=1:=by unfold treeErr;rw [if_pos (.inl hs)]
  rw [climbTV_bad k n m old p 1 hce (by decide)]
  rw [hs0] at K
  have HK:=zh K
  clear hcs hcsz hp ho he hs hs0 hce K
  go_enter Tryz.func55,Tryz.ntmps55
  go_upto_region 1 with fail
  generalize hZ:(#[_,_,_,_,_,_,_,_,_,_,_,_,_,_,_,_,_,_,_,_,_,_,_,_,_,_,_,_,_,_,_,_]:Array Value)=Z
  have hZs:Z.size=32:=by rw [←hZ];rfl
  obtain ⟨A,hA⟩:=zg (w.heap.size)
  have h1:(((w.alloc (.cells cs 34)).alloc (.cells Z 34)).alloc (.cells Z 34)).heap[w.heap.size]?=some (.cells cs 34 (0,0)):=(Below.heap_alloc _ _ _ (by simp;omega)).trans ((Below.heap_alloc _ _ _ (by simp)).trans (heap_alloc_new _ _))
  have h2:(((w.alloc (.cells cs 34)).alloc (.cells Z 34)).alloc (.cells Z 34)).heap[w.heap.size+1]?=some (.cells Z 34 (0,0)):=by
   refine (Below.heap_alloc _ _ _ (by simp)).trans ?_
   rw [show w.heap.size+1=(w.alloc (.cells cs 34)).heap.size by simp];exact heap_alloc_new _ _
  have h3:(((w.alloc (.cells cs 34)).alloc (.cells Z 34)).alloc (.cells Z 34)).heap[w.heap.size+2]?=some (.cells Z 34 (0,0)):=by
   rw [show w.heap.size+2=((w.alloc (.cells cs 34)).alloc (.cells Z 34)).heap.size by simp];exact heap_alloc_new _ _
  have hm:Mv (fun _=>False) w (((w.alloc (.cells cs 34)).alloc (.cells Z 34)).alloc (.cells Z 34)):=(((Mv.refl _ _).alloc _).alloc _).alloc _
  generalize hW1:((w.alloc (.cells cs 34)).alloc (.cells Z 34)).alloc (.cells Z 34)=W1
  rw [hW1] at h1 h2 h3 hm
  rw [←hA] at h1 h2 h3 ⊢
  have H1:=zh h1
  have H2:=zh h2
  have H3:=zh h3
  have HM:=zh hm
  have HA:=zh hA
  have HZS:=zh hZs
  clear hZ hZs hW1 h1 h2 h3 hm hA
  go_wp2_with (first
   | (go_at_call 89;refine (HK.out _).mono ?_;rintro e w1 ⟨rfl,rfl⟩)
   | (refine wpList_store_row rfl 34 _ _ rfl (A+1) z32B rfl rfl 34 Z H2.out info34z (HZS.out.trans rfl) z32_oneB ?_)
   | (refine wpList_store_row rfl 34 _ _ rfl (A+2) z32B rfl rfl 34 Z ((setRow_other _ _ _ _ (by omega)).trans H3.out) info34z (HZS.out.trans rfl) z32_oneB ?_))
  refine bodyPost_ret (results_cct (fn:=Tryz.f55) rfl _ _ (A+1) (A+2) 34 34 z32B z32B (.int .i64 1) _ _ rfl rfl rfl ((setRow_other _ _ _ _ (by omega)).trans (setRow_heap _ _ _ _ _ _ H2.out)) (setRow_heap _ _ _ _ _ _ ((setRow_other _ _ _ _ (by omega)).trans H3.out)) Tryz.underlying34 Tryz.underlying34 rfl rfl info34z info34z) rfl ?_
  exact ⟨rfl,(HM.out.setRow (.inr (by have:=HA.out;omega)) _).setRow (.inr (by have:=HA.out;omega)) _⟩
theorem tBeg_len (n m:Nat) (old:Bs) (p:List Bs) (w:World) (v:Value) (hp:HsIn w v p) (ho:old.length=32) (hl:p.length=(wayTree n m).length):(tBeg n m old p).length=32:=by
 unfold tBeg
 split
 ·rename_i hz
  rw [wayTree_pos n m hz] at hl
  obtain ⟨a,c,rfl⟩:=hp.shape
  exact (HsIn.at hp 0 (by rw [hl];simp)).choose_spec.choose_spec.2.2.1
 ·exact ho
def treeAns (k n m:Int) (root old:Bs) (p:List Bs):Int :=
 if treeErr n m p=0 then (if (tEnd k n.toNat m.toNat old p).fresh.sum=root∧(tEnd k n.toNat m.toNat old p).old.sum=old then 0 else 91) else treeErr n m p
set_option maxRecDepth 100000 in
set_option maxHeartbeats 3200000 in
theorem checkTree_any (k n m:Int) (pv:Value) (p:List Bs) (root old:Bs) (w:World) (hp:HsIn w pv p) (hr:root.length=32) (hl:old.length=32) (he:EnvH w) :
  Calls Tryz.prog 23 #[.int .i64 k,pv,.int .i64 n,hashV root,.int .i64 m,hashV old] w fun e w' =>
   e=.returned (.int .i64 (treeAns k n m root old p))∧Mv (fun _=>False) w w':=by
 obtain ⟨rs,hrs⟩:=zg ((root.map byteV).toArray)
 obtain ⟨ls,hls⟩:=zg ((old.map byteV).toArray)
 rw [show hashV root=.agg rs by rw [hrs];rfl,show hashV old=.agg ls by rw [hls];rfl]
 have HRS:=zh hrs
 have HLS:=zh hls
 have HIR:Hid ((Tryz.prog.info? 34).map (·.size)=some rs.size):=zh (by have hz:rs.size=32:=(by rw [hrs];simp [hr]);rw [hz];exact info34)
 have HIL:Hid ((Tryz.prog.info? 34).map (·.size)=some ls.size):=zh (by have hz:ls.size=32:=(by rw [hls];simp [hl]);rw [hz];exact info34)
 have HP:=zh hp
 have HR:=zh hr
 have HL:=zh hl
 have HE:=zh he
 obtain ⟨A,hA⟩:=zg (w.heap.size)
 have h1:((w.alloc (.cells rs 34)).alloc (.cells ls 34)).heap[w.heap.size]?=some (.cells rs 34 (0,0)):=(Below.heap_alloc _ _ _ (by simp)).trans (heap_alloc_new _ _)
 have h2:((w.alloc (.cells rs 34)).alloc (.cells ls 34)).heap[w.heap.size+1]?=some (.cells ls 34 (0,0)):=by
  rw [show w.heap.size+1=(w.alloc (.cells rs 34)).heap.size by simp];exact heap_alloc_new _ _
 have hm:Mv (fun _=>False) w ((w.alloc (.cells rs 34)).alloc (.cells ls 34)):=((Mv.refl _ _).alloc _).alloc _
 have HA:=zh hA
 clear hrs hls hp hr hl he
 go_enter Tryz.func23,Tryz.ntmps23
 go_upto_region 1 with fail
 generalize hW1:(w.alloc (.cells rs 34)).alloc (.cells ls 34)=W1
 rw [hW1] at h1 h2 hm
 rw [←hA] at h1 h2 ⊢
 have H1:=zh h1
 have H2:=zh h2
 have HM:=zh hm
 clear hW1 h1 h2 hm hA
 go_wp2_with (first
  | (refine wpList_load_row rfl 34 _ rfl (A+1) rfl 34 ls (0,0) _ H2.out Tryz.underlying34 rfl HIL.out ?_))
 have hcl:=climbTree_any k n m pv p old W1 (HP.out.mv HM.out (fun _ _ h=>h)) HL.out (HE.out.mv HM.out (fun _ h=>h.elim))
 rw [show hashV old=.agg ls by rw [HLS.out];rfl] at hcl
 refine hcl.mono ?_
 rintro e w2 ⟨rfl,hm2⟩
 have HM2:Hid (Mv (fun _=>False) w w2):=zh (HM.out.trans hm2)
 have ha2:Hid (w2.heap[A]?=some (.cells rs 34 (0,0))):=zbl hm2 H1
 have hb2:Hid (w2.heap[A+1]?=some (.cells ls 34 (0,0))):=zbl hm2 H2
 clear hcl hm2
 have HF:Hid (∀ o o',((w2.alloc o).alloc o').heap[A]?=some (.cells rs 34 (0,0))):=zh fun o o'=>(Below.heap_alloc _ _ _ (by have:=lt_of_heap ha2.out;simp;omega)).trans ((Below.heap_alloc _ _ _ (lt_of_heap ha2.out)).trans ha2.out)
 have HF2:Hid (∀ o o',((w2.alloc o).alloc o').heap[A+1]?=some (.cells ls 34 (0,0))):=zh fun o o'=>(Below.heap_alloc _ _ _ (by have:=lt_of_heap hb2.out;simp;omega)).trans ((Below.heap_alloc _ _ _ (lt_of_heap hb2.out)).trans hb2.out)
 have HNE:Hid (A≠w2.heap.size∧A≠w2.heap.size+1∧A+1≠w2.heap.size∧A+1≠w2.heap.size+1):=zh (by have:=lt_of_heap ha2.out;have:=lt_of_heap hb2.out;omega)
 have HN0:Hid (∀ o o',((w2.alloc o).alloc o').heap[w2.heap.size]?=some o):=zh fun o o'=>(Below.heap_alloc _ _ _ (by simp)).trans (heap_alloc_new _ _)
 have HN1:Hid (∀ o o',((w2.alloc o).alloc o').heap[w2.heap.size+1]?=some o'):=zh fun o o'=>by rw [show w2.heap.size+1=(w2.alloc o).heap.size by simp];exact heap_alloc_new _ _
 obtain ⟨c,hcc⟩:=zg (treeErr n m p)
 obtain ⟨F,hFF⟩:=zg ((if c=0 then (tEnd k n.toNat m.toNat old p).fresh.sum else zero32))
 obtain ⟨O,hOO⟩:=zg ((if c=0 then (tEnd k n.toNat m.toNat old p).old.sum else zero32))
 have hval:climbTV k n m old p=.tuple #[hashV F,hashV O,.int .i64 c]:=by unfold climbTV;rw [hFF,hOO,hcc]
 rw [hval]
 have hz:treeAns k n m root old p=if c=0 then (if F=root∧O=old then 0 else 91) else c:=by
  unfold treeAns
  rw [←hcc,hFF,hOO]
  by_cases h0:c=0
  ·rw [if_pos h0,if_pos h0,if_pos h0,if_pos h0]
  ·rw [if_neg h0,if_neg h0]
 have hFl:F.length=32:=by
  rw [hFF];split
  ·rename_i h0
   exact (tEnd_len _ _ _ _ _ (by
    have h1:¬ (¬ (sizedP n=true)∨m<1∨n<m):=fun h=>by rw [hcc] at h0;unfold treeErr at h0;rw [if_pos h] at h0;cases h0
    have h2:p.length=(wayTree n.toNat m.toNat).length:=by
     rw [hcc] at h0;unfold treeErr at h0;rw [if_neg h1] at h0
     apply Classical.byContradiction;intro hx;rw [if_pos hx] at h0;cases h0
    exact tBeg_len n.toNat m.toNat old p _ _ HP.out HL.out h2)).1
  ·rfl
 have hOl:O.length=32:=by
  rw [hOO];split
  ·rename_i h0
   exact (tEnd_len _ _ _ _ _ (by
    have h1:¬ (¬ (sizedP n=true)∨m<1∨n<m):=fun h=>by rw [hcc] at h0;unfold treeErr at h0;rw [if_pos h] at h0;cases h0
    have h2:p.length=(wayTree n.toNat m.toNat).length:=by
     rw [hcc] at h0;unfold treeErr at h0;rw [if_neg h1] at h0
     apply Classical.byContradiction;intro hx;rw [if_pos hx] at h0;cases h0
    exact tBeg_len n.toNat m.toNat old p _ _ HP.out HL.out h2)).2
  ·rfl
 have hne1:=hash_neq F root hFl HR.out
 have hne2:=hash_neq O old hOl HL.out
 obtain ⟨fc,hfc⟩:=zg ((F.map byteV).toArray)
 obtain ⟨oc,hoc⟩:=zg ((O.map byteV).toArray)
 rw [←hfc,←HRS.out] at hne1
 rw [←hoc,←HLS.out] at hne2
 rw [show hashV F=.agg fc by rw [hfc];rfl,show hashV O=.agg oc by rw [hoc];rfl]
 have hfz:fc.size=32:=by rw [hfc];simp [hFl]
 have hoz:oc.size=32:=by rw [hoc];simp [hOl]
 have HIF:Hid ((Tryz.prog.info? 34).map (·.size)=some fc.size):=zh (by rw [hfz];exact info34)
 have HIO:Hid ((Tryz.prog.info? 34).map (·.size)=some oc.size):=zh (by rw [hoz];exact info34)
 have HZF:Hid (32=fc.size):=zh hfz.symm
 have HZO:Hid (32=oc.size):=zh hoz.symm
 have HOF:Hid (fc.all (·.oneCell')=true):=zh (by rw [hfc];exact hash_one F)
 have HOO:Hid (oc.all (·.oneCell')=true):=zh (by rw [hoc];exact hash_one O)
 have HZ:=zh hz
 have HN:=zh hne1
 have HN2:=zh hne2
 have HSZ:Hid (w.heap.size≤w2.heap.size):=zh HM2.out.size
 have HW:Hid (∀ Z Z':Array Value,(((w2.alloc (.cells Z 34)).alloc (.cells Z' 34)).setRow w2.heap.size fc |>.setRow (w2.heap.size+1) oc).heap[A]?=some (.cells rs 34 (0,0))∧(((w2.alloc (.cells Z 34)).alloc (.cells Z' 34)).setRow w2.heap.size fc |>.setRow (w2.heap.size+1) oc).heap[A+1]?=some (.cells ls 34 (0,0)) ∧
   (((w2.alloc (.cells Z 34)).alloc (.cells Z' 34)).setRow w2.heap.size fc |>.setRow (w2.heap.size+1) oc).heap[w2.heap.size]?=some (.cells fc 34 (0,0))∧(((w2.alloc (.cells Z 34)).alloc (.cells Z' 34)).setRow w2.heap.size fc |>.setRow (w2.heap.size+1) oc).heap[w2.heap.size+1]?=some (.cells oc 34 (0,0)) ∧
   Mv (fun _=>False) w (((w2.alloc (.cells Z 34)).alloc (.cells Z' 34)).setRow w2.heap.size fc |>.setRow (w2.heap.size+1) oc)):=zh fun Z Z' =>
  ⟨(setRow_other _ _ _ _ HNE.out.2.1).trans ((setRow_other _ _ _ _ HNE.out.1).trans (HF.out _ _)),(setRow_other _ _ _ _ HNE.out.2.2.2).trans ((setRow_other _ _ _ _ HNE.out.2.2.1).trans (HF2.out _ _)),
   (setRow_other _ _ _ _ (by omega)).trans (setRow_heap _ _ _ _ _ _ (HN0.out _ _)),setRow_heap _ _ _ _ _ _ ((setRow_other _ _ _ _ (by omega)).trans (HN1.out _ _)),
   (((HM2.out.alloc _).alloc _).setRow (.inr HM2.out.size) _).setRow (.inr (by have:=HM2.out.size;omega)) _⟩
 clear hval hz hFl hOl hfc hoc hfz hoz hFF hOO hcc hne1 hne2
 go_upto_region 2 with (first
  | (refine wpList_store_row rfl 34 _ _ rfl w2.heap.size fc rfl rfl 34 _ (HN0.out _ _) HIF.out HZF.out HOF.out ?_)
  | (refine wpList_store_row rfl 34 _ _ rfl (w2.heap.size+1) oc rfl rfl 34 _ ((setRow_other _ _ _ _ (by omega)).trans (HN1.out _ _)) HIO.out HZO.out HOO.out ?_))
 generalize hW:World.setRow _ _ _=W
 obtain ⟨f1,f2,f3,f4,f5⟩:=HW.out _ _
 rw [hW] at f1 f2 f3 f4 f5
 obtain ⟨B,hB⟩:=zg (w2.heap.size)
 rw [←hB] at f3 f4 ⊢
 have F1:=zh f1
 have F2:=zh f2
 have F3:=zh f3
 have F4:=zh f4
 have F5:=zh f5
 clear f1 f2 f3 f4 f5 hW hB HW HN0 HN1 HNE HF HF2
 obtain ⟨r,hr⟩:=zg (treeAns k n m root old p)
 rw [←hr] at HZ
 have HRR:=zh hr
 clear hr
 by_cases h0:c=0
 ·subst h0
  cases hb:(F == root) with
  | true =>
   have hq:F=root:=by simpa using hb
   have hne1:=HN.out
   rw [hb] at hne1
   cases hb2:(O == old) with
   | true =>
    have hq2:O=old:=by simpa using hb2
    have hne2:=HN2.out
    rw [hb2] at hne2
    have hr0:r=0:=by rw [HZ.out,if_pos rfl,if_pos ⟨hq,hq2⟩]
    have HR0:=zh hr0
    clear hq hq2 hb hb2 hr0
    go_wp2_with (first
     | (refine wpList_load_rowG 34 _ rfl B rfl 34 fc (0,0) _ F3.out Tryz.underlying34 rfl HIF.out rfl ?_)
     | (refine wpList_load_rowG 34 _ rfl A rfl 34 rs (0,0) _ F1.out Tryz.underlying34 rfl HIR.out rfl ?_)
     | (refine wpList_load_rowG 34 _ rfl (B+1) rfl 34 oc (0,0) _ F4.out Tryz.underlying34 rfl HIO.out rfl ?_)
     | (refine wpList_load_rowG 34 _ rfl (A+1) rfl 34 ls (0,0) _ F2.out Tryz.underlying34 rfl HIL.out rfl ?_))
    go_ret
    exact ⟨by rw [←HRR.out,HR0.out];rfl,F5.out⟩
   | false =>
    have hq2:O≠old:=by simpa using hb2
    have hne2:=HN2.out
    rw [hb2] at hne2
    have hr0:r=91:=by rw [HZ.out,if_pos rfl,if_neg (fun h=>hq2 h.2)]
    have HR0:=zh hr0
    clear hq hq2 hb hb2 hr0
    go_wp2_with (first
     | (refine wpList_load_rowG 34 _ rfl B rfl 34 fc (0,0) _ F3.out Tryz.underlying34 rfl HIF.out rfl ?_)
     | (refine wpList_load_rowG 34 _ rfl A rfl 34 rs (0,0) _ F1.out Tryz.underlying34 rfl HIR.out rfl ?_)
     | (refine wpList_load_rowG 34 _ rfl (B+1) rfl 34 oc (0,0) _ F4.out Tryz.underlying34 rfl HIO.out rfl ?_)
     | (refine wpList_load_rowG 34 _ rfl (A+1) rfl 34 ls (0,0) _ F2.out Tryz.underlying34 rfl HIL.out rfl ?_))
    go_ret
    exact ⟨by rw [←HRR.out,HR0.out];rfl,F5.out⟩
  | false =>
   have hq:F≠root:=by simpa using hb
   have hne1:=HN.out
   rw [hb] at hne1
   have hr0:r=91:=by rw [HZ.out,if_pos rfl,if_neg (fun h=>hq h.1)]
   have HR0:=zh hr0
   clear hq hb hr0
   go_wp2_with (first
    | (refine wpList_load_rowG 34 _ rfl B rfl 34 fc (0,0) _ F3.out Tryz.underlying34 rfl HIF.out rfl ?_)
    | (refine wpList_load_rowG 34 _ rfl A rfl 34 rs (0,0) _ F1.out Tryz.underlying34 rfl HIR.out rfl ?_))
   go_ret
   exact ⟨by rw [←HRR.out,HR0.out];rfl,F5.out⟩
 ·have hr0:r=c:=by rw [HZ.out,if_neg h0]
  have HR0:=zh hr0
  have g0:((c:Int) == 0)=false:=by simpa using h0
  clear h0 hr0
  go_wp2_with fail
  go_ret
  exact ⟨by rw [←HRR.out,HR0.out];rfl,F5.out⟩
end Go.Proofs.YtdfdikpklddnhaaGreatDoor
