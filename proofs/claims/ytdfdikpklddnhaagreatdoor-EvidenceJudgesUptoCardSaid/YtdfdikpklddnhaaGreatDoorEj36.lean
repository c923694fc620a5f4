/- Of the proof of EvidenceJudges, second form: for values of bulk at most 1048576. (Ej36) -/
import Derived.Test.YtdfdikpklddnhaaGreatDoorEj01
import Derived.Test.YtdfdikpklddnhaaGreatDoorEj15
namespace Go.Proofs.YtdfdikpklddnhaaGreatDoor
open Go.RowKit
def upN (k:Int):List Step→List Bs→Nd→Nd
 | s :: W,h :: q,t=>climbStep k (upN k W q t) s h
 | _,_,t=>t
def upT (k:Int):List Step→List Bs→TSt→TSt
 | s :: W,h :: q,t=>tStep k (upT k W q t) s h
 | _,_,t=>t
def upM (k:Int):List Step→List Bs→TSt→Nat→Nat→Bs
 | s :: W,h :: q,t=>mput (upM k W q t) (tStep k (upT k W q t) s h).sa (tStep k (upT k W q t) s h).sb (tStep k (upT k W q t) s h).fresh.sum
 | _,_,t=>mput (fun _ _=>zero32) t.sa t.sb t.fresh.sum
theorem getD_left {α:Type} (l l':List α) (d:α) (j:Nat) (h:j<l.length):(l++l').getD j d=l.getD j d:=by
 rw [List.getD_eq_getElem?_getD,List.getD_eq_getElem?_getD,List.getElem?_append_left h]
theorem getD_end {α:Type} (l:List α) (x d:α) (j:Nat) (h:j=l.length):(l++[x]).getD j d=x:=by
 rw [List.getD_eq_getElem?_getD,List.getElem?_append_right (by omega),h];simp
theorem climbN_app (k:Int) (leaf:Bs) (way way':List Step) (p p':List Bs):∀ j,j≤way.length→j≤p.length→climbN k leaf (way++way') (p++p') j=climbN k leaf way p j
 | 0,_,_=>rfl
 | j+1,h1,h2=>by
  show climbStep k (climbN k leaf (way++way') (p++p') j) ((way++way').getD j ⟨0,0,false⟩) ((p++p').getD j [])=climbStep k (climbN k leaf way p j) (way.getD j ⟨0,0,false⟩) (p.getD j [])
  rw [climbN_app k leaf way way' p p' j (by omega) (by omega),getD_left _ _ _ _ (by omega),getD_left _ _ _ _ (by omega)]
theorem climbN_up (k:Int) (leaf:Bs):∀ (W:List Step) (q:List Bs),q.length=W.length→climbN k leaf W.reverse q.reverse W.length=upN k W q (.given leaf)
 | [],_,_=>rfl
 | s :: W,[],h=>by simp at h
 | s :: W,x :: q,h=>by
  simp only [List.length_cons,Nat.add_right_cancel_iff] at h
  rw [List.reverse_cons,List.reverse_cons,List.length_cons]
  show climbStep k (climbN k leaf (W.reverse++[s]) (q.reverse++[x]) W.length) ((W.reverse++[s]).getD W.length ⟨0,0,false⟩) ((q.reverse++[x]).getD W.length [])=climbStep k (upN k W q (.given leaf)) s x
  rw [climbN_app k leaf _ _ _ _ _ (by simp) (by simp [h]),climbN_up k leaf W q h,getD_end _ _ _ _ (by simp),getD_end _ _ _ _ (by simp [h])]
theorem tRun_app (k:Int) (st:TSt) (way way':List Step) (p p':List Bs):∀ j,j≤way.length→j≤p.length→tRun k st (way++way') (p++p') j=tRun k st way p j
 | 0,_,_=>rfl
 | j+1,h1,h2=>by
  show tStep k (tRun k st (way++way') (p++p') j) ((way++way').getD j ⟨0,0,false⟩) ((p++p').getD j [])=tStep k (tRun k st way p j) (way.getD j ⟨0,0,false⟩) (p.getD j [])
  rw [tRun_app k st way way' p p' j (by omega) (by omega),getD_left _ _ _ _ (by omega),getD_left _ _ _ _ (by omega)]
theorem tRun_up (k:Int) (st:TSt):∀ (W:List Step) (q:List Bs),q.length=W.length→tRun k st W.reverse q.reverse W.length=upT k W q st
 | [],_,_=>rfl
 | s :: W,[],h=>by simp at h
 | s :: W,x :: q,h=>by
  simp only [List.length_cons,Nat.add_right_cancel_iff] at h
  rw [List.reverse_cons,List.reverse_cons,List.length_cons]
  show tStep k (tRun k st (W.reverse++[s]) (q.reverse++[x]) W.length) ((W.reverse++[s]).getD W.length ⟨0,0,false⟩) ((q.reverse++[x]).getD W.length [])=tStep k (upT k W q st) s x
  rw [tRun_app k st _ _ _ _ _ (by simp) (by simp [h]),tRun_up k st W q h,getD_end _ _ _ _ (by simp),getD_end _ _ _ _ (by simp [h])]
theorem tMap_app (k:Int) (st:TSt) (way way':List Step) (p p':List Bs):∀ j,j≤way.length→j≤p.length→tMap k st (way++way') (p++p') j=tMap k st way p j
 | 0,_,_=>rfl
 | j+1,h1,h2=>by
  show mput (tMap k st (way++way') (p++p') j) (tRun k st (way++way') (p++p') (j+1)).sa (tRun k st (way++way') (p++p') (j+1)).sb (tRun k st (way++way') (p++p') (j+1)).fresh.sum=mput (tMap k st way p j) (tRun k st way p (j+1)).sa (tRun k st way p (j+1)).sb (tRun k st way p (j+1)).fresh.sum
  rw [tMap_app k st way way' p p' j (by omega) (by omega),tRun_app k st _ _ _ _ _ h1 h2]
theorem tMap_up (k:Int) (st:TSt):∀ (W:List Step) (q:List Bs),q.length=W.length→tMap k st W.reverse q.reverse W.length=upM k W q st
 | [],_,_=>rfl
 | s :: W,[],h=>by simp at h
 | s :: W,x :: q,h=>by
  have h':=h
  simp only [List.length_cons,Nat.add_right_cancel_iff] at h
  have e:=tRun_up k st (s :: W) (x :: q) h'
  rw [List.reverse_cons,List.reverse_cons,List.length_cons] at e ⊢
  show mput (tMap k st (W.reverse++[s]) (q.reverse++[x]) W.length) (tRun k st (W.reverse++[s]) (q.reverse++[x]) (W.length+1)).sa (tRun k st (W.reverse++[s]) (q.reverse++[x]) (W.length+1)).sb (tRun k st (W.reverse++[s]) (q.reverse++[x]) (W.length+1)).fresh.sum=upM k (s :: W) (x :: q) st
  rw [e,tMap_app k st _ _ _ _ _ (by simp) (by simp [h]),tMap_up k st W q h]
  rfl
theorem wayDown_spans (stop:Nat→Nat→Bool) (left:Nat→Bool) (a b:Nat):(∀ s∈(wayDown stop left a b).1,a≤s.a∧s.a<s.b∧s.b≤b∧¬ (s.a=a∧s.b=b))∧a≤(wayDown stop left a b).2.1∧(wayDown stop left a b).2.2≤b:=by
 by_cases h1:stop a b=true∨b<a+2
 ·rw [wayDown,if_pos h1]
  exact ⟨fun _ h=>(by cases h),Nat.le_refl _,Nat.le_refl _⟩
 ·have hc:=cutN_in a b (by omega)
  rw [wayDown,if_neg h1]
  by_cases h4:left (cutN a b)=true
  ·rw [if_pos h4]
   obtain ⟨i1,i2,i3⟩:=wayDown_spans stop left a (cutN a b)
   refine ⟨fun s hs=>?_,i2,Nat.le_trans i3 (by omega)⟩
   rcases List.mem_cons.1 hs with rfl|hs
   ·exact ⟨by show a≤cutN a b;omega,by show cutN a b<b;omega,Nat.le_refl _,by show ¬ (cutN a b=a∧b=b);omega⟩
   ·have:=i1 s hs;omega
  ·rw [if_neg h4]
   obtain ⟨i1,i2,i3⟩:=wayDown_spans stop left (cutN a b) b
   refine ⟨fun s hs=>?_,Nat.le_trans (by omega) i2,i3⟩
   rcases List.mem_cons.1 hs with rfl|hs
   ·exact ⟨Nat.le_refl _,by show a<cutN a b;omega,by show cutN a b≤b;omega,by show ¬ (a=a∧cutN a b=b);omega⟩
   ·have:=i1 s hs;omega
termination_by b - a
theorem way_fun (stop:Nat→Nat→Bool) (left:Nat→Bool) (a b:Nat):∀ (q:List Bs),∀ x∈(wayDown stop left a b).1.zip q,∀ y∈(wayDown stop left a b).1.zip q,x.1.a=y.1.a→x.1.b=y.1.b→x.2=y.2:=by
 intro q x hx y hy ea eb
 by_cases h1:stop a b=true∨b<a+2
 ·rw [wayDown,if_pos h1] at hx;simp at hx
 ·have hc:=cutN_in a b (by omega)
  rw [wayDown,if_neg h1] at hx hy
  cases q with
  | nil=>simp at hx
  | cons h q =>
   by_cases h4:left (cutN a b)=true
   ·rw [if_pos h4] at hx hy
    have sp:=(wayDown_spans stop left a (cutN a b)).1
    simp only [List.zip_cons_cons,List.mem_cons] at hx hy
    rcases hx with rfl|hx
    ·rcases hy with rfl|hy
     ·rfl
     ·have:=sp _ (List.of_mem_zip hy).1
      simp only at eb;omega
    ·rcases hy with rfl|hy
     ·have:=sp _ (List.of_mem_zip hx).1
      simp only at eb;omega
     ·exact way_fun stop left a (cutN a b) q x hx y hy ea eb
   ·rw [if_neg h4] at hx hy
    have sp:=(wayDown_spans stop left (cutN a b) b).1
    simp only [List.zip_cons_cons,List.mem_cons] at hx hy
    rcases hx with rfl|hx
    ·rcases hy with rfl|hy
     ·rfl
     ·have:=sp _ (List.of_mem_zip hy).1
      simp only at ea;omega
    ·rcases hy with rfl|hy
     ·have:=sp _ (List.of_mem_zip hx).1
      simp only at ea;omega
     ·exact way_fun stop left (cutN a b) b q x hx y hy ea eb
termination_by b - a
theorem cut_same (a b m:Nat) (hb:b≤281474976710656) (h:a+2≤b) (h1:cutN a b<m) (h2:m≤b):cutN a m=cutN a b:=by
 have hc:=cutN_in a b h
 obtain ⟨e,e1,_,_,e3,e4,_,_⟩:=cut_pow a b h hb
 obtain ⟨d,d1,_,_,d3,d4,_,_⟩:=cut_pow a m (by omega) (by omega)
 have hed:e=d:=by
  rcases Nat.lt_trichotomy e d with hl|hl|hl
  ·have:2 ^ (e+1)≤2 ^ d:=Nat.pow_le_pow_right (by decide) (by omega)
   rw [Nat.pow_succ] at this;omega
  ·exact hl
  ·have:2 ^ (d+1)≤2 ^ e:=Nat.pow_le_pow_right (by decide) (by omega)
   rw [Nat.pow_succ] at this;omega
 rw [d1,e1,hed]
def fillP (f:Nat→Nat→Bs):List (Step × Bs)→Nat→Nat→Bs
 | []=>f
 | x :: l=>fillP (mput f x.1.a x.1.b x.2) l
theorem fillP_none:∀ (l:List (Step × Bs)) (f:Nat→Nat→Bs) (a b:Nat),(∀ x∈l,¬ (x.1.a=a∧x.1.b=b))→fillP f l a b=f a b
 | [],_,_,_,_=>rfl
 | x :: l,f,a,b,h=>by
  show fillP (mput f x.1.a x.1.b x.2) l a b=f a b
  rw [fillP_none l _ a b fun y hy=>h y (List.mem_cons_of_mem _ hy)]
  have:=h x (List.mem_cons_self ..)
  unfold mput
  rw [if_neg (fun e=>this ⟨e.1.symm,e.2.symm⟩)]
theorem fillP_mem:∀ (l:List (Step × Bs)) (f:Nat→Nat→Bs) (x:Step × Bs),x∈l→(∀ y∈l,y.1.a=x.1.a→y.1.b=x.1.b→y.2=x.2)→fillP f l x.1.a x.1.b=x.2
 | z :: l,f,x,hx,h=>by
  show fillP (mput f z.1.a z.1.b z.2) l x.1.a x.1.b=x.2
  by_cases hy:∃ y∈l,y.1.a=x.1.a∧y.1.b=x.1.b
  ·obtain ⟨y,hy,ea,eb⟩:=hy
   have:=fillP_mem l (mput f z.1.a z.1.b z.2) y hy fun u hu h1 h2=>by
    rw [h u (List.mem_cons_of_mem _ hu) (h1.trans ea) (h2.trans eb),h y (List.mem_cons_of_mem _ hy) ea eb]
   rw [ea,eb] at this
   rw [this,h y (List.mem_cons_of_mem _ hy) ea eb]
  ·rw [fillP_none l _ _ _ fun y hyl e=>hy ⟨y,hyl,e⟩]
   have hzx:z=x:=by
    rcases List.mem_cons.1 hx with e|e
    ·exact e.symm
    ·exact absurd ⟨x,e,rfl,rfl⟩ hy
   subst hzx
   unfold mput
   rw [if_pos ⟨rfl,rfl⟩]
theorem map_of_zip (f:Nat→Nat→Bs):∀ (W:List Step) (q:List Bs),q.length=W.length→(∀ x∈W.zip q,f x.1.a x.1.b=x.2)→W.map (fun s=>f s.a s.b)=q
 | [],q,h,_=>by cases q with|nil=>rfl|cons x q=>simp at h
 | s :: W,[],h,_=>by simp at h
 | s :: W,x :: q,h,hx=>by
  simp only [List.length_cons,Nat.add_right_cancel_iff] at h
  rw [List.map_cons,map_of_zip f W q h fun y hy=>hx y (by simp [hy])]
  have:=hx (s,x) (by simp)
  simp only at this
  rw [this]
def nodeB (l r:Bs):Bs:=1 :: (l++r)
def partsP:Nd→Nd→Option (Bs × Bs)
 | .joined al ar _,.joined bl br _=>if al.sum=bl.sum∧ar.sum=br.sum then none else some (nodeB al.sum ar.sum,nodeB bl.sum br.sum)
 | _,_=>none
def rightN:Nd→Nd
 | .joined _ r _=>r
 | t=>t
def descP (i m sd sa:Nat) (A B:Nd):Option (Bs × Bs) :=
 if sa=sd∨m<sa+2 then none
 else match partsP A B with
  | some p=>some p
  | none=>if i<cutN sa m then none else descP i m sd (cutN sa m) (rightN A) (rightN B)
termination_by m - sa
decreasing_by (have:=cutN_in sa m (by omega);omega)
theorem descP_go (i m sd sa:Nat) (A B:Nd) (h1:sa≠sd) (h2:sa+2≤m):descP i m sd sa A B=match partsP A B with
  | some p=>some p
  | none=>if i<cutN sa m then none else descP i m sd (cutN sa m) (rightN A) (rightN B):=by
 rw [descP,if_neg (by omega)]
inductive Chain (i m sd:Nat):Nat→Nd→Nd→Prop where
 | stop (A B:Nd):Chain i m sd sd A B
 | go (sa:Nat) (al ar bl br:Nd) (ha hb:Bs) (h1:sa<sd) (h2:sa+2≤m) (h3:cutN sa m≤sd) (h4:(al.sum=bl.sum∧ar.sum=br.sum)→cutN sa m≤i→Chain i m sd (cutN sa m) ar br):Chain i m sd sa (.joined al ar ha) (.joined bl br hb)
def Alike (k:Int) (x y:Bs):Prop:=x≠y∧weakL (effK k) (sha x)=weakL (effK k) (sha y)
theorem nodeB_inj {a b c d:Bs} (h1:a.length=32) (h2:c.length=32) (h:nodeB a b=nodeB c d):a=c∧b=d:=by
 unfold nodeB at h
 exact List.append_inj (List.cons.inj h).2 (by omega)
theorem upN_len (k:Int) (leaf:Bs) (hl:leaf.length=32):∀ (W:List Step) (q:List Bs),(upN k W q (.given leaf)).sum.length=32
 | [],_=>by unfold upN;exact hl
 | _ :: _,[]=>by unfold upN;exact hl
 | s :: W,h :: q=>by
  show (climbStep k (upN k W q (.given leaf)) s h).sum.length=32
  unfold climbStep
  split <;> exact nodeP_length _ _ _
theorem upT_len (k:Int) (st:TSt) (h1:st.old.sum.length=32):∀ (W:List Step) (q:List Bs),(upT k W q st).old.sum.length=32
 | [],_=>by unfold upT;exact h1
 | _ :: _,[]=>by unfold upT;exact h1
 | s :: W,h :: q=>by
  show (tStep k (upT k W q st) s h).old.sum.length=32
  unfold tStep
  split
  ·exact upT_len k st h1 W q
  ·exact nodeP_length _ _ _
theorem upT_span (k:Int) (m:Nat) (st:TSt) (a b:Nat) (hs:(st.sa,st.sb)=(wayDown (treeStop m) (treeLeft m) a b).2):∀ (q:List Bs),q.length=(wayDown (treeStop m) (treeLeft m) a b).1.length →
  (upT k (wayDown (treeStop m) (treeLeft m) a b).1 q st).sa=a∧(upT k (wayDown (treeStop m) (treeLeft m) a b).1 q st).sb=b:=by
 intro q hq
 by_cases h1:treeStop m a b=true∨b<a+2
 ·rw [wayDown,if_pos h1] at hs hq ⊢
  simp only [Prod.mk.injEq] at hs
  exact hs
 ·have hc:=cutN_in a b (by omega)
  rw [wayDown,if_neg h1] at hs hq ⊢
  by_cases h4:treeLeft m (cutN a b)=true
  ·rw [if_pos h4] at hs hq ⊢
   cases q with
   | nil=>simp at hq
   | cons h q =>
    have ih:=upT_span k m st a (cutN a b) hs q (by simpa using hq)
    exact ⟨ih.1,rfl⟩
  ·rw [if_neg h4] at hs hq ⊢
   cases q with
   | nil=>simp at hq
   | cons h q =>
    have ih:=upT_span k m st (cutN a b) b hs q (by simpa using hq)
    exact ⟨rfl,ih.2⟩
termination_by b - a
theorem upM_top (k:Int):∀ (W:List Step) (q:List Bs) (st:TSt),upM k W q st (upT k W q st).sa (upT k W q st).sb=(upT k W q st).fresh.sum
 | [],_,st=>by unfold upM upT mput;rw [if_pos ⟨rfl,rfl⟩]
 | _ :: _,[],st=>by unfold upM upT mput;rw [if_pos ⟨rfl,rfl⟩]
 | s :: W,h :: q,st=>by
  show mput (upM k W q st) (tStep k (upT k W q st) s h).sa (tStep k (upT k W q st) s h).sb (tStep k (upT k W q st) s h).fresh.sum (tStep k (upT k W q st) s h).sa (tStep k (upT k W q st) s h).sb=(tStep k (upT k W q st) s h).fresh.sum
  unfold mput;rw [if_pos ⟨rfl,rfl⟩]
theorem lift_main (k:Int) (i m:Nat) (leaf sh:Bs) (f:Nat→Nat→Bs) (hlf:leaf.length=32) (st:TSt) (hst:st.fresh=.given sh∧st.old=.given sh) (hsh:sh.length=32) (a b:Nat) (hb:b≤281474976710656) (ha:a≤i) (him:i<m) (hmb:m≤b)
  (hs:(st.sa,st.sb)=(wayDown (treeStop m) (treeLeft m) a b).2):∀ (q qt:List Bs),q.length=(wayDown recStop (recLeft i) a m).1.length→qt.length=(wayDown (treeStop m) (treeLeft m) a b).1.length →
  (∀ h∈q,h.length=32)→(∀ h∈qt,h.length=32) →
  (∀ x∈(wayDown recStop (recLeft i) a m).1.zip q,f x.1.a x.1.b=x.2) →
  (∀ x∈(wayDown (treeStop m) (treeLeft m) a b).1.zip qt,m<x.1.b→f x.1.a x.1.b=x.2) →
  (∀ x y,a≤x→m<y→y≤b→(∀ s∈(wayDown (treeStop m) (treeLeft m) a b).1,¬ (s.a=x∧s.b=y))→f x y=upM k (wayDown (treeStop m) (treeLeft m) a b).1 qt st x y) →
  (upN k (wayDown recStop (recLeft i) a m).1 q (.given leaf)).sum=(upT k (wayDown (treeStop m) (treeLeft m) a b).1 qt st).old.sum →
  Chain i m st.sa a (upN k (wayDown recStop (recLeft i) a m).1 q (.given leaf)) (upT k (wayDown (treeStop m) (treeLeft m) a b).1 qt st).old ∧
  match descP i m st.sa a (upN k (wayDown recStop (recLeft i) a m).1 q (.given leaf)) (upT k (wayDown (treeStop m) (treeLeft m) a b).1 qt st).old with
  | some (x,y)=>Alike k x y
  | none=>(upN k (wayDown recStop (recLeft i) a b).1 ((wayDown recStop (recLeft i) a b).1.map fun s=>f s.a s.b) (.given leaf)).sum=(upT k (wayDown (treeStop m) (treeLeft m) a b).1 qt st).fresh.sum:=by
 intro q qt hq hqt hq32 hqt32 hway hfrom hfresh heq
 by_cases hbm:b=m
 ·have h1:treeStop m a b=true:=decide_eq_true hbm
  rw [wayDown_stop _ _ _ _ h1] at hs heq ⊢
  simp only [Prod.mk.injEq] at hs
  obtain ⟨hsa,hsb⟩:=hs
  have e1:upT k [] qt st=st:=by unfold upT;rfl
  rw [e1] at heq ⊢
  rw [hsa]
  refine ⟨.stop _ _,?_⟩
  rw [descP,if_pos (.inl rfl)]
  subst hbm
  rw [map_of_zip f _ _ hq hway]
  show (upN k (wayDown recStop (recLeft i) a b).1 q (.given leaf)).sum=st.fresh.sum
  rw [heq,hst.1,hst.2]
 ·have h1:treeStop m a b=false:=decide_eq_false hbm
  have hab:a+2≤b:=by omega
  have hc:=cutN_in a b hab
  have hrs:recStop a b=false:=decide_eq_false (by omega)
  by_cases h4:m≤cutN a b
  ·have hl:treeLeft m (cutN a b)=true:=decide_eq_true h4
   rw [wayDown_left _ _ _ _ h1 hab hl] at hs hqt heq hfrom hfresh ⊢
   have hri:recLeft i (cutN a b)=true:=decide_eq_true (by omega)
   cases qt with
   | nil=>simp at hqt
   | cons h qt =>
    have ih:=lift_main k i m leaf sh f hlf st hst hsh a (cutN a b) (by omega) ha him h4 hs q qt hq (by simpa using hqt) hq32 (fun x hx=>hqt32 x (List.mem_cons_of_mem _ hx)) hway
     (fun x hx=>hfrom x (by simp [hx]))
     (fun x y hx hy hyb hn=>by
      have e:=hfresh x y hx hy (by omega) (fun s hs=>by
       rcases List.mem_cons.1 hs with rfl|hs
       ·show ¬ (cutN a b=x∧b=y);omega
       ·exact hn s hs)
      rw [e]
      have sp:=upT_span k m st a (cutN a b) hs qt (by simpa using hqt)
      show mput _ (tStep k _ ⟨cutN a b,b,true⟩ h).sa b _ x y=_
      unfold mput
      rw [if_neg (by omega)])
     heq
    refine ⟨ih.1,?_⟩
    have ih2:=ih.2
    rw [wayDown_left _ _ _ _ hrs hab hri]
    show match descP i m st.sa a _ (upT k (wayDown (treeStop m) (treeLeft m) a (cutN a b)).1 qt st).old with
     | some (x,y)=>Alike k x y
     | none=>(upN k (⟨cutN a b,b,true⟩ :: (wayDown recStop (recLeft i) a (cutN a b)).1) (List.map (fun s=>f s.a s.b) (⟨cutN a b,b,true⟩ :: (wayDown recStop (recLeft i) a (cutN a b)).1)) (.given leaf)).sum=_
    split
    ·rename_i x y hd;rw [hd] at ih2;exact ih2
    ·rename_i hd
     rw [hd] at ih2
     have hh:f (cutN a b) b=h:=hfrom (⟨cutN a b,b,true⟩,h) (by simp) (by show m<b;omega)
     rw [List.map_cons]
     show (climbStep k (upN k _ _ (.given leaf)) ⟨cutN a b,b,true⟩ (f (cutN a b) b)).sum=(tStep k (upT k _ qt st) ⟨cutN a b,b,true⟩ h).fresh.sum
     rw [hh]
     show nodeP k (upN k _ _ (.given leaf)).sum h=nodeP k (upT k _ qt st).fresh.sum h
     rw [ih2]
  ·have hl:treeLeft m (cutN a b)=false:=decide_eq_false h4
   rw [wayDown_right _ _ _ _ h1 hab hl] at hs hqt heq hfrom hfresh ⊢
   have hcm:=cut_same a b m hb hab (by omega) hmb
   have hrm:recStop a m=false:=decide_eq_false (by omega)
   have hsd:cutN a b≤st.sa:=by
    have:=(wayDown_spans (treeStop m) (treeLeft m) (cutN a b) b).2.1
    rw [←hs] at this;exact this
   cases qt with
   | nil=>simp at hqt
   | cons h qt =>
    have hh32:h.length=32:=hqt32 h (List.mem_cons_self ..)
    have sp:=upT_span k m st (cutN a b) b hs qt (by simpa using hqt)
    have hB:(upT k (⟨a,cutN a b,false⟩ :: (wayDown (treeStop m) (treeLeft m) (cutN a b) b).1) (h :: qt) st).old=.joined (.given h) (upT k (wayDown (treeStop m) (treeLeft m) (cutN a b) b).1 qt st).old (nodeP k h (upT k (wayDown (treeStop m) (treeLeft m) (cutN a b) b).1 qt st).old.sum):=rfl
    have hF:(upT k (⟨a,cutN a b,false⟩ :: (wayDown (treeStop m) (treeLeft m) (cutN a b) b).1) (h :: qt) st).fresh.sum=nodeP k h (upT k (wayDown (treeStop m) (treeLeft m) (cutN a b) b).1 qt st).fresh.sum:=rfl
    rw [hB] at heq ⊢
    rw [hF]
    have hBl:=upT_len k st (by rw [hst.2];exact hsh) (wayDown (treeStop m) (treeLeft m) (cutN a b) b).1 qt
    by_cases hic:i<cutN a b
    ·have hri:recLeft i (cutN a m)=true:=decide_eq_true (by omega)
     have hri':recLeft i (cutN a b)=true:=decide_eq_true hic
     rw [wayDown_left _ _ _ _ hrm (by omega) hri,hcm] at hq hway heq ⊢
     rw [wayDown_left _ _ _ _ hrs hab hri']
     cases q with
     | nil=>simp at hq
     | cons q0 q =>
      have hA:upN k (⟨cutN a b,m,true⟩ :: (wayDown recStop (recLeft i) a (cutN a b)).1) (q0 :: q) (.given leaf)=.joined (upN k (wayDown recStop (recLeft i) a (cutN a b)).1 q (.given leaf)) (.given q0) (nodeP k (upN k (wayDown recStop (recLeft i) a (cutN a b)).1 q (.given leaf)).sum q0):=rfl
      rw [hA] at heq ⊢
      have hAl:=upN_len k leaf hlf (wayDown recStop (recLeft i) a (cutN a b)).1 q
      refine ⟨.go _ _ _ _ _ _ _ (by omega) (by omega) (by omega) (fun _ e=>by omega),?_⟩
      rw [descP_go _ _ _ _ _ _ (by omega) (by omega)]
      unfold partsP
      by_cases hp:(upN k (wayDown recStop (recLeft i) a (cutN a b)).1 q (.given leaf)).sum=(Nd.given h).sum∧(Nd.given q0).sum=(upT k (wayDown (treeStop m) (treeLeft m) (cutN a b) b).1 qt st).old.sum
      ·simp only [if_pos hp,hcm,if_pos hic]
       rw [List.map_cons,map_of_zip f _ q (by simpa using hq) (fun x hx=>hway x (by simp [hx]))]
       have hfr:f (cutN a b) b=(upT k (wayDown (treeStop m) (treeLeft m) (cutN a b) b).1 qt st).fresh.sum:=by
        have e:=hfresh (cutN a b) b (by omega) (by omega) (Nat.le_refl _) (fun s hs=>by
         rcases List.mem_cons.1 hs with rfl|hs
         ·show ¬ (a=cutN a b∧cutN a b=b);omega
         ·exact ((wayDown_spans (treeStop m) (treeLeft m) (cutN a b) b).1 s hs).2.2.2)
        rw [e]
        show mput (upM k (wayDown (treeStop m) (treeLeft m) (cutN a b) b).1 qt st) a _ _ (cutN a b) b=_
        unfold mput
        rw [if_neg (by omega)]
        have e2:=upM_top k (wayDown (treeStop m) (treeLeft m) (cutN a b) b).1 qt st
        rw [sp.1,sp.2] at e2
        exact e2
       show nodeP k (upN k (wayDown recStop (recLeft i) a (cutN a b)).1 q (.given leaf)).sum (f (cutN a b) b)=_
       rw [hfr,hp.1]
       rfl
      ·simp only [if_neg hp]
       refine ⟨fun e=>hp (nodeB_inj hAl hh32 e),?_⟩
       exact heq
    ·have hri:recLeft i (cutN a m)=false:=decide_eq_false (by omega)
     have hri':recLeft i (cutN a b)=false:=decide_eq_false hic
     rw [wayDown_right _ _ _ _ hrm (by omega) hri,hcm] at hq hway heq ⊢
     rw [wayDown_right _ _ _ _ hrs hab hri']
     cases q with
     | nil=>simp at hq
     | cons q0 q =>
      have hq0:q0.length=32:=hq32 q0 (List.mem_cons_self ..)
      have hA:upN k (⟨a,cutN a b,false⟩ :: (wayDown recStop (recLeft i) (cutN a b) m).1) (q0 :: q) (.given leaf)=.joined (.given q0) (upN k (wayDown recStop (recLeft i) (cutN a b) m).1 q (.given leaf)) (nodeP k q0 (upN k (wayDown recStop (recLeft i) (cutN a b) m).1 q (.given leaf)).sum):=rfl
      rw [hA] at heq ⊢
      have hf0:f a (cutN a b)=q0:=hway (⟨a,cutN a b,false⟩,q0) (by simp)
      by_cases hp:(Nd.given q0).sum=(Nd.given h).sum∧(upN k (wayDown recStop (recLeft i) (cutN a b) m).1 q (.given leaf)).sum=(upT k (wayDown (treeStop m) (treeLeft m) (cutN a b) b).1 qt st).old.sum
      ·have ih:=lift_main k i m leaf sh f hlf st hst hsh (cutN a b) b hb (by omega) him hmb hs q qt (by simpa using hq) (by simpa using hqt) (fun x hx=>hq32 x (List.mem_cons_of_mem _ hx)) (fun x hx=>hqt32 x (List.mem_cons_of_mem _ hx))
        (fun x hx=>hway x (by simp [hx])) (fun x hx=>hfrom x (by simp [hx]))
        (fun x y hx hy hyb hn=>by
         have e:=hfresh x y (by omega) hy hyb (fun s hs=>by
          rcases List.mem_cons.1 hs with rfl|hs
          ·show ¬ (a=x∧cutN a b=y);omega
          ·exact hn s hs)
         rw [e]
         show mput _ a _ _ x y=_
         unfold mput
         rw [if_neg (by omega)])
        hp.2
       refine ⟨.go _ _ _ _ _ _ _ (by omega) (by omega) (by omega) (fun _ _=>by rw [hcm];exact ih.1),?_⟩
       rw [descP_go _ _ _ _ _ _ (by omega) (by omega)]
       unfold partsP
       simp only [if_pos hp,hcm,if_neg hic,rightN]
       have ih2:=ih.2
       split
       ·rename_i x y hd;rw [hd] at ih2;exact ih2
       ·rename_i hd
        rw [hd] at ih2
        rw [List.map_cons]
        show nodeP k (f a (cutN a b)) (upN k _ _ (.given leaf)).sum=_
        rw [ih2,hf0]
        have:q0=h:=hp.1
        rw [this]
      ·refine ⟨.go _ _ _ _ _ _ _ (by omega) (by omega) (by omega) (fun e=>absurd e hp),?_⟩
       rw [descP_go _ _ _ _ _ _ (by omega) (by omega)]
       unfold partsP
       simp only [if_neg hp]
       exact ⟨fun e=>hp (nodeB_inj hq0 hh32 e),heq⟩
termination_by b - a
theorem zip_rev:∀ (W:List Step) (q:List Bs),q.length=W.length→W.reverse.zip q.reverse=(W.zip q).reverse
 | [],_,_=>rfl
 | s :: W,[],h=>by simp at h
 | s :: W,x :: q,h=>by
  simp only [List.length_cons,Nat.add_right_cancel_iff] at h
  rw [List.reverse_cons,List.reverse_cons,List.zip_append (by simp [h]),zip_rev W q h]
  simp
def knownP (k:Int) (n m i:Nat) (old:Bs) (rec tree:List Bs):Nat→Nat→Bs:=fillP (fillP (tHashes k n m old tree) ((wayTree n m).zip tree)) ((wayRec m i).zip rec)
def liftL (k:Int) (n m i:Nat) (old:Bs) (rec tree:List Bs):List Bs:=(wayRec n i).map fun s=>knownP k n m i old rec tree s.a s.b
def liftA (k:Int) (m i:Nat) (leaf:Bs) (rec:List Bs):Nd:=climbN k leaf (wayRec m i) rec (wayRec m i).length
def liftD (k:Int) (n m i:Nat) (old leaf:Bs) (rec tree:List Bs):Option (Bs × Bs):=descP i m (treeSeed n m).1 0 (liftA k m i leaf rec) (tEnd k n m old tree).old
theorem wayRec_rev (n i:Nat):wayRec n i=(wayDown recStop (recLeft i) 0 n).1.reverse:=rfl
theorem down_m (m a b:Nat) (h1:a<m) (h2:m≤b):(wayDown (treeStop m) (treeLeft m) a b).2.2=m:=by
 by_cases hb:b=m
 ·rw [wayDown_stop _ _ _ _ (decide_eq_true hb)];exact hb
 ·have hc:=cutN_in a b (by omega)
  by_cases h4:m≤cutN a b
  ·rw [wayDown_left _ _ _ _ (decide_eq_false hb) (by omega) (decide_eq_true h4)]
   exact down_m m a (cutN a b) h1 h4
  ·rw [wayDown_right _ _ _ _ (decide_eq_false hb) (by omega) (decide_eq_false h4)]
   exact down_m m (cutN a b) b (by omega) h2
termination_by b - a
theorem lift_law (k:Int) (n m i:Nat) (leaf old root:Bs) (rec tree:List Bs) (hn:n≤281474976710656) (him:i<m) (hmn:m≤n) (hlf:leaf.length=32) (hol:old.length=32)
  (hrl:rec.length=(wayRec m i).length) (htl:tree.length=(wayTree n m).length) (hr32:∀ h∈rec,h.length=32) (ht32:∀ h∈tree,h.length=32)
  (hA:(liftA k m i leaf rec).sum=old) (hF:(tEnd k n m old tree).fresh.sum=root) (hO:(tEnd k n m old tree).old.sum=old) :
  Chain i m (treeSeed n m).1 0 (liftA k m i leaf rec) (tEnd k n m old tree).old ∧
  match liftD k n m i old leaf rec tree with
  | some (x,y)=>Alike k x y
  | none=>(climbN k leaf (wayRec n i) (liftL k n m i old rec tree) (wayRec n i).length).sum=root:=by
 have hsm:(treeSeed n m).2=m:=down_m m 0 n (by omega) hmn
 obtain ⟨W,hW⟩:=zg ((wayDown (treeStop m) (treeLeft m) 0 n).1)
 obtain ⟨R,hR⟩:=zg ((wayDown recStop (recLeft i) 0 m).1)
 have hup:wayUp n m=W.reverse:=by rw [hW];rfl
 have hwr:wayRec m i=R.reverse:=by rw [hR];rfl
 obtain ⟨q,hq⟩:=zg (rec.reverse)
 have hqr:rec=q.reverse:=by rw [hq,List.reverse_reverse]
 have hql:q.length=R.length:=by rw [hq,List.length_reverse,hrl,hwr,List.length_reverse]
 obtain ⟨rest,hrest⟩:=zg (tRest n m tree)
 obtain ⟨qt,hqt⟩:=zg (rest.reverse)
 have hqtr:rest=qt.reverse:=by rw [hqt,List.reverse_reverse]
 have hstep:(wayTree n m=wayUp n m∧rest=tree∧tBeg n m old tree=old)∨∃ t0,wayTree n m=⟨(treeSeed n m).1,(treeSeed n m).2,false⟩ :: wayUp n m∧tree=t0 :: rest∧tBeg n m old tree=t0:=by
  by_cases h0:0<(treeSeed n m).1
  ·refine .inr ?_
   rw [wayTree_pos n m h0] at htl ⊢
   cases tree with
   | nil=>simp at htl
   | cons t0 r=>exact ⟨t0,rfl,by rw [hrest];unfold tRest;rw [if_pos h0];rfl,by unfold tBeg;rw [if_pos h0];rfl⟩
  ·refine .inl ⟨wayTree_zero n m (by omega),?_,?_⟩
   ·rw [hrest];unfold tRest;rw [if_neg h0]
   ·unfold tBeg;rw [if_neg h0]
 have hqtl:qt.length=W.length:=by
  have hwl:W.length=(wayUp n m).length:=by rw [hup,List.length_reverse]
  rw [hqt,List.length_reverse,hwl]
  rcases hstep with ⟨e1,e2,_⟩|⟨t0,e1,e2,_⟩
  ·rw [e2,htl,e1]
  ·rw [e1,e2] at htl;simpa using htl
 have hsh:(tBeg n m old tree).length=32:=by
  rcases hstep with ⟨_,_,e⟩|⟨t0,_,e2,e⟩
  ·rw [e];exact hol
  ·rw [e];exact ht32 t0 (by rw [e2];exact List.mem_cons_self ..)
 have hrest32:∀ h∈rest,h.length=32:=fun h hh=>ht32 h (by
  rcases hstep with ⟨_,e,_⟩|⟨t0,_,e,_⟩
  ·rw [←e];exact hh
  ·rw [e];exact List.mem_cons_of_mem _ hh)
 have hE:tEnd k n m old tree=upT k W qt (tStart n m old tree):=by
  unfold tEnd
  rw [hup,←hrest,hqtr,List.length_reverse]
  exact tRun_up k _ W qt hqtl
 have hH:tHashes k n m old tree=upM k W qt (tStart n m old tree):=by
  unfold tHashes
  rw [hup,←hrest,hqtr,List.length_reverse]
  exact tMap_up k _ W qt hqtl
 have hAu:liftA k m i leaf rec=upN k R q (.given leaf):=by
  unfold liftA
  rw [hwr,hqr,List.length_reverse]
  exact climbN_up k leaf R q hql
 have hzr:(wayRec m i).zip rec=(R.zip q).reverse:=by rw [hwr,hqr];exact zip_rev R q hql
 have hzt:(wayUp n m).zip rest=(W.zip qt).reverse:=by rw [hup,hqtr];exact zip_rev W qt hqtl
 have hrsp:∀ x∈(wayRec m i).zip rec,x.1.b≤m:=fun x hx=>by
  rw [hzr,List.mem_reverse] at hx
  have:=(List.of_mem_zip hx).1
  rw [hR] at this
  exact ((wayDown_spans recStop (recLeft i) 0 m).1 _ this).2.2.1
 have hway:∀ x∈R.zip q,knownP k n m i old rec tree x.1.a x.1.b=x.2:=fun x hx=>by
  unfold knownP
  refine fillP_mem _ _ x (by rw [hzr,List.mem_reverse];exact hx) fun y hy ea eb=>?_
  rw [hzr,List.mem_reverse] at hy
  rw [hR] at hx hy
  exact way_fun recStop (recLeft i) 0 m q y hy x hx ea eb
 have hfrom:∀ x∈W.zip qt,m<x.1.b→knownP k n m i old rec tree x.1.a x.1.b=x.2:=fun x hx hb=>by
  unfold knownP
  rw [fillP_none _ _ _ _ fun y hy e=>by have:=hrsp y hy;omega]
  have hx':x∈(wayUp n m).zip rest:=by rw [hzt,List.mem_reverse];exact hx
  have hfun:∀ y∈(wayUp n m).zip rest,y.1.a=x.1.a→y.1.b=x.1.b→y.2=x.2:=fun y hy ea eb=>by
   rw [hzt,List.mem_reverse] at hy
   rw [hW] at hx hy
   exact way_fun (treeStop m) (treeLeft m) 0 n qt y hy x hx ea eb
  rcases hstep with ⟨e1,e2,_⟩|⟨t0,e1,e2,_⟩
  ·rw [e1,←e2]
   exact fillP_mem _ _ x hx' hfun
  ·rw [e1,e2,List.zip_cons_cons]
   refine fillP_mem _ _ x (List.mem_cons_of_mem _ hx') fun y hy ea eb=>?_
   rcases List.mem_cons.1 hy with rfl|hy
   ·exfalso;simp only at eb;omega
   ·exact hfun y hy ea eb
 have hfresh:∀ x y,0≤x→m<y→y≤n→(∀ s∈W,¬ (s.a=x∧s.b=y))→knownP k n m i old rec tree x y=upM k W qt (tStart n m old tree) x y:=fun x y _ hy _ hns=>by
  unfold knownP
  rw [fillP_none _ _ _ _ fun z hz e=>by have:=hrsp z hz;omega]
  have hno:∀ z∈(wayUp n m).zip rest,¬ (z.1.a=x∧z.1.b=y):=fun z hz=>hns _ (by
   rw [hzt,List.mem_reverse] at hz;exact (List.of_mem_zip hz).1)
  rw [←hH]
  rcases hstep with ⟨e1,e2,_⟩|⟨t0,e1,e2,_⟩
  ·rw [e1,←e2]
   exact fillP_none _ _ _ _ hno
  ·rw [e1,e2,List.zip_cons_cons]
   refine fillP_none _ _ _ _ fun z hz=>?_
   rcases List.mem_cons.1 hz with rfl|hz
   ·intro e;simp only at e;omega
   ·exact hno z hz
 have hmain:=lift_main k i m leaf (tBeg n m old tree) (knownP k n m i old rec tree) hlf (tStart n m old tree) ⟨rfl,rfl⟩ hsh 0 n hn (Nat.zero_le _) him hmn (by unfold tStart treeSeed;rfl) q qt (by rw [hql,hR]) (by rw [hqtl,hW])
  (fun h hh=>hr32 h (by rw [hqr,List.mem_reverse];exact hh)) (fun h hh=>hrest32 h (by rw [hqtr,List.mem_reverse];exact hh))
  (by rw [←hR];exact hway) (by rw [←hW];exact hfrom) (by rw [←hW];exact hfresh)
  (by rw [←hR,←hW,←hAu,←hE,hA,hO])
 rw [←hR,←hW,←hAu,←hE] at hmain
 refine ⟨hmain.1,?_⟩
 have h2:=hmain.2
 show match descP i m (treeSeed n m).1 0 (liftA k m i leaf rec) (tEnd k n m old tree).old with
  | some (x,y)=>Alike k x y
  | none=>(climbN k leaf (wayRec n i) (liftL k n m i old rec tree) (wayRec n i).length).sum=root
 have hsd:(tStart n m old tree).sa=(treeSeed n m).1:=rfl
 rw [hsd] at h2
 split
 ·rename_i x y hd;rw [hd] at h2;exact h2
 ·rename_i hd
  rw [hd] at h2
  have hL:liftL k n m i old rec tree=(((wayDown recStop (recLeft i) 0 n).1).map fun s=>knownP k n m i old rec tree s.a s.b).reverse:=by
   unfold liftL;rw [wayRec_rev,List.map_reverse]
  rw [hL,wayRec_rev,List.length_reverse,climbN_up k leaf _ _ (by simp),h2]
  exact hF
end Go.Proofs.YtdfdikpklddnhaaGreatDoor
