/- Of the proof of EvidenceJudges, second form: for values of bulk at most 1048576. (Ej38) -/
import Derived.Test.YtdfdikpklddnhaaGreatDoorEj01
import Derived.Test.YtdfdikpklddnhaaGreatDoorEj36
namespace Go.Proofs.YtdfdikpklddnhaaGreatDoor
open Go.RowKit
def colJ (one two:Nat→Nd):Nat→Nat→Option Nat
 | 0,_=>none
 | r+1,j=>if (one j).sum=(two j).sum then some j else colJ one two r (j+1)
theorem colJ_some (one two:Nat→Nd):∀ (r j c:Nat),colJ one two r j=some c→j≤c∧c<j+r∧(one c).sum=(two c).sum∧∀ i,j≤i→i<c→(one i).sum≠(two i).sum
 | 0,_,_,h=>by cases h
 | r+1,j,c,h=>by
  unfold colJ at h
  by_cases he:(one j).sum=(two j).sum
  ·rw [if_pos he] at h
   cases h
   exact ⟨Nat.le_refl _,by omega,he,fun i h1 h2=>by omega⟩
  ·rw [if_neg he] at h
   obtain ⟨h1,h2,h3,h4⟩:=colJ_some one two r (j+1) c h
   refine ⟨by omega,by omega,h3,fun i i1 i2=>?_⟩
   by_cases hij:i=j
   ·subst hij;exact he
   ·exact h4 i (by omega) i2
theorem colJ_none (one two:Nat→Nd):∀ (r j i:Nat),colJ one two r j=none→j≤i→i<j+r→(one i).sum≠(two i).sum
 | 0,_,_,_,h1,h2=>by omega
 | r+1,j,i,h,h1,h2=>by
  unfold colJ at h
  by_cases he:(one j).sum=(two j).sum
  ·rw [if_pos he] at h;cases h
  ·rw [if_neg he] at h
   by_cases hij:i=j
   ·subst hij;exact he
   ·exact colJ_none one two r (j+1) i h (by omega) (by omega)
theorem parts_step (k:Int) (t u:Nd) (s:Step) (h g:Bs) (ht:t.sum.length=32) (hu:u.sum.length=32) (hh:h.length=32) (hg:g.length=32) (he:(climbStep k t s h).sum=(climbStep k u s g).sum) (hn:t.sum≠u.sum) :
  ∃ x y,partsP (climbStep k t s h) (climbStep k u s g)=some (x,y)∧Alike k x y:=by
 unfold climbStep at he ⊢
 by_cases hr:s.right=true
 ·rw [if_pos hr,if_pos hr] at he ⊢
  exact ⟨nodeB t.sum h,nodeB u.sum g,if_neg (fun e=>hn e.1),fun e=>hn (nodeB_inj ht hu e).1,he⟩
 ·rw [if_neg hr,if_neg hr] at he ⊢
  exact ⟨nodeB h t.sum,nodeB g u.sum,if_neg (fun e=>hn e.2),fun e=>hn (nodeB_inj hh hg e).2,he⟩
def leafB (l:Bs):Bs:=0 :: l
def colPair (a b:Bs) (one two:Nat→Nd) (len:Nat):Option (Bs × Bs) :=
 match colJ one two (len+1) 0 with
 | none=>none
 | some 0=>some (leafB a,leafB b)
 | some (j+1)=>partsP (one (j+1)) (two (j+1))
theorem col_law (k:Int) (a b:Bs) (way:List Step) (pa pb:List Bs) (hab:a≠b) (ha:pa.length=way.length) (hb:pb.length=way.length) (ha32:∀ h∈pa,h.length=32) (hb32:∀ h∈pb,h.length=32)
  (he:(climbN k (leafP k a) way pa way.length).sum=(climbN k (leafP k b) way pb way.length).sum) :
  ∃ j x y,colJ (climbN k (leafP k a) way pa) (climbN k (leafP k b) way pb) (way.length+1) 0=some j∧j≤way.length∧colPair a b (climbN k (leafP k a) way pa) (climbN k (leafP k b) way pb) way.length=some (x,y)∧Alike k x y:=by
 cases hj:colJ (climbN k (leafP k a) way pa) (climbN k (leafP k b) way pb) (way.length+1) 0 with
 | none=>exact absurd he (colJ_none _ _ _ _ _ hj (Nat.zero_le _) (by omega))
 | some c =>
  obtain ⟨_,h2,h3,h4⟩:=colJ_some _ _ _ _ _ hj
  unfold colPair
  rw [hj]
  cases c with
  | zero=>exact ⟨0,_,_,rfl,Nat.zero_le _,rfl,fun e=>hab (List.cons.inj e).2,h3⟩
  | succ j =>
   have e1:∀ p:List Bs,p.length=way.length→(∀ h∈p,h.length=32)→(p.getD j []).length=32:=fun p hp h32=>by
    refine h32 _ ?_
    rw [List.getD_eq_getElem?_getD,List.getElem?_eq_getElem (by omega)]
    exact List.getElem_mem _
   obtain ⟨x,y,hp,hal⟩:=parts_step k (climbN k (leafP k a) way pa j) (climbN k (leafP k b) way pb j) (way.getD j ⟨0,0,false⟩) (pa.getD j []) (pb.getD j []) (climbN_len _ _ _ _ (leafP_length _ _) _) (climbN_len _ _ _ _ (leafP_length _ _) _) (e1 pa ha ha32) (e1 pb hb hb32) h3 (h4 j (Nat.zero_le _) (by omega))
   exact ⟨j+1,x,y,rfl,by omega,hp,hal⟩
end Go.Proofs.YtdfdikpklddnhaaGreatDoor
