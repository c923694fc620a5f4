/- Of the proof of EvidenceJudges, second form: for values of bulk at most 1048576. (Ej11) -/
import Derived.Test.YtdfdikpklddnhaaGreatDoorEj01
import Derived.Test.YtdfdikpklddnhaaGreatDoorEj10
import Derived.Lib.ItoaNum
namespace Go.Proofs.YtdfdikpklddnhaaGreatDoor
open Go.RowKit
def cutR (a b:Nat):Nat:=a+2 ^ (Lib.bitLen (b - a - 1) - 1)
def cutN (a b:Nat):Nat:=if a<cutR a b∧cutR a b<b then cutR a b else a+1
theorem cutN_in (a b:Nat) (h:a+2≤b):a<cutN a b∧cutN a b<b:=by unfold cutN;split <;> omega
theorem cut_pow (a b:Nat) (h:a+2≤b) (hb:b≤281474976710656):∃ e,cutN a b=a+2 ^ e∧cutN a b=cutR a b∧e=Lib.bitLen (b - a - 1) - 1∧2 ^ e≤b - a - 1∧b - a - 1<2 * 2 ^ e∧1≤Lib.bitLen (b - a - 1)∧e≤48:=by
 obtain ⟨h1,h2,h3⟩:=Lib.bitLenAux_bounds 64 (b - a - 1) (by omega) (by omega)
 have hbl:Lib.bitLen (b - a - 1)=Lib.bitLenAux 64 (b - a - 1):=rfl
 rw [←hbl] at h1 h2 h3
 obtain ⟨e,he⟩:∃ e,Lib.bitLen (b - a - 1)=e+1:=⟨Lib.bitLen (b - a - 1) - 1,by omega⟩
 rw [he] at h2 h3
 simp only [Nat.add_sub_cancel] at h2
 rw [Nat.pow_succ] at h3
 have hc:cutR a b=a+2 ^ e:=by unfold cutR;rw [he];rfl
 have hN:cutN a b=cutR a b:=by
  have hp:0<2 ^ e:=Nat.two_pow_pos e
  unfold cutN;rw [if_pos (by rw [hc];omega)]
 refine ⟨e,by rw [hN,hc],hN,by omega,h2,by omega,by omega,?_⟩
 apply Classical.byContradiction
 intro hc2
 have:2 ^ 49≤2 ^ e:=Nat.pow_le_pow_right (by decide) (by omega)
 omega
structure Step where
 a:Nat
 b:Nat
 right:Bool
def Step.cells (s:Step):List Value:=[.int .i64 s.a,.int .i64 s.b,.bool s.right]
def wayDown (stop:Nat→Nat→Bool) (left:Nat→Bool) (a b:Nat):List Step × Nat × Nat :=
 if stop a b=true∨b<a+2 then ([],a,b)
 else if left (cutN a b)=true then (⟨cutN a b,b,true⟩ :: (wayDown stop left a (cutN a b)).1,(wayDown stop left a (cutN a b)).2)
 else (⟨a,cutN a b,false⟩ :: (wayDown stop left (cutN a b) b).1,(wayDown stop left (cutN a b) b).2)
termination_by b - a
decreasing_by all_goals (have:=cutN_in a b (by omega);omega)
theorem wayDown_stop (stop:Nat→Nat→Bool) (left:Nat→Bool) (a b:Nat) (h:stop a b=true):wayDown stop left a b=([],a,b):=by
 rw [wayDown,if_pos (.inl h)]
theorem wayDown_left (stop:Nat→Nat→Bool) (left:Nat→Bool) (a b:Nat) (h:stop a b=false) (h2:a+2≤b) (hl:left (cutN a b)=true) :
  wayDown stop left a b=(⟨cutN a b,b,true⟩ :: (wayDown stop left a (cutN a b)).1,(wayDown stop left a (cutN a b)).2):=by
 conv=>lhs;rw [wayDown]
 rw [if_neg (by rw [h];simp;omega),if_pos hl]
theorem wayDown_right (stop:Nat→Nat→Bool) (left:Nat→Bool) (a b:Nat) (h:stop a b=false) (h2:a+2≤b) (hl:left (cutN a b)=false) :
  wayDown stop left a b=(⟨a,cutN a b,false⟩ :: (wayDown stop left (cutN a b) b).1,(wayDown stop left (cutN a b) b).2):=by
 conv=>lhs;rw [wayDown]
 rw [if_neg (by rw [h];simp;omega),if_neg (by rw [hl];simp)]
theorem half_left (a b k:Nat) (h:a+2≤b) (hb:b≤281474976710656) (hk:b - a≤2 ^ k):∃ j,k=j+1∧cutN a b - a≤2 ^ j∧b - cutN a b≤2 ^ j:=by
 obtain ⟨e,h1,_,_,h3,h4,_,_⟩:=cut_pow a b h hb
 have he:e<k:=by
  apply Classical.byContradiction
  intro hc
  have:2 ^ k≤2 ^ e:=Nat.pow_le_pow_right (by decide) (by omega)
  omega
 refine ⟨k - 1,by omega,?_⟩
 have:2 ^ e≤2 ^ (k - 1):=Nat.pow_le_pow_right (by decide) (by omega)
 rw [h1]
 omega
def recStop (a b:Nat):Bool:=decide (b - a=1)
def recLeft (i:Nat) (c:Nat):Bool:=decide (i<c)
def treeStop (m:Nat) (_a b:Nat):Bool:=decide (b=m)
def treeLeft (m:Nat) (c:Nat):Bool:=decide (m≤c)
def wayRec (n i:Nat):List Step:=(wayDown recStop (recLeft i) 0 n).1.reverse
def treeSeed (n m:Nat):Nat × Nat:=(wayDown (treeStop m) (treeLeft m) 0 n).2
def wayTree (n m:Nat):List Step:=(if 0<(treeSeed n m).1 then [⟨(treeSeed n m).1,(treeSeed n m).2,false⟩] else [])++(wayDown (treeStop m) (treeLeft m) 0 n).1.reverse
end Go.Proofs.YtdfdikpklddnhaaGreatDoor
