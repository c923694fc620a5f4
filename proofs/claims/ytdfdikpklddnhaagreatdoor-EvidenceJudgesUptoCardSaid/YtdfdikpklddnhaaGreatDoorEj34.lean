/- Of the proof of EvidenceJudges, second form: for values of bulk at most 1048576. (Ej34) -/
import Derived.Test.YtdfdikpklddnhaaGreatDoorEj01
import Derived.Test.YtdfdikpklddnhaaGreatDoorEj29
import Derived.Test.YtdfdikpklddnhaaGreatDoorEj33
namespace Go.Proofs.YtdfdikpklddnhaaGreatDoor
open Go.RowKit
set_option linter.unusedSimpArgs false
def p0:ByteArray:=⟨#[97,46,101,120,97,109,112,108,101]⟩
def v0:ByteArray:=⟨#[118,49,46,48,46,48]⟩
def t0:Bs:=[1,0,0,0,0,0,0,0,0,0,0,0,0,0,0,0,0,0,0,0,0,0,0,0,0,0,0,0,0,0,0,0]
def m0:Bs:=[2,0,0,0,0,0,0,0,0,0,0,0,0,0,0,0,0,0,0,0,0,0,0,0,0,0,0,0,0,0,0,0]
def r0:ByteArray:=recB p0 v0 t0 m0
set_option maxRecDepth 100000 in
theorem check0:checkP p0.data.toList v0.data.toList=0:=by decide +kernel
set_option maxRecDepth 100000 in
theorem rec0:recP r0.data.toList=some (p0.data.toList,v0.data.toList):=by decide +kernel
theorem r0_size:r0.size≤1024:=by decide +kernel
theorem isOf0:isOfP r0.data.toList p0.data.toList v0.data.toList=true:=by unfold isOfP;rw [rec0];simp
def hd0 (k:Int):HeadP:=⟨⟨#[111]⟩,1,leafP k r0.data.toList⟩
def f01 (k:Int):FactP:=⟨2,⟨#[]⟩,⟨#[]⟩,0,⟨#[]⟩,⟨⟨#[111]⟩,0,emptyP k⟩,hd0 k,[],[]⟩
def f02 (k:Int):FactP:=⟨1,p0,v0,0,r0,head0,hd0 k,[],[]⟩
theorem eq_self (h:HeadP):h.eq h=true:=(HeadP.eq_iff h h).2 rfl
theorem right01 (k:Int) (h:HeadP):rightP k (f01 k) h true=true:=by
 unfold rightP
 rw [if_neg (show ¬ ((f01 k).kind=1) from (by decide:¬ ((2:Int)=1))),if_pos (show (f01 k).kind=2 from rfl)]
 unfold movedP
 simp only [if_true]
 have e1:(f01 k).old.eq ⟨(f01 k).head.o,0,emptyP k⟩=true:=eq_self _
 rw [e1]
 have e2:bareP (f01 k)=true:=by unfold bareP f01;simp [ByteArray.toList_eq]
 rw [e2]
 simp [f01,hd0]
theorem right02 (k:Int):rightP k (f02 k) (hd0 k) false=true:=by
 unfold rightP
 rw [if_pos (show (f02 k).kind=1 from rfl)]
 unfold acceptedP
 have e1:(f02 k).head.eq (hd0 k)=true:=eq_self _
 have e2:(f02 k).old.eq head0=true:=eq_self _
 have e3:isOfP (f02 k).rcd.data.toList (f02 k).path.data.toList (f02 k).ver.data.toList=true:=isOf0
 have hw:wayRec 1 0=[]:=by unfold wayRec;rw [wayDown_stop _ _ _ _ rfl];rfl
 have e4:checkAns k (hd0 k).n (f02 k).id (hd0 k).root (leafP k (f02 k).rcd.data.toList) (f02 k).proof=0:=by
  show checkAns k 1 0 (leafP k r0.data.toList) (leafP k r0.data.toList) []=0
  unfold checkAns
  have h1:climbErr 1 0 []=0:=by
   unfold climbErr
   rw [if_neg (by decide),if_neg (by show ¬ ([]:List Bs).length≠(wayRec 1 0).length;rw [hw];simp)]
  rw [if_pos h1,if_pos]
  unfold climbRoot
  show (climbN k (leafP k r0.data.toList) (wayRec 1 0) [] (wayRec 1 0).length).sum=_
  rw [hw]
  rfl
 rw [e1,e2,e3,e4]
 rfl
theorem follow0 (k:Int):followP k [f01 k,f02 k] (headE k) true=some (hd0 k):=by
 unfold followP
 rw [if_pos (right01 k _)]
 unfold followP
 have h1:stepHead (f01 k) (headE k)=hd0 k:=rfl
 have h2:stepNone (f01 k) true=false:=rfl
 rw [h1,h2,if_pos (right02 k)]
 rfl
theorem followE0 (k:Int):followE k [f01 k,f02 k]=0:=by unfold followE;rw [if_neg (by simp),follow0];rfl
theorem followH0 (k:Int):followH k [f01 k,f02 k]=hd0 k:=by unfold followH;rw [if_neg (by simp),follow0];rfl
theorem first0 (k:Int):firstP p0 v0 [f01 k,f02 k]=1:=by
 unfold firstP firstFrom
 rw [if_neg (by unfold keyB f01;simp)]
 unfold firstFrom
 rw [if_pos (by unfold keyB f02;simp)]
 rfl
theorem findE0 (k:Int):findE k [f01 k,f02 k] p0 v0=0:=by unfold findE;rw [followE0,first0];rfl
theorem finalE0 (k:Int):finalE k [f01 k,f02 k]=0:=by unfold finalE;rw [followE0];rfl
theorem finalH0 (k:Int):finalH k [f01 k,f02 k]=hd0 k:=by unfold finalH;rw [followE0,followH0];rfl
end Go.Proofs.YtdfdikpklddnhaaGreatDoor
