/- Of the proof of EvidenceJudges, second form: for values of bulk at most 1048576. (Ej42) -/
import Derived.Test.YtdfdikpklddnhaaGreatDoorEj01
import Derived.Test.YtdfdikpklddnhaaGreatDoorEj35
import Derived.Test.YtdfdikpklddnhaaGreatDoorEj41
import Derived.Test.YtdfdikpklddnhaaGreatDoorEj08
import Derived.Laws.IdiomStrings
namespace Go.Proofs.YtdfdikpklddnhaaGreatDoor
open Go.RowKit
set_option linter.unusedSimpArgs false
theorem mput_len {f:Nat→Nat→Bs} {x:Bs} (h:∀ a b,(f a b).length=32) (hx:x.length=32) (c d:Nat):∀ a b,(mput f c d x a b).length=32:=fun a b=>by
 unfold mput
 split
 ·exact hx
 ·exact h a b
theorem fillP_len32:∀ (l:List (Step × Bs)) (f:Nat→Nat→Bs),(∀ a b,(f a b).length=32)→(∀ x∈l,x.2.length=32)→∀ a b,(fillP f l a b).length=32
 | [],_,h,_,a,b=>h a b
 | x :: l,_,h,hl,a,b=>fillP_len32 l _ (mput_len h (hl x (List.mem_cons_self ..)) _ _) (fun y hy=>hl y (List.mem_cons_of_mem _ hy)) a b
theorem tMap_len32 (k:Int) (st:TSt) (way:List Step) (p:List Bs) (h1:st.fresh.sum.length=32) (h2:st.old.sum.length=32):∀ j a b,(tMap k st way p j a b).length=32
 | 0,a,b=>mput_len (fun _ _=>rfl) h1 _ _ a b
 | j+1,a,b=>mput_len (tMap_len32 k st way p h1 h2 j) (tRun_len k st way p h1 h2 (j+1)).1 _ _ a b
theorem tBeg_len32 (n m:Nat) (old:Bs) (p:List Bs) (hp:∀ h∈p,h.length=32) (ho:old.length=32) (hl:p.length=(wayTree n m).length):(tBeg n m old p).length=32:=by
 unfold tBeg
 split
 ·rename_i h0
  have hlen:0<p.length:=by rw [hl];unfold wayTree;rw [if_pos h0];simp
  rw [List.getD_eq_getElem?_getD,List.getElem?_eq_getElem hlen]
  exact hp _ (List.getElem_mem hlen)
 ·exact ho
theorem liftL_len32 (k:Int) (n m i:Nat) (old:Bs) (rec tree:List Bs) (ho:old.length=32) (hr:∀ h∈rec,h.length=32) (ht:∀ h∈tree,h.length=32) (hl:tree.length=(wayTree n m).length):∀ h∈liftL k n m i old rec tree,h.length=32:=fun h hh=>by
 unfold liftL at hh
 obtain ⟨s,_,rfl⟩:=List.mem_map.1 hh
 have hb:=tBeg_len32 n m old tree ht ho hl
 refine fillP_len32 _ _ (fillP_len32 _ _ (show ∀ a b,(tHashes k n m old tree a b).length=32 from tMap_len32 k (tStart n m old tree) (wayUp n m) (tRest n m tree) hb hb _) (fun x hx=>ht _ (List.of_mem_zip hx).2)) (fun x hx=>hr _ (List.of_mem_zip hx).2) _ _
structure RecOk (k:Int) (i:Nat) (leaf:Bs) (h:HeadP) (p:List Bs):Prop where
 nb:1≤h.n∧h.n≤281474976710656
 il:(i:Int)<h.n
 root:h.root.length=32
 len:p.length=(wayRec h.n.toNat i).length
 b32:∀ x∈p,x.length=32
 sum:(liftA k h.n.toNat i leaf p).sum=h.root
structure TreeOk (k:Int) (f:FactP) (h:HeadP):Prop where
 nb:h.n≤f.head.n∧f.head.n≤281474976710656
 root:f.head.root.length=32
 len:f.proof.length=(wayTree f.head.n.toNat h.n.toNat).length
 b32:∀ x∈f.proof,x.length=32
 sum:(tEnd k f.head.n.toNat h.n.toNat h.root f.proof).fresh.sum=f.head.root
 old:(tEnd k f.head.n.toNat h.n.toNat h.root f.proof).old.sum=h.root
def treesP (k:Int):List FactP→HeadP→Prop
 | [],_=>True
 | f :: l,h=>TreeOk k f h∧treesP k l f.head
def liftedP (k:Int) (i:Nat) (leaf:Bs):List FactP→HeadP→List Bs→List Bs ⊕ (Bs × Bs)
 | [],_,p=>.inl p
 | f :: l,h,p=>match liftD k f.head.n.toNat h.n.toNat i h.root leaf p f.proof with
  | some xy=>.inr xy
  | none=>liftedP k i leaf l f.head (liftL k f.head.n.toNat h.n.toNat i h.root p f.proof)
def lastP:List FactP→HeadP→HeadP
 | [],h=>h
 | f :: l,_=>lastP l f.head
theorem lift_step {k:Int} {i:Nat} {leaf:Bs} {h:HeadP} {p:List Bs} {f:FactP} (hl:leaf.length=32) (hr:RecOk k i leaf h p) (ht:TreeOk k f h) :
  match liftD k f.head.n.toNat h.n.toNat i h.root leaf p f.proof with
  | some (x,y)=>Alike k x y
  | none=>RecOk k i leaf f.head (liftL k f.head.n.toNat h.n.toNat i h.root p f.proof):=by
 have h1:=hr.nb
 have h2:=hr.il
 have h3:=ht.nb
 have hlaw:=(lift_law k f.head.n.toNat h.n.toNat i leaf h.root f.head.root p f.proof (by omega) (by omega) (by omega) hl hr.root hr.len ht.len hr.b32 ht.b32 hr.sum ht.sum ht.old).2
 revert hlaw
 cases hd:liftD k f.head.n.toNat h.n.toNat i h.root leaf p f.proof with
 | some xy=>exact id
 | none =>
  intro hlaw
  exact ⟨⟨by omega,h3.2⟩,by omega,ht.root,by unfold liftL;rw [List.length_map],liftL_len32 k _ _ i _ _ _ hr.root hr.b32 ht.b32 ht.len,hlaw⟩
theorem lifted_law {k:Int} {i:Nat} {leaf:Bs} (hl:leaf.length=32):∀ (L:List FactP) (h:HeadP) (p:List Bs),RecOk k i leaf h p→treesP k L h →
  match liftedP k i leaf L h p with
  | .inl q=>RecOk k i leaf (lastP L h) q
  | .inr (x,y)=>Alike k x y
 | [],h,p,hr,_=>hr
 | f :: l,h,p,hr,ht=>by
  have hs:=lift_step hl hr ht.1
  unfold liftedP lastP
  revert hs
  cases hd:liftD k f.head.n.toNat h.n.toNat i h.root leaf p f.proof with
  | some xy=>exact id
  | none=>intro hs;exact lifted_law hl l f.head _ hs ht.2
theorem conv_any (v:Value) (l:Bs) (w:World) (hv:SlIn w v l):(convert 26 9 v).run Tryz.prog w=.ok (.string ⟨l.toArray⟩) w:=by
 rcases hv with ⟨rfl,rfl⟩|⟨g,off,cap,rfl,_,hb,_⟩
 ·kernel_rfl
 ·refine run_convert_bytes_back w 26 9 5 ⟨g,off,none⟩ cap l Tryz.underlying26 Tryz.underlying5 Tryz.underlying9 fun j hj=>?_
  rw [addr_add]
  exact hb j _ (List.getElem?_eq_getElem hj)
set_option maxRecDepth 100000 in
theorem equal_any (v1 v2:Value) (a b:Bs) (w:World) (h1:SlIn w v1 a) (h2:SlIn w v2 b):Calls Tryz.prog 78 #[v1,v2] w fun e w'=>e=.returned (.bool (a == b))∧w=w':=by
 have c1:=conv_any v1 a w h1
 have c2:=conv_any v2 b w h2
 clear h1 h2
 go_enter Tryz.func78,Tryz.ntmps78
 go_wp2_with fail
 go_ret
 exact ⟨by simp,rfl⟩
end Go.Proofs.YtdfdikpklddnhaaGreatDoor
