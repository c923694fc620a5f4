/- Of the proof of EvidenceJudges, second form: for values of bulk at most 1048576. (Ej45) -/
import Derived.Test.YtdfdikpklddnhaaGreatDoorEj01
import Derived.Test.YtdfdikpklddnhaaGreatDoorEj43
import Derived.Test.YtdfdikpklddnhaaGreatDoorEj44
import Derived.Test.YtdfdikpklddnhaaGreatDoorEj42
namespace Go.Proofs.YtdfdikpklddnhaaGreatDoor
open Go.RowKit
set_option linter.unusedSimpArgs false
def linkedP (k:Int) (p:List Bs) (h o:HeadP):Bool:=if h.n=o.n then p.length == 0 && h.root == o.root else if o.n<h.n then goesP k p h o else goesP k p o h
set_option maxRecDepth 100000 in
set_option maxHeartbeats 1600000 in
theorem linked_any (k:Int) (pv:Value) (p:List Bs) (h o:HeadP) (w:World) (hp:HsIn w pv p) (hh:h.root.length=32) (ho:o.root.length=32) (he:EnvH w) :
  Calls Tryz.prog 58 #[.int .i64 k,pv,.agg h.V.toArray,.agg o.V.toArray] w fun e w'=>e=.returned (.bool (linkedP k p h o))∧Mv (fun _=>False) w w':=by
 obtain ⟨pa,pc,hsh⟩:=hp.shape
 subst hsh
 have HP:=zh hp
 have HE:=zh he
 obtain ⟨lp,hlp⟩:=zg (p.length)
 rw [←hlp] at HP ⊢
 have HLP:=zh hlp
 obtain ⟨hv,hhv⟩:=zg (h.V.toArray)
 obtain ⟨ov,hov⟩:=zg (o.V.toArray)
 rw [←hhv,←hov]
 obtain ⟨A,hA⟩:=zg (w.heap.size)
 have h1:((w.alloc (.cells hv 36)).alloc (.cells ov 36)).heap[w.heap.size]?=some (.cells hv 36 (0,0)):=(Below.heap_alloc _ _ _ (by simp)).trans (heap_alloc_new _ _)
 have h2:((w.alloc (.cells hv 36)).alloc (.cells ov 36)).heap[w.heap.size+1]?=some (.cells ov 36 (0,0)):=by
  rw [show w.heap.size+1=(w.alloc (.cells hv 36)).heap.size by simp];exact heap_alloc_new _ _
 have hm:Mv (fun _=>False) w ((w.alloc (.cells hv 36)).alloc (.cells ov 36)):=((Mv.refl _ _).alloc _).alloc _
 have HIHV:Hid ((Tryz.prog.info? 36).map (·.size)=some hv.size):=zh (by rw [hhv,List.size_toArray,HeadP.V_len _ hh];exact info36)
 have HIOV:Hid ((Tryz.prog.info? 36).map (·.size)=some ov.size):=zh (by rw [hov,List.size_toArray,HeadP.V_len _ ho];exact info36)
 have HHV:=zh hhv
 have HOV:=zh hov
 have HH:=zh hh
 have HO:=zh ho
 clear hp he hhv hov hh ho hlp
 go_enter Tryz.func58,Tryz.ntmps58
 go_upto_region 1 with fail
 generalize hW1:(w.alloc (.cells hv 36)).alloc (.cells ov 36)=W1
 rw [hW1] at h1 h2 hm
 rw [←hA] at h1 h2 ⊢
 have H1:=zh h1
 have H2:=zh h2
 rw [HHV.out] at h1
 rw [HOV.out] at h2
 obtain ⟨a0,a1,a2⟩:=head_cells h1
 obtain ⟨b0,b1,b2⟩:=head_cells h2
 obtain ⟨hr,hhr⟩:=zg (h.root.map byteV)
 obtain ⟨orr,hor⟩:=zg (o.root.map byteV)
 rw [←hhr] at a2
 rw [←hor] at b2
 have HA2:=zh a2
 have HB2:=zh b2
 have HIH:Hid ((Tryz.prog.info? 34).map (·.size)=some hr.length):=zh (by rw [hhr,List.length_map,HH.out];exact info34)
 have HIO:Hid ((Tryz.prog.info? 34).map (·.size)=some orr.length):=zh (by rw [hor,List.length_map,HO.out];exact info34)
 have heq:=hash_eql h.root o.root HH.out HO.out
 rw [←hhr,←hor] at heq
 have HM:=zh hm
 obtain ⟨hn,hhn⟩:=zg (h.n)
 obtain ⟨on,hon⟩:=zg (o.n)
 rw [←hhn] at a1
 rw [←hon] at b1
 have HHN:=zh hhn
 have HON:=zh hon
 clear hW1 h1 h2 hm hA a2 b2 hhr hor hhn hon
 by_cases hno:hn=on
 ·subst hno
  by_cases hz:lp=0
  ·subst hz
   go_wp2_with (((with_reducible refine wpList_load_cellsAtG 34 (.tmp 18) ?_ A 2 ?_ hr _ HA2.out Tryz.underlying34 ?_ HIH.out ?_ ?_);rfl;rfl;rfl;rfl);go_wp2_with (((with_reducible refine wpList_load_cellsAtG 34 (.tmp 20) ?_ (A+1) 2 ?_ orr _ HB2.out Tryz.underlying34 ?_ HIO.out ?_ ?_);rfl;rfl;rfl;rfl);go_wp2_with fail))
   go_ret
   refine ⟨?_,HM.out⟩
   unfold linkedP
   rw [if_pos (by rw [←HHN.out,←HON.out]),←HLP.out];rfl
  ·have hzi:¬ ((lp:Int)=0):=by omega
   go_wp2_with fail
   go_ret
   refine ⟨?_,HM.out⟩
   unfold linkedP
   rw [if_pos (by rw [←HHN.out,←HON.out]),←HLP.out]
   have:(lp == 0)=false:=by simpa using hz
   rw [this];rfl
 ·by_cases hlt:on<hn
  ·clear heq
   go_wp2_with (((with_reducible refine wpList_load_row ?_ 36 (.tmp 6) ?_ A ?_ 36 hv (0,0) _ H1.out Tryz.underlying36 ?_ HIHV.out ?_);rfl;rfl;rfl;rfl);go_wp2_with (((with_reducible refine wpList_load_row ?_ 36 (.tmp 7) ?_ (A+1) ?_ 36 ov (0,0) _ H2.out Tryz.underlying36 ?_ HIOV.out ?_);rfl;rfl;rfl;rfl);go_wp2_with ((go_at_call 99;have hgo:=goesOn_any k (.slice pa lp pc) p h o W1 (HP.out.mv HM.out (fun _ _ h=>h)) HH.out HO.out (HE.out.mv HM.out (fun _ h=>h.elim));rw [←HHV.out,←HOV.out] at hgo;refine hgo.mono ?_;rintro e w2 ⟨rfl,hm2⟩;have HM2:=zh (HM.out.trans hm2);clear hgo hm2);go_wp2_with fail)))
   go_ret
   refine ⟨?_,HM2.out⟩
   unfold linkedP
   rw [if_neg (by rw [←HHN.out,←HON.out];exact hno),if_pos (by rw [←HHN.out,←HON.out];exact hlt)];rfl
  ·clear heq
   go_wp2_with (((with_reducible refine wpList_load_row ?_ 36 (.tmp 7) ?_ (A+1) ?_ 36 ov (0,0) _ H2.out Tryz.underlying36 ?_ HIOV.out ?_);rfl;rfl;rfl;rfl);go_wp2_with (((with_reducible refine wpList_load_row ?_ 36 (.tmp 6) ?_ A ?_ 36 hv (0,0) _ H1.out Tryz.underlying36 ?_ HIHV.out ?_);rfl;rfl;rfl;rfl);go_wp2_with ((go_at_call 99;have hgo:=goesOn_any k (.slice pa lp pc) p o h W1 (HP.out.mv HM.out (fun _ _ h=>h)) HO.out HH.out (HE.out.mv HM.out (fun _ h=>h.elim));rw [←HOV.out,←HHV.out] at hgo;refine hgo.mono ?_;rintro e w2 ⟨rfl,hm2⟩;have HM2:=zh (HM.out.trans hm2);clear hgo hm2);go_wp2_with fail)))
   go_ret
   refine ⟨?_,HM2.out⟩
   unfold linkedP
   rw [if_neg (by rw [←HHN.out,←HON.out];exact hno),if_neg (by rw [←HHN.out,←HON.out];omega)];rfl
theorem HsIn.len32 {w:World} {v:Value} {p:List Bs} (h:HsIn w v p):∀ x∈p,x.length=32:=fun x hx=>by
 rcases h with ⟨_,rfl⟩|⟨g,off,cap,_,_,h3,_⟩
 ·cases hx
 ·obtain ⟨j,hj⟩:=List.mem_iff_getElem?.1 hx
  exact (h3 j x hj).1
structure FactP.Whole (f:FactP):Prop where
 ok:f.Ok
 sm:f.Small
 b32:∀ x∈f.proof,x.length=32
theorem FactsIn.whole {w:World} {v:Value} {L:List FactP} (h:FactsIn w v L):∀ f∈L,f.Whole:=fun f hf=>by
 obtain ⟨a,c,_,_,h3⟩:=h
 obtain ⟨j,hj⟩:=List.mem_iff_getElem?.1 hf
 obtain ⟨g,off,_,ok,sm,pv,nv,_,hp,_⟩:=h3 j f hj
 exact ⟨ok,sm,hp.len32⟩
theorem treeOk_of {k:Int} {f:FactP} {h:HeadP} (hf:f.head.root.length=32) (h32:∀ x∈f.proof,x.length=32) (hg:goesP k f.proof f.head h=true):TreeOk k f h∧1≤h.n:=by
 unfold goesP at hg
 have hg:treeAns k f.head.n h.n f.head.root h.root f.proof=0:=by simpa using hg
 unfold treeAns at hg
 by_cases he:treeErr f.head.n h.n f.proof=0
 ·rw [if_pos he] at hg
  by_cases hs:(tEnd k f.head.n.toNat h.n.toNat h.root f.proof).fresh.sum=f.head.root∧(tEnd k f.head.n.toNat h.n.toNat h.root f.proof).old.sum=h.root
  ·unfold treeErr at he
   by_cases h1:¬ (sizedP f.head.n=true)∨h.n<1∨f.head.n<h.n
   ·rw [if_pos h1] at he;cases he
   ·rw [if_neg h1] at he
    by_cases h2:f.proof.length≠(wayTree f.head.n.toNat h.n.toNat).length
    ·rw [if_pos h2] at he;cases he
    ·have h2:=Decidable.not_not.1 h2
     have h3:sizedP f.head.n=true:=by
      cases e:sizedP f.head.n
      ·exact absurd (.inl (by rw [e];decide)) h1
      ·rfl
     have h4:1≤f.head.n∧f.head.n≤281474976710656:=by unfold sizedP at h3;exact of_decide_eq_true h3
     have h5:¬ (h.n<1∨f.head.n<h.n):=fun e=>h1 (.inr e)
     exact ⟨⟨⟨by omega,h4.2⟩,hf,h2,h32,hs.1,hs.2⟩,by omega⟩
  ·rw [if_neg hs] at hg;cases hg
 ·rw [if_neg he] at hg;exact absurd hg he
theorem recOk_of {k i:Int} {leaf:Bs} {h:HeadP} {p:List Bs} (hr:h.root.length=32) (h32:∀ x∈p,x.length=32) (hg:checkAns k h.n i h.root leaf p=0):RecOk k i.toNat leaf h p∧0≤i:=by
 unfold checkAns at hg
 by_cases he:climbErr h.n i p=0
 ·rw [if_pos he] at hg
  by_cases hs:climbRoot k h.n i leaf p=h.root
  ·unfold climbErr at he
   by_cases h1:¬ (sizedP h.n=true)∨i<0∨h.n≤i
   ·rw [if_pos h1] at he;cases he
   ·rw [if_neg h1] at he
    by_cases h2:p.length≠(wayRec h.n.toNat i.toNat).length
    ·rw [if_pos h2] at he;cases he
    ·have h2:=Decidable.not_not.1 h2
     have h3:sizedP h.n=true:=by
      cases e:sizedP h.n
      ·exact absurd (.inl (by rw [e];decide)) h1
      ·rfl
     have h4:1≤h.n∧h.n≤281474976710656:=by unfold sizedP at h3;exact of_decide_eq_true h3
     have h5:¬ (i<0∨h.n≤i):=fun e=>h1 (.inr e)
     exact ⟨⟨h4,by omega,hr,h2,h32,hs⟩,by omega⟩
  ·rw [if_neg hs] at hg;cases hg
 ·rw [if_neg he] at hg;exact absurd hg he
theorem RecOk.check {k:Int} {i:Nat} {leaf:Bs} {h:HeadP} {p:List Bs} (hr:RecOk k i leaf h p):checkAns k h.n i h.root leaf p=0:=by
 have h1:=hr.nb
 have h2:=hr.il
 have he:climbErr h.n i p=0:=by
  unfold climbErr sizedP
  rw [if_neg (by simp only [decide_eq_true_eq,not_or,Decidable.not_not];omega),if_neg (by rw [Int.toNat_natCast];exact fun e=>e hr.len)]
 unfold checkAns
 rw [if_pos he,if_pos]
 unfold climbRoot
 rw [Int.toNat_natCast]
 exact hr.sum
theorem RecOk.same {k:Int} {i:Nat} {leaf:Bs} {h g:HeadP} {p:List Bs} (hr:RecOk k i leaf h p) (hn:h.n=g.n) (ho:h.root=g.root):RecOk k i leaf g p :=
 ⟨hn ▸ hr.nb,hn ▸ hr.il,ho ▸ hr.root,hn ▸ hr.len,hr.b32,by rw [←hn,←ho];exact hr.sum⟩
theorem chain_law (k:Int):∀ (L:List FactP) (h hf:HeadP),1≤h.n→(∀ f∈L,f.Whole)→followP k L h false=some hf→treesP k (movesP L) h∧lastP (movesP L) h=hf
 | [],h,hf,_,_,e=>by cases e;exact ⟨trivial,rfl⟩
 | f :: l,h,hf,h1,hw,e=>by
  have hwf:=hw f List.mem_cons_self
  have hwl:∀ g∈l,g.Whole:=fun g hg=>hw g (List.mem_cons_of_mem _ hg)
  unfold followP at e
  by_cases hr:rightP k f h false=true
  ·rw [if_pos hr] at e
   by_cases h2:f.kind=2
   ·have eh:stepHead f h=f.head:=by unfold stepHead;rw [if_pos h2]
    have eb:stepNone f false=false:=by unfold stepNone;rw [if_pos h2]
    have em:movesP (f :: l)=f :: movesP l:=by unfold movesP;rw [List.filter_cons_of_pos (by simp [h2])]
    rw [eh,eb] at e
    rw [em]
    unfold rightP at hr
    rw [if_neg (by omega),if_pos h2] at hr
    unfold movedP at hr
    simp only [Bool.false_eq_true,if_false,Bool.and_eq_true,decide_eq_true_eq,if_neg (show ¬ h.n=0 by omega)] at hr
    obtain ⟨⟨⟨_,hlt⟩,_⟩,hg⟩:=hr
    have ht:=treeOk_of hwf.ok.h hwf.b32 hg
    have ih:=chain_law k l f.head hf (by omega) hwl e
    exact ⟨⟨ht.1,ih.1⟩,ih.2⟩
   ·have eh:stepHead f h=h:=by unfold stepHead;rw [if_neg h2]
    have eb:stepNone f false=false:=by unfold stepNone;rw [if_neg h2]
    have em:movesP (f :: l)=movesP l:=by unfold movesP;rw [List.filter_cons_of_neg (by simp [h2])]
    rw [eh,eb] at e
    rw [em]
    exact chain_law k l h hf h1 hwl e
  ·rw [if_neg hr] at e;cases e
structure SideOk (k:Int) (path ver:Bs) (f:FactP) (moves:List FactP) (fin:HeadP):Prop where
 whole:f.Whole
 id:0≤f.id
 isof:isOfP f.rcd.data.toList path ver=true
 proof:RecOk k f.id.toNat (leafP k f.rcd.data.toList) f.head f.proof
 trees:treesP k moves f.head
 last:lastP moves f.head=fin
theorem bytes_list (a b:ByteArray) (h:a.toList=b.toList):a=b:=by
 rw [ByteArray.toList_eq,ByteArray.toList_eq] at h
 obtain ⟨⟨x⟩⟩:=a
 obtain ⟨⟨y⟩⟩:=b
 simp at h
 rw [h]
theorem side_law (k:Int) (p q:ByteArray):∀ (L:List FactP) (h hf:HeadP) (b:Bool) (i:Nat) (f:FactP),(∀ f∈L,f.Whole)→followP k L h b=some hf→L[i]?=some f→keyB p q f=true→SideOk k p.data.toList q.data.toList f (movesP (L.drop i)) hf
 | [],_,_,_,i,f,_,_,hi,_=>by simp at hi
 | g :: l,h,hf,b,i,f,hw,e,hi,hk=>by
  have hwl:∀ g∈l,g.Whole:=fun g hg=>hw g (List.mem_cons_of_mem _ hg)
  unfold followP at e
  by_cases hr:rightP k g h b=true
  ·rw [if_pos hr] at e
   cases i with
   | zero =>
    simp only [List.getElem?_cons_zero,Option.some.injEq] at hi
    subst hi
    unfold keyB at hk
    simp only [Bool.and_eq_true,beq_iff_eq] at hk
    obtain ⟨⟨h1,hp⟩,hq⟩:=hk
    have hp:=bytes_list _ _ hp
    have hq:=bytes_list _ _ hq
    have hwf:=hw g List.mem_cons_self
    unfold rightP at hr
    rw [if_pos h1] at hr
    unfold acceptedP at hr
    simp only [Bool.and_eq_true,beq_iff_eq,Bool.not_eq_true'] at hr
    obtain ⟨⟨⟨⟨⟨hb,hh⟩,_⟩,_⟩,hof⟩,hck⟩:=hr
    have hh:=(HeadP.eq_iff _ _).1 hh
    subst hb hh
    have ho:=recOk_of hwf.ok.h hwf.b32 hck
    have eh:stepHead g g.head=g.head:=by unfold stepHead;rw [if_neg (by omega)]
    have eb:stepNone g false=false:=by unfold stepNone;rw [if_neg (by omega)]
    rw [eh,eb] at e
    have em:movesP (List.drop 0 (g :: l))=movesP l:=by rw [List.drop_zero];unfold movesP;rw [List.filter_cons_of_neg (by simp [h1])]
    rw [em]
    have hc:=chain_law k l g.head hf ho.1.nb.1 hwl e
    exact ⟨hwf,ho.2,by rw [←hp,←hq];exact hof,ho.1,hc.1,hc.2⟩
   | succ i =>
    rw [List.getElem?_cons_succ] at hi
    rw [List.drop_succ_cons]
    exact side_law k p q l _ hf _ i f hwl e hi hk
  ·rw [if_neg hr] at e;cases e
theorem treesP_snoc (k:Int) (g:FactP):∀ (L:List FactP) (h:HeadP),treesP k L h→TreeOk k g (lastP L h)→treesP k (L++[g]) h
 | [],_,_,hg=>⟨hg,trivial⟩
 | f :: l,_,hl,hg=>⟨hl.1,treesP_snoc k g l f.head hl.2 hg⟩
theorem lastP_snoc (g:FactP):∀ (L:List FactP) (h:HeadP),lastP (L++[g]) h=g.head
 | [],_=>rfl
 | f :: l,_=>lastP_snoc g l f.head
def linkF (h:HeadP) (link:List Bs):FactP:=⟨0,⟨#[]⟩,⟨#[]⟩,0,⟨#[]⟩,head0,h,link,[]⟩
def moves2 (hd greater:HeadP) (link:List Bs) (moves:List FactP):List FactP:=if hd.n<greater.n then moves++[linkF greater link] else moves
def greaterP (x y:HeadP):HeadP:=if x.n<y.n then y else x
theorem greater_law {k:Int} {link:List Bs} {x y:HeadP} (hx:x.root.length=32) (hy:y.root.length=32) (hl:∀ h∈link,h.length=32) (hlk:linkedP k link x y=true) :
  (x.n<(greaterP x y).n→TreeOk k (linkF (greaterP x y) link) x)∧(y.n<(greaterP x y).n→TreeOk k (linkF (greaterP x y) link) y)∧(¬ x.n<(greaterP x y).n→x.n=(greaterP x y).n∧x.root=(greaterP x y).root)∧(¬ y.n<(greaterP x y).n→y.n=(greaterP x y).n∧y.root=(greaterP x y).root):=by
 unfold linkedP at hlk
 unfold greaterP
 by_cases h1:x.n=y.n
 ·rw [if_pos h1] at hlk
  simp only [Bool.and_eq_true,beq_iff_eq] at hlk
  rw [if_neg (by omega)]
  exact ⟨fun h=>by omega,fun h=>by omega,fun _=>⟨rfl,rfl⟩,fun _=>⟨h1.symm,hlk.2.symm⟩⟩
 ·rw [if_neg h1] at hlk
  by_cases h2:y.n<x.n
  ·rw [if_pos h2] at hlk
   rw [if_neg (by omega)]
   exact ⟨fun h=>by omega,fun _=>(treeOk_of (f:=linkF x link) hx hl hlk).1,fun _=>⟨rfl,rfl⟩,fun h=>absurd h2 h⟩
  ·rw [if_neg h2] at hlk
   rw [if_pos (by omega)]
   exact ⟨fun _=>(treeOk_of (f:=linkF y link) hy hl hlk).1,fun h=>by omega,fun h=>by omega,fun _=>⟨rfl,rfl⟩⟩
theorem SideOk.two {k:Int} {path ver:Bs} {f:FactP} {moves:List FactP} {fin g:HeadP} {link:List Bs} (h:SideOk k path ver f moves fin) (h1:fin.n<g.n→TreeOk k (linkF g link) fin) (h2:¬ fin.n<g.n→fin.n=g.n∧fin.root=g.root) :
  treesP k (moves2 fin g link moves) f.head∧(lastP (moves2 fin g link moves) f.head).n=g.n∧(lastP (moves2 fin g link moves) f.head).root=g.root:=by
 unfold moves2
 by_cases hlt:fin.n<g.n
 ·rw [if_pos hlt,lastP_snoc]
  exact ⟨treesP_snoc k _ _ _ h.trees (by rw [h.last];exact h1 hlt),rfl,rfl⟩
 ·rw [if_neg hlt,h.last]
  exact ⟨h.trees,h2 hlt⟩
def Nd.Low:Nd→Prop
 | .given h=>h.length≤32
 | .joined l r h=>l.Low∧r.Low∧h.length≤32
theorem Nd.Low.sum:∀ {t:Nd},t.Low→t.sum.length≤32
 | .given _,h=>h
 | .joined _ _ _,h=>h.2.2
theorem getD_low {p:List Bs} (hp:∀ h∈p,h.length=32) (j:Nat):(p.getD j []).length≤32:=by
 rw [List.getD_eq_getElem?_getD]
 cases hj:p[j]? with
 | none=>exact Nat.zero_le _
 | some x=>exact Nat.le_of_eq (hp x (List.mem_of_getElem? hj))
theorem climbN_low (k:Int) (leaf:Bs) (way:List Step) (p:List Bs) (hl:leaf.length≤32) (hp:∀ h∈p,h.length=32):∀ j,(climbN k leaf way p j).Low
 | 0=>hl
 | j+1=>by
  show (climbStep k _ _ _).Low
  unfold climbStep
  split
  ·exact ⟨climbN_low k leaf way p hl hp j,getD_low hp j,Nat.le_of_eq (nodeP_length _ _ _)⟩
  ·exact ⟨getD_low hp j,climbN_low k leaf way p hl hp j,Nat.le_of_eq (nodeP_length _ _ _)⟩
theorem tRun_low (k:Int) (st:TSt) (way:List Step) (p:List Bs) (h1:st.fresh.Low) (h2:st.old.Low) (hp:∀ h∈p,h.length=32):∀ j,(tRun k st way p j).fresh.Low∧(tRun k st way p j).old.Low
 | 0=>⟨h1,h2⟩
 | j+1=>by
  have ih:=tRun_low k st way p h1 h2 hp j
  show (tStep k (tRun k st way p j) _ _).fresh.Low∧(tStep k (tRun k st way p j) _ _).old.Low
  unfold tStep
  split
  ·exact ⟨⟨ih.1,getD_low hp j,Nat.le_of_eq (nodeP_length _ _ _)⟩,ih.2⟩
  ·exact ⟨⟨getD_low hp j,ih.1,Nat.le_of_eq (nodeP_length _ _ _)⟩,⟨getD_low hp j,ih.2,Nat.le_of_eq (nodeP_length _ _ _)⟩⟩
theorem nodeB_low {a b:Bs} (h1:a.length≤32) (h2:b.length≤32):(nodeB a b).length≤65:=by
 unfold nodeB;simp only [List.length_cons,List.length_append];omega
theorem partsP_low {A B:Nd} (hA:A.Low) (hB:B.Low) {x y:Bs} (h:partsP A B=some (x,y)):x.length≤65∧y.length≤65:=by
 cases A with
 | given a=>cases h
 | joined al ar ha =>
  cases B with
  | given b=>cases h
  | joined bl br hb =>
   have h:(if al.sum=bl.sum∧ar.sum=br.sum then none else some (nodeB al.sum ar.sum,nodeB bl.sum br.sum))=some (x,y):=h
   by_cases hc:al.sum=bl.sum∧ar.sum=br.sum
   ·rw [if_pos hc] at h;cases h
   ·rw [if_neg hc] at h
    simp only [Option.some.injEq,Prod.mk.injEq] at h
    obtain ⟨rfl,rfl⟩:=h
    exact ⟨nodeB_low hA.1.sum hA.2.1.sum,nodeB_low hB.1.sum hB.2.1.sum⟩
theorem rightN_low {A:Nd} (h:A.Low):(rightN A).Low:=by
 cases A with
 | given a=>exact h
 | joined l r x=>exact h.2.1
theorem descP_low (i m sd:Nat):∀ (q sa:Nat) (A B:Nd),m - sa≤q→A.Low→B.Low→∀ x y,descP i m sd sa A B=some (x,y)→x.length≤65∧y.length≤65
 | q,sa,A,B,hq,hA,hB,x,y,h=>by
  rw [descP] at h
  by_cases h1:sa=sd∨m<sa+2
  ·rw [if_pos h1] at h;cases h
  ·rw [if_neg h1] at h
   cases hp:partsP A B with
   | some z =>
    rw [hp] at h
    simp only [Option.some.injEq] at h
    subst h
    exact partsP_low hA hB hp
   | none =>
    rw [hp] at h
    simp only at h
    by_cases h2:i<cutN sa m
    ·rw [if_pos h2] at h;cases h
    ·rw [if_neg h2] at h
     have hc:=cutN_in sa m (by omega)
     cases q with
     | zero=>omega
     | succ q=>exact descP_low i m sd q (cutN sa m) _ _ (by omega) (rightN_low hA) (rightN_low hB) x y h
theorem liftD_low {k:Int} {n m i:Nat} {old leaf:Bs} {rec tree:List Bs} (ho:old.length=32) (hl:leaf.length=32) (hr:∀ h∈rec,h.length=32) (ht:∀ h∈tree,h.length=32) {x y:Bs} (h:liftD k n m i old leaf rec tree=some (x,y)):x.length≤65∧y.length≤65:=by
 unfold liftD at h
 have hb:(tBeg n m old tree).length≤32:=by
  unfold tBeg
  split
  ·exact getD_low ht 0
  ·exact Nat.le_of_eq ho
 have hrest:∀ h∈tRest n m tree,h.length=32:=fun h hh=>by
  unfold tRest at hh
  split at hh
  ·exact ht h (List.mem_of_mem_drop hh)
  ·exact ht h hh
 exact descP_low i m _ _ 0 _ _ (Nat.le_refl _) (climbN_low k leaf _ _ (Nat.le_of_eq hl) hr _) (tRun_low k (tStart n m old tree) _ _ hb hb hrest _).2 x y h
theorem lifted_low {k:Int} {i:Nat} {leaf:Bs} (hl:leaf.length=32):∀ (L:List FactP) (h:HeadP) (p:List Bs),RecOk k i leaf h p→treesP k L h→∀ x y,liftedP k i leaf L h p=.inr (x,y)→x.length≤65∧y.length≤65
 | [],h,p,_,_,x,y,e=>by cases e
 | f :: l,h,p,hr,ht,x,y,e=>by
  have hs:=lift_step hl hr ht.1
  unfold liftedP at e
  cases hd:liftD k f.head.n.toNat h.n.toNat i h.root leaf p f.proof with
  | some xy =>
   rw [hd] at e
   simp only [Sum.inr.injEq] at e
   subst e
   exact liftD_low hr.root hl hr.b32 ht.1.b32 hd
  | none =>
   rw [hd] at e hs
   exact lifted_low hl l f.head _ hs ht.2 x y e
theorem colPair_low {k:Int} {a b:Bs} {way:List Step} {pa pb:List Bs} (ha:a.length≤1024) (hb:b.length≤1024) (h1:∀ h∈pa,h.length=32) (h2:∀ h∈pb,h.length=32) {x y:Bs} {n:Nat}
  (h:colPair a b (climbN k (leafP k a) way pa) (climbN k (leafP k b) way pb) n=some (x,y)):x.length≤1025∧y.length≤1025:=by
 unfold colPair at h
 split at h
 ·cases h
 ·cases h
  unfold leafB
  simp only [List.length_cons]
  omega
 ·have:=partsP_low (climbN_low k _ way pa (Nat.le_of_eq (leafP_length _ _)) h1 _) (climbN_low k _ way pb (Nat.le_of_eq (leafP_length _ _)) h2 _) h
  omega
def Pairs (k:Int) (x y:Bs):Prop:=Alike k x y∧x.length≤1025∧y.length≤1025
def liftSide (k:Int) (f:FactP) (moves:List FactP) (fin greater:HeadP) (link:List Bs):List Bs ⊕ (Bs × Bs):=liftedP k f.id.toNat (leafP k f.rcd.data.toList) (moves2 fin greater link moves) f.head f.proof
theorem SideOk.lift {k:Int} {path ver:Bs} {f:FactP} {moves:List FactP} {fin g:HeadP} {link:List Bs} (h:SideOk k path ver f moves fin) (h1:fin.n<g.n→TreeOk k (linkF g link) fin) (h2:¬ fin.n<g.n→fin.n=g.n∧fin.root=g.root) :
  match liftSide k f moves fin g link with
  | .inl p=>RecOk k f.id.toNat (leafP k f.rcd.data.toList) g p
  | .inr (x,y)=>Pairs k x y:=by
 obtain ⟨h3,h4,h5⟩:=h.two h1 h2
 have hl:=lifted_law (leafP_length k f.rcd.data.toList) _ _ _ h.proof h3
 have hw:=lifted_low (leafP_length k f.rcd.data.toList) _ _ _ h.proof h3
 unfold liftSide
 revert hl hw
 cases liftedP k f.id.toNat (leafP k f.rcd.data.toList) (moves2 fin g link moves) f.head f.proof with
 | inl p=>exact fun hl _=>hl.same h4 h5
 | inr xy =>
  obtain ⟨x,y⟩:=xy
  intro hl hw
  have:=hw x y rfl
  exact ⟨hl,by omega,by omega⟩
inductive VerdP where
 | pair (x y:Bs)
 | twice (h:HeadP) (i j:Int) (a b:ByteArray) (pa pb:List Bs)
def JudgedR (k:Int) (f1 f2:FactP) (m1 m2:List FactP) (x y:HeadP) (link:List Bs) (V:VerdP):Prop :=
 match liftSide k f1 m1 x (greaterP x y) link with
 | .inr (u,v)=>V=.pair u v
 | .inl pa=>match liftSide k f2 m2 y (greaterP x y) link with
  | .inr (u,v)=>V=.pair u v
  | .inl pb=>if f1.id=f2.id then ∃ u v,V=.pair u v∧Pairs k u v else if f1.id<f2.id then V=.twice (greaterP x y) f1.id f2.id f1.rcd f2.rcd pa pb else V=.twice (greaterP x y) f2.id f1.id f2.rcd f1.rcd pb pa
def VerdP.Good (k:Int) (path ver:Bs):VerdP→Prop
 | .pair x y=>Pairs k x y
 | .twice h i j a b pa pb=>0≤i∧i<j∧a.data.toList≠b.data.toList∧isOfP a.data.toList path ver=true∧isOfP b.data.toList path ver=true∧RecOk k i.toNat (leafP k a.data.toList) h pa∧RecOk k j.toNat (leafP k b.data.toList) h pb
theorem judged_law {k:Int} {path ver:Bs} {f1 f2:FactP} {m1 m2:List FactP} {x y:HeadP} {link:List Bs} {V:VerdP} (hx:x.root.length=32) (hy:y.root.length=32) (hl:∀ h∈link,h.length=32)
  (h1:SideOk k path ver f1 m1 x) (h2:SideOk k path ver f2 m2 y) (hlk:linkedP k link x y=true) (hne:f1.rcd.data.toList≠f2.rcd.data.toList) (hV:JudgedR k f1 f2 m1 m2 x y link V):V.Good k path ver:=by
 obtain ⟨g1,g2,g3,g4⟩:=greater_law hx hy hl hlk
 have l1:=h1.lift g1 g3
 have l2:=h2.lift g2 g4
 unfold JudgedR at hV
 revert l1 l2 hV
 cases liftSide k f1 m1 x (greaterP x y) link with
 | inr uv=>intro hV l1 _;subst hV;exact l1
 | inl pa =>
  cases liftSide k f2 m2 y (greaterP x y) link with
  | inr uv=>intro hV _ l2;subst hV;exact l2
  | inl pb =>
   intro hV l1 l2
   simp only at l1 l2 hV
   by_cases he:f1.id=f2.id
   ·rw [if_pos he] at hV
    obtain ⟨u,v,rfl,ha⟩:=hV
    exact ha
   ·rw [if_neg he] at hV
    have hi1:=h1.id
    have hi2:=h2.id
    by_cases hlt:f1.id<f2.id
    ·rw [if_pos hlt] at hV
     subst hV
     exact ⟨hi1,hlt,hne,h1.isof,h2.isof,l1,l2⟩
    ·rw [if_neg hlt] at hV
     subst hV
     exact ⟨hi2,by omega,fun e=>hne e.symm,h2.isof,h1.isof,l2,l1⟩
def verL (kind:Int) (p q:Value) (hl:List Value) (i j:Int) (a b:ByteArray) (pa pb:Value):List Value:=[.int .i64 kind,p,q]++(hl++[.int .i64 i,.int .i64 j,.string a,.string b,pa,pb])
theorem verL_len (kind:Int) (p q:Value) (hl:List Value) (i j:Int) (a b:ByteArray) (pa pb:Value) (h:hl.length=34):(verL kind p q hl i j a b pa pb).length=43:=by simp [verL,h]
theorem places39:(match Tryz.prog.underlying 39 with|some (.struct fs)=>fs.toList.mapM (fun f=>(Tryz.prog.info? f.type).map fun i=>(f.offset,i.size))|_=>none)=some [(0,1),(1,2),(3,34),(37,1),(38,1),(39,1),(40,1),(41,1),(42,1)]:=by kernel_rfl
def z43:Array Value:=#[.int .i64 0,.slice none 0 0,.slice none 0 0]++z36++#[.int .i64 0,.int .i64 0,.string ⟨#[]⟩,.string ⟨#[]⟩,.slice none 0 0,.slice none 0 0]
theorem zero39:∃ it,Tryz.prog.info? 39=some it∧it.zero=some (.agg z43):=by
 have h:(Tryz.prog.info? 39).map (·.zero)=some (some (.agg z43)):=by kernel_rfl
 cases hi:Tryz.prog.info? 39 with
 | none=>rw [hi] at h;cases h
 | some it=>rw [hi] at h;exact ⟨it,rfl,by simpa using h⟩
def nilV:Value:=.slice none 0 0
theorem z43_list:z43.toList=verL 0 nilV nilV head0.V 0 0 ⟨#[]⟩ ⟨#[]⟩ nilV nilV:=by kernel_rfl
theorem info39:(Tryz.prog.info? 39).map (·.size)=some 43:=by kernel_rfl
theorem z43_size:z43.size=43:=by kernel_rfl
theorem built39_any (parts:List (Nat × Value)):Tryz.prog.built 39 parts=Instr.fill (([(0,1),(1,2),(3,34),(37,1),(38,1),(39,1),(40,1),(41,1),(42,1)]:List (Nat × Nat)).toArray[·]?) z43 parts:=by
 obtain ⟨it,h1,h2⟩:=zero39
 have hp:=places39
 unfold Program.built
 rw [h1]
 cases hu:Tryz.prog.underlying 39 with
 | none=>rw [hu] at hp;cases hp
 | some d =>
  rw [hu] at hp
  cases d <;> try (cases hp;done)
  rename_i fs
  simp only at hp
  simp only [h2,hp]
  rfl
theorem z43_arr:z43=([]++verL 0 nilV nilV head0.V 0 0 ⟨#[]⟩ ⟨#[]⟩ nilV nilV).toArray:=by rw [←z43_list];simp
theorem built_pair (p q:Value):Tryz.prog.built 39 [(0,.int .i64 1),(1,.agg #[p,q])]=some (verL 1 p q head0.V 0 0 ⟨#[]⟩ ⟨#[]⟩ nilV nilV).toArray:=by
 rw [built39_any,z43_arr]
 unfold verL
 obtain ⟨O,hO⟩:=zg (head0.V++[.int .i64 0,.int .i64 0,.string ⟨#[]⟩,.string ⟨#[]⟩,nilV,nilV])
 rw [←hO]
 rw [fill_block _ 0 _ [] _ _ rfl (by simp [Value.cells])]
 have e1:(([]:List Value)++(Value.int .i64 1).cells.toList)=[.int .i64 1]:=rfl
 have e2:([Value.int .i64 0,nilV,nilV]++O).drop (Value.int .i64 1).cells.size=[nilV,nilV]++O:=rfl
 rw [e1,e2,fill_block _ 1 _ [.int .i64 1] _ _ rfl (by simp [Value.cells])]
 have e3:([Value.int .i64 1]++(Value.agg #[p,q]).cells.toList)=[.int .i64 1,p,q]:=rfl
 have e4:([nilV,nilV]++O).drop (Value.agg #[p,q]).cells.size=O:=rfl
 rw [e3,e4]
 rfl
theorem built_twice (hl:List Value) (i j:Int) (a b:ByteArray) (a1 a2:Option Addr) (n1 n2 c1 c2:Nat) (h:hl.length=34) :
  Tryz.prog.built 39 [(0,.int .i64 2),(2,.agg hl.toArray),(3,.int .i64 i),(4,.int .i64 j),(5,.string a),(6,.string b),(7,.slice a1 n1 c1),(8,.slice a2 n2 c2)]=some (verL 2 nilV nilV hl i j a b (.slice a1 n1 c1) (.slice a2 n2 c2)).toArray:=by
 rw [built39_any,z43_arr]
 unfold verL
 have l0:=head0_len
 obtain ⟨O,hO⟩:=zg (head0.V)
 rw [←hO] at l0 ⊢
 rw [fill_block _ 0 _ [] _ _ rfl (by simp [Value.cells])]
 have e1:(([]:List Value)++(Value.int .i64 2).cells.toList)++List.drop (Value.int .i64 2).cells.size ([Value.int .i64 0,nilV,nilV]++(O++[.int .i64 0,.int .i64 0,.string ⟨#[]⟩,.string ⟨#[]⟩,nilV,nilV]))=[.int .i64 2,nilV,nilV]++(O++[.int .i64 0,.int .i64 0,.string ⟨#[]⟩,.string ⟨#[]⟩,nilV,nilV]):=rfl
 rw [e1,fill_block _ 2 _ [.int .i64 2,nilV,nilV] _ _ (by simp [Value.cells,h]) (by simp [Value.cells,h,l0])]
 have e2:([Value.int .i64 2,nilV,nilV]++(Value.agg hl.toArray).cells.toList)++(O++[Value.int .i64 0,.int .i64 0,.string ⟨#[]⟩,.string ⟨#[]⟩,nilV,nilV]).drop (Value.agg hl.toArray).cells.size=([.int .i64 2,nilV,nilV]++hl)++[Value.int .i64 0,.int .i64 0,.string ⟨#[]⟩,.string ⟨#[]⟩,nilV,nilV]:=by
  have e3:(Value.agg hl.toArray).cells.size=O.length:=by simp [Value.cells,h,l0]
  rw [e3,List.drop_left]
  simp [Value.cells]
 rw [e2]
 have e4:∀ (A:List Value) (n:Nat) (v:Value) (Z:List Value) (rest:List (Nat × Value)) (k:Nat) (hk:([(0,1),(1,2),(3,34),(37,1),(38,1),(39,1),(40,1),(41,1),(42,1)]:List (Nat × Nat)).toArray[k]?=some (n,1)) (hA:A.length=n) (hv:v.cells=#[v]) (z:Value),Instr.fill (([(0,1),(1,2),(3,34),(37,1),(38,1),(39,1),(40,1),(41,1),(42,1)]:List (Nat × Nat)).toArray[·]?) (A++z :: Z).toArray ((k,v) :: rest)=Instr.fill (([(0,1),(1,2),(3,34),(37,1),(38,1),(39,1),(40,1),(41,1),(42,1)]:List (Nat × Nat)).toArray[·]?) ((A++[v])++Z).toArray rest:=fun A n v Z rest k hk hA hv z=>by
  rw [fill_block _ k v A (z :: Z) rest (by rw [hk,hA,hv];rfl) (by rw [hv];simp)]
  rw [hv]
  rfl
 rw [e4 _ 37 _ _ _ 3 rfl (by simp [h]) rfl,e4 _ 38 _ _ _ 4 rfl (by simp [h]) rfl,e4 _ 39 _ _ _ 5 rfl (by simp [h]) rfl,e4 _ 40 _ _ _ 6 rfl (by simp [h]) rfl,e4 _ 41 _ _ _ 7 rfl (by simp [h]) rfl,e4 _ 42 _ _ _ 8 rfl (by simp [h]) rfl]
 unfold Instr.fill
 simp
theorem verL_at (kind:Int) (p q:Value) (hl:List Value) (i j:Int) (a b:ByteArray) (va vb:Value) (h:hl.length=34) :
  (verL kind p q hl i j a b va vb)[37]?=some (.int .i64 i)∧(verL kind p q hl i j a b va vb)[38]?=some (.int .i64 j)∧(verL kind p q hl i j a b va vb)[39]?=some (.string a)∧(verL kind p q hl i j a b va vb)[40]?=some (.string b)∧(verL kind p q hl i j a b va vb)[41]?=some va∧(verL kind p q hl i j a b va vb)[42]?=some vb:=by
 simp [verL,h,List.getElem?_append]
def VerOwn (w:World) (B:Nat) (cs:Array Value):VerdP→Prop
 | .pair x y=>∃ p q,cs=(verL 1 p q head0.V 0 0 ⟨#[]⟩ ⟨#[]⟩ nilV nilV).toArray∧w.ownsRow B 5 1 p x.length (x.map byteV)∧w.ownsRow B 5 1 q y.length (y.map byteV)
 | .twice h i j a b pa pb=>∃ va vb,cs=(verL 2 nilV nilV h.V i j a b va vb).toArray∧h.root.length=32∧a.size≤1048576∧b.size≤1048576∧(∀ x∈pa,x.length=32)∧(∀ x∈pb,x.length=32)∧w.ownsRow B 34 32 va pa.length (hsV pa)∧w.ownsRow B 34 32 vb pb.length (hsV pb)
def VerIn (w:World) (cs:Array Value):VerdP→Prop
 | .pair x y=>∃ p q,cs=(verL 1 p q head0.V 0 0 ⟨#[]⟩ ⟨#[]⟩ nilV nilV).toArray∧SlIn w p x∧SlIn w q y
 | .twice h i j a b pa pb=>∃ va vb,cs=(verL 2 nilV nilV h.V i j a b va vb).toArray∧h.root.length=32∧a.size≤1048576∧b.size≤1048576∧HsIn w va pa∧HsIn w vb pb
theorem VerOwn.in {w:World} {B:Nat} {cs:Array Value}:∀ {V:VerdP},VerOwn w B cs V→VerIn w cs V
 | .pair _ _,⟨p,q,h1,h2,h3⟩=>⟨p,q,h1,SlIn.of_owns h2,SlIn.of_owns h3⟩
 | .twice _ _ _ _ _ _ _,⟨va,vb,h1,h2,h3,h4,h5,h6,h7,h8⟩=>⟨va,vb,h1,h2,h3,h4,HsIn.of_owns h5 h7,HsIn.of_owns h6 h8⟩
theorem VerIn.mv {w w':World} {cs:Array Value} (hm:Mv (fun _=>False) w w'):∀ {V:VerdP},VerIn w cs V→VerIn w' cs V
 | .pair _ _,⟨p,q,h1,h2,h3⟩=>⟨p,q,h1,h2.mv hm (fun _ _ h=>h),h3.mv hm (fun _ _ h=>h)⟩
 | .twice _ _ _ _ _ _ _,⟨va,vb,h1,h2,h3,h4,h5,h6⟩=>⟨va,vb,h1,h2,h3,h4,h5.mv hm (fun _ _ h=>h),h6.mv hm (fun _ _ h=>h)⟩
theorem VerIn.size {w:World} {cs:Array Value}:∀ {V:VerdP},VerIn w cs V→cs.size=43
 | .pair _ _,⟨p,q,h1,_⟩=>by rw [h1,List.size_toArray,verL_len _ _ _ _ _ _ _ _ _ _ head0_len]
 | .twice h _ _ _ _ _ _,⟨va,vb,h1,h2,_⟩=>by rw [h1,List.size_toArray,verL_len _ _ _ _ _ _ _ _ _ _ (HeadP.V_len _ h2)]
theorem verL_one (kind:Int) (p q:Value) (h:HeadP) (i j:Int) (a b:ByteArray) (pa pb:Value) (h1:p.oneCell'=true) (h2:q.oneCell'=true) (h3:pa.oneCell'=true) (h4:pb.oneCell'=true):(verL kind p q h.V i j a b pa pb).toArray.all (·.oneCell')=true:=by
 have:=head_one h
 rw [List.all_toArray] at this ⊢
 unfold verL
 simp only [List.all_append,List.all_cons,List.all_nil,this,h1,h2,h3,h4,Bool.and_true,Bool.true_and]
 rfl
theorem SlIn.one {w:World} {v:Value} {l:Bs} (h:SlIn w v l):v.oneCell'=true:=by
 obtain ⟨a,c,rfl⟩:=h.shape
 rfl
theorem HsIn.one {w:World} {v:Value} {l:List Bs} (h:HsIn w v l):v.oneCell'=true:=by
 obtain ⟨a,c,rfl⟩:=h.shape
 rfl
theorem VerIn.one {w:World} {cs:Array Value}:∀ {V:VerdP},VerIn w cs V→cs.all (·.oneCell')=true
 | .pair _ _,⟨p,q,h1,h2,h3⟩=>by rw [h1];exact verL_one _ _ _ _ _ _ _ _ _ _ h2.one h3.one rfl rfl
 | .twice _ _ _ _ _ _ _,⟨va,vb,h1,_,_,_,h2,h3⟩=>by rw [h1];exact verL_one _ _ _ _ _ _ _ _ _ _ rfl rfl h2.one h3.one
end Go.Proofs.YtdfdikpklddnhaaGreatDoor
