/- Of the proof of EvidenceJudges, second form: for values of bulk at most 1048576. (Ej46) -/
import Derived.Test.YtdfdikpklddnhaaGreatDoorEj01
import Derived.Test.YtdfdikpklddnhaaGreatDoorEj45
import Derived.Test.YtdfdikpklddnhaaGreatDoorEj44
import Derived.ArgAppend
namespace Go.Proofs.YtdfdikpklddnhaaGreatDoor
open Go.RowKit
set_option linter.unusedSimpArgs false
theorem conv_bytes (r:ByteArray) (W:World):∃ B cap W2,(convert 9 26 (.string r)).run Tryz.prog W=.ok (.slice (some ⟨B,0,none⟩) r.size cap) W2∧SlIn W2 (.slice (some ⟨B,0,none⟩) r.size cap) r.data.toList∧Mv (fun _=>False) W W2:=by
 have hcv:=Go.Lib.run_convert_string_bytes (P:=Tryz.prog) W 9 26 5 r Tryz.underlying9 Tryz.underlying26 Tryz.underlying5
 have hgc:=grownCap_ge W r.size 0 5
 have hl:r.data.toList.length=r.size:=by simp
 refine ⟨_,_,_,hcv,.inr ⟨W.heap.size,0,_,by rw [hl],by rw [hl];exact hgc,fun j b hj=>?_,by rw [Go.Lib.bytesWorld_size];omega⟩,⟨rfl,rfl,rfl,by rw [Go.Lib.bytesWorld_size];omega,fun j hj _=>Go.Lib.bytesWorld_at_old W 5 r j hj⟩⟩
 have hjl:j<r.size:=by rw [←hl];exact (List.getElem?_eq_some_iff.1 hj).1
 have:=Go.Lib.bytesWorld_cell W 5 r j hjl
 rw [Nat.zero_add,this,List.getD_eq_getElem?_getD,hj]
 rfl
theorem wp_append_hsin {o:Oper} {a:Act} {w:World} {K:Act→World→Prop} {Q:Exit→Act→World→Prop} (s x:Operand)
  (ho:o.op=.call { callee:=.builtin .append,args:=#[s,x],argTypes:=#[37,37] }) (hs:a.eval s=.slice none 0 0)
  (sv:Value) (l:List Bs) (hx:a.eval x=sv) (hsl:HsIn w sv l) (hbd:l.length≤1048576)
  (h:∀ v' w',w'.ownsRow w.heap.size 34 32 v' l.length (hsV l)→Mv (fun _=>False) w w'→K (a.put o.dst v') w'):o.wp Tryz.prog a w K Q:=by
 obtain ⟨i0,hi0,hz0,hz1,hz2⟩:=info_parts Tryz.info34f
 have hown:=World.ownsRow_nil w w.heap.size 34 32
 rcases hsl with ⟨rfl,rfl⟩|⟨g,off,cap,rfl,hc,hb,_⟩
 ·have hrun:=run_append_owned_none (P:=Tryz.prog) (w:=w) w.heap.size 37 o.type 34 i0 32 Tryz.underlying37 hi0 (.slice none 0 0) 0 [] hown
  unfold Oper.wp
  simp [execOp,ho,resolve,invoke,builtin,hs,hx,hrun,Result.andThen]
  exact h _ w hown (Mv.refl _ _)
 ·refine wp_append_own w s x 37 ho w.heap.size 34 i0 (.agg z32B) 32 32 Tryz.underlying37 hi0 hz0 hz1 hz2 rfl (by decide) (.slice none 0 0) 0 [] hs hown ⟨g,off,none⟩ l.length cap (hsV l) hx (hsV_len hb.lens) (fun j u hu=>?_) (hsV_one l) (by unfold maxLen;omega) (by omega) (Nat.le_refl _) (fun v' w' h2 h3 _=>?_)
  ·rw [Addr.add_lit];exact hb.flat j u hu
  ·rw [Nat.zero_add,List.nil_append] at h2
   exact h v' w' h2 ((Mv.refl _ _).grown h3 (fun k hk=>by cases hk))
theorem built_link (h:HeadP) (link:List Bs) (a:Option Addr) (x y:Nat) (hh:h.root.length=32):Tryz.prog.built 61 [(6,.agg h.V.toArray),(7,.slice a x y)]=some ((linkF h link).cells (.slice a x y) (.slice none 0 0)).toArray:=by
 rw [built_any,z75_arr]
 have l0:=head0_len
 have l2:(linkF h link).head.V.length=34:=HeadP.V_len _ hh
 have e0:(linkF h link).old.V=head0.V:=rfl
 have e1:h.V=(linkF h link).head.V:=rfl
 rw [e1]
 obtain ⟨O,hO⟩:=zg (head0.V)
 rw [←hO] at l0 e0 ⊢
 rw [fill_f _ _ 6 39 _ _ (by simp [Value.cells,l2]) (by simp [Value.cells,l0,l2]),fill_f _ _ 7 73 _ _ rfl (by simp [Value.cells,l0,l2])]
 unfold Instr.fill
 simp [Value.cells,l0,l2,FactP.cells,List.take_append,List.drop_append,e0]
 simp [linkF]
 rw [List.take_of_length_le (by omega),List.drop_eq_nil_of_le (show O.length≤69 by omega),List.drop_eq_nil_of_le (show h.V.length≤35 by rw [HeadP.V_len _ hh];omega)]
 simp
def LiftedRes (k:Int) (i:Nat) (leaf:Bs) (L:List FactP) (h:HeadP) (p:List Bs) (w w':World) (e:Ending):Prop :=
 match liftedP k i leaf L h p with
 | .inl q=>∃ v,e=.returned (.tuple #[v,.agg noPair,.int .i64 0])∧w'.ownsRow w.heap.size 34 32 v q.length (hsV q)
 | .inr (x,y)=>∃ pr,e=.returned (.tuple #[.slice none 0 0,.agg pr,.int .i64 93])∧PairOwn w' w.heap.size pr x y
theorem wp_append_moves {o:Oper} {a:Act} {w:World} {K:Act→World→Prop} {Q:Exit→Act→World→Prop} (s x:Operand)
  (ho:o.op=.call { callee:=.builtin .append,args:=#[s,x],argTypes:=#[54,54] }) (ma:Option Addr) (n:Nat) (ts:List Tri) (hn:ts.length=n) (hs:a.eval s=.slice ma n n)
  (hts:∀ (j:Nat) t,ts[j]?=some t→∃ g off,ma=some ⟨g,off,none⟩∧FactAt w g (off+j * 75) t.1 t.2.1 t.2.2∧GoodT w t)
  (B:Nat) (t1:Tri) (hx:a.eval x=.slice (some ⟨B,0,none⟩) 1 1) (hB:w.heap[B]?=some (.cells (tcells t1).toArray 61 (0,0))) (h1:t1.1.Ok) (h1c:∀ u∈tcells t1,u.oneCell'=true) (hb:n≤1048576)
  (h:∀ v' w',w'.ownsRow w.heap.size 61 75 v' (n+1) (flatT (ts++[t1]))→Mv (fun _=>False) w w'→K (a.put o.dst v') w'):o.wp Tryz.prog a w K Q:=by
 obtain ⟨i0,hi0,hz0,hz1,hz2⟩:=info_parts Tryz.info61f
 have hl1:(tcells t1).length=1 * 75:=by rw [tcells_len _ h1]
 have hok:∀ t∈ts,t.1.Ok:=fun t ht=>by
  obtain ⟨j,hj⟩:=List.mem_iff_getElem?.1 ht
  obtain ⟨_,_,_,_,hg⟩:=hts j t hj
  exact hg.ok
 have hnews:∀ (j:Nat) u,(tcells t1)[j]?=some u→w.cell? ((⟨B,0,none⟩:Addr).add j)=some u:=fun j u hu=>by
  rw [Addr.add_lit,cell_of_row _ _ _ _ _ _ hB,Nat.zero_add];simpa using hu
 have key:∃ v' w',(Builtin.append_ #[54,54] o.type #[.slice ma n n,.slice (some ⟨B,0,none⟩) 1 1]).run Tryz.prog w=.ok v' w'∧w'.ownsRow w.heap.size 61 75 v' (n+1) (flatT ts++tcells t1)∧w.grownBy w' none:=by
  cases ma with
  | some b =>
   refine run_append_arg_grows (P:=Tryz.prog) w 54 o.type 61 i0 (.agg z75) 75 224 Tryz.underlying54 hi0 hz0 hz1 hz2 rfl (by decide) b n n (flatT ts) (by rw [flatT_len _ hok,hn]) (fun j u hu=>?_) ⟨B,0,none⟩ 1 1 (tcells t1) hl1 hnews (by omega) (by unfold maxLen;omega) (by omega)
   have hj:=(List.getElem?_eq_some_iff.1 hu).1
   rw [flatT_len _ hok] at hj
   obtain ⟨t,ht⟩:∃ t,ts[j / 75]?=some t:=⟨ts[j / 75]'(by omega),List.getElem?_eq_getElem _⟩
   obtain ⟨g,off,e,hat,_⟩:=hts _ _ ht
   cases e
   have e2:=flatT_at ts hok (j / 75) t (j % 75) ht (by omega)
   rw [show j / 75 * 75+j % 75=j by omega,hu] at e2
   have:=hat (j % 75) u e2.symm
   rw [Addr.add_lit,show off+j=off+j / 75 * 75+j % 75 by omega]
   exact this
  | none =>
   have h0:ts=[]:=by
    cases ts with
    | nil=>rfl
    | cons t l=>obtain ⟨_,_,e,_⟩:=hts 0 t rfl;cases e
   subst h0
   subst hn
   obtain ⟨v',w',hrun,r1,r2,_⟩:=run_append_own (P:=Tryz.prog) w w.heap.size 54 o.type 61 i0 (.agg z75) 75 224 Tryz.underlying54 hi0 hz0 hz1 hz2 rfl (by decide) (.slice none 0 0) 0 [] (World.ownsRow_nil w _ 61 75) ⟨B,0,none⟩ 1 1 (tcells t1) hl1 hnews h1c (by unfold maxLen;omega) (by omega) (Nat.le_refl _)
   exact ⟨v',w',hrun,r1,r2⟩
 obtain ⟨v',w',hrun,r1,r2⟩:=key
 unfold Oper.wp
 simp [execOp,ho,resolve,invoke,builtin,hs,hx,hrun,Result.andThen]
 exact h v' w' (by rw [flatT_snoc];exact r1) ((Mv.refl _ _).grown r2 (fun k hk=>by cases hk))
theorem owns_cells {w:World} {base b:Nat} {C:Array Value} {e E:TypeId} {sz:Nat} {v:Value} {n:Nat} {xs:List Value} {i j:Nat} {x y:Value} (h:w.ownsRow base e sz v n xs) (hb:w.heap[b]?=some (.cells C E (0,0))) (hE:e≠E):((w.setCell ⟨b,i,none⟩ x).setCell ⟨b,j,none⟩ y).ownsRow base e sz v n xs :=
 owns_setCellX (owns_setCellX h b i x hb hE) b j y (heap_setCell_same hb _) hE
theorem lift_info {k:Int} {n m i:Nat} {old leaf:Bs} {rec tree:List Bs} {w w':World} {lv:Value} {pv:Array Value} {c:Int} (h:LiftRes k n m i old leaf rec tree w w' lv pv c):(Tryz.prog.info? 33).map (·.size)=some pv.size∧2=pv.size∧pv.all (·.oneCell')=true:=by
 unfold LiftRes at h
 split at h
 ·obtain ⟨_,rfl,_⟩:=h
  exact ⟨info33,rfl,two_slices _ _ _ _ _ _⟩
 ·rename_i x y _
  obtain ⟨_,_,pu,pq,rfl,ho1,ho2⟩:=h
  obtain ⟨a1,a2,rfl⟩:=owns_shape ho1
  obtain ⟨a3,a4,rfl⟩:=owns_shape ho2
  exact ⟨info33,rfl,two_slices _ _ _ _ _ _⟩
theorem sideC_at {f:FactP} {pv nv mv:Value} {h:HeadP} (ok:f.Ok):(sideC f pv nv mv h)[75]?=some mv∧(∀ (j:Nat) v,(f.cells pv nv)[j]?=some v→(sideC f pv nv mv h)[j]?=some v)∧(∀ (j:Nat) v,h.V[j]?=some v→(sideC f pv nv mv h)[76+j]?=some v):=by
 have hl:=FactP.cells_len f pv nv ok
 obtain ⟨C,hC⟩:=zg (f.cells pv nv)
 unfold sideC
 rw [←hC] at hl ⊢
 refine ⟨?_,fun j v hj=>?_,fun j v hj=>?_⟩
 ·rw [List.getElem?_toArray,List.append_assoc,List.getElem?_append_right (by omega),hl];rfl
 ·have:=(List.getElem?_eq_some_iff.1 hj).1
  rw [List.getElem?_toArray,List.append_assoc,List.getElem?_append_left (by omega)];exact hj
 ·rw [List.getElem?_toArray,List.getElem?_append_right (by simp [hl])]
  simp only [List.length_append,hl,List.length_cons,List.length_nil]
  rw [show 76+j - (75+(0+1))=j by omega];exact hj
set_option maxRecDepth 100000 in
set_option maxHeartbeats 6400000 in
theorem lifted_any (k:Int) (f:FactP) (pv nv mv lv:Value) (hd greater:HeadP) (link:List Bs) (moves:List FactP) (i:Nat) (w:World) (hpv:HsIn w pv f.proof) (_hnv:SlIn w nv f.note) (hmv:FactsIn w mv moves) (hlv:HsIn w lv link) (hml:moves.length≤1048576) (hll:link.length≤1048576) (ok:f.Ok) (hhd:hd.root.length=32) (hgr:greater.root.length=32)
  (hid:f.id=i) (hrs:f.rcd.size≤1048576) (hrec:RecOk k i (leafP k f.rcd.data.toList) f.head f.proof) (htr:treesP k (moves2 hd greater link moves) f.head) (he:EnvH w) :
  Calls Tryz.prog 100 #[.agg (sideC f pv nv mv hd),.int .i64 k,lv,.agg greater.V.toArray] w fun e w'=>Mv (fun _=>False) w w'∧LiftedRes k i (leafP k f.rcd.data.toList) (moves2 hd greater link moves) f.head f.proof w w' e:=by
 obtain ⟨c75,cfac,cfin⟩:=sideC_at (pv:=pv) (nv:=nv) (mv:=mv) (h:=hd) ok
 obtain ⟨sc,hsc⟩:=zg (sideC f pv nv mv hd)
 rw [←hsc] at c75 cfac cfin ⊢
 obtain ⟨pa,pc,hpsh⟩:=hpv.shape
 obtain ⟨ma,mc,hmsh,hmc,hmj⟩:=hmv
 have HMV:Hid (FactsIn w (.slice ma moves.length mc) moves):=zh ⟨ma,mc,rfl,hmc,hmj⟩
 obtain ⟨la,lc,hlsh⟩:=hlv.shape
 subst hpsh hmsh hlsh
 obtain ⟨Lm,hLm⟩:=zg (moves.length)
 obtain ⟨Lp,hLp⟩:=zg (f.proof.length)
 obtain ⟨Ll,hLl⟩:=zg (link.length)
 rw [←hLm] at c75 hmc hml HMV
 rw [←hLp] at cfac hpv
 rw [←hLl] at hlv hll ⊢
 have cid:sc[3]?=some (.int .i64 i):=by rw [←hid];exact cfac 3 _ rfl
 have crec:sc[4]?=some (.string f.rcd):=cfac 4 _ rfl
 have cpv:sc[73]?=some (.slice pa Lp pc):=cfac 73 _ (FactP.c73 f _ _ ok)
 obtain ⟨fh,hfh⟩:=zg (f.head.V)
 obtain ⟨dh,hdh⟩:=zg (hd.V)
 obtain ⟨gh,hgh⟩:=zg (greater.V)
 have CFH:Hid (∀ (j:Nat) v,fh[j]?=some v→sc[39+j]?=some v):=zh fun j v hj=>cfac _ v (FactP.chead f _ _ ok j v (by rw [←hfh];exact hj))
 have CDH:Hid (∀ (j:Nat) v,dh[j]?=some v→sc[76+j]?=some v):=zh fun j v hj=>cfin j v (by rw [←hdh];exact hj)
 have CID:=zh cid
 have CREC:=zh crec
 have CPV:=zh cpv
 have C75:=zh c75
 have HBL:=zh (built_link greater link la Ll lc hgr)
 rw [←hgh] at HBL ⊢
 have HPV:=zh hpv
 have HLV:=zh hlv
 have HE:=zh he
 have HREC:=zh hrec
 have HRS:=zh hrs
 have HFH:=zh hfh
 have HDH:=zh hdh
 have HGH:=zh hgh
 have HLM:=zh hLm
 have HLP:=zh hLp
 have HLL:=zh hLl
 have HMC:=zh hmc
 have HHD:=zh hhd
 have HGR:=zh hgr
 have HOK:=zh ok
 have HSCZ:Hid ((Tryz.prog.info? 123).map (·.size)=some sc.size):=zh (by rw [show sc.size=110 by rw [hsc];unfold sideC;simp [FactP.cells_len _ _ _ ok,HeadP.V_len _ hhd]];exact info123)
 have HTR:=zh htr
 obtain ⟨ms,hms⟩:=zg (moves2 hd greater link moves)
 rw [←hms] at HTR ⊢
 have HMS:=zh hms
 obtain ⟨lf,hlf⟩:=zg (leafP k f.rcd.data.toList)
 have HLF:=zh hlf
 rw [←hlf] at HREC ⊢
 have hl32:lf.length=32:=by rw [hlf];exact leafP_length _ _
 clear hlf
 clear c75 cfac cfin hpv hlv he hrec hrs hfh hdh hgh hLm hLp hLl hhd hgr ok hsc cid crec cpv htr hms hid hmj hmc _hnv
 go_enter Tryz.func100,Tryz.ntmps100
 go_upto_region 1 with fail
 obtain ⟨A4,hA4⟩:=zg (w.heap.size)
 have hm1:Mv (fun _=>False) w (((w.alloc (Obj.cells sc 123)).alloc (Obj.cells gh.toArray 36)).alloc (Obj.cells #[Value.slice none 0 0,Value.slice none 0 0] 33)):=(((Mv.refl _ _).alloc _).alloc _).alloc _
 have h4:(((w.alloc (Obj.cells sc 123)).alloc (Obj.cells gh.toArray 36)).alloc (Obj.cells #[Value.slice none 0 0,Value.slice none 0 0] 33)).heap[A4]?=some (.cells sc 123 (0,0)):=(Below.heap_alloc _ _ _ (by simp;omega)).trans ((Below.heap_alloc _ _ _ (by simp;omega)).trans (by rw [hA4];exact heap_alloc_new _ _))
 have h7:(((w.alloc (Obj.cells sc 123)).alloc (Obj.cells gh.toArray 36)).alloc (Obj.cells #[Value.slice none 0 0,Value.slice none 0 0] 33)).heap[A4+1]?=some (.cells gh.toArray 36 (0,0)):=(Below.heap_alloc _ _ _ (by simp;omega)).trans (by rw [show A4+1=(w.alloc (Obj.cells sc 123)).heap.size by simp [hA4]];exact heap_alloc_new _ _)
 have h9:(((w.alloc (Obj.cells sc 123)).alloc (Obj.cells gh.toArray 36)).alloc (Obj.cells #[Value.slice none 0 0,Value.slice none 0 0] 33)).heap[A4+1+1]?=some (.cells #[Value.slice none 0 0,Value.slice none 0 0] 33 (0,0)):=by rw [show A4+1+1=((w.alloc (Obj.cells sc 123)).alloc (Obj.cells gh.toArray 36)).heap.size by simp [hA4]];exact heap_alloc_new _ _
 rw [←hA4]
 generalize ((w.alloc (Obj.cells sc 123)).alloc (Obj.cells gh.toArray 36)).alloc (Obj.cells #[Value.slice none 0 0,Value.slice none 0 0] 33)=w1 at hm1 h4 h7 h9 ⊢
 have M1:=zh hm1
 have H4:=zh h4
 have H7:=zh h7
 have H9:=zh h9
 have HA4:=zh hA4
 obtain ⟨lc2,hlc2⟩:=zg ((lf.map byteV).toArray)
 have HLC:Hid (hashV lf=.agg lc2):=zh (by rw [hlc2];rfl)
 have HL32:=zh hl32
 have HLZ:Hid (lc2.size=32):=zh (by rw [hlc2];simp [hl32])
 have HLO:Hid (lc2.all (·.oneCell')=true):=zh (by rw [hlc2];exact hash_one _)
 obtain ⟨BB,cap,W2,hcv,hsl,hm2⟩:=conv_bytes f.rcd w1
 have HSL:=zh hsl
 have HM2:=zh (hm1.trans hm2)
 have K4:=zh ((hm2.block _ (lt_of_heap h4) id).trans h4)
 have K7:=zh ((hm2.block _ (lt_of_heap h7) id).trans h7)
 have K9:=zh ((hm2.block _ (lt_of_heap h9) id).trans h9)
 have c4:=cell_of_heap h4 4 CREC.out
 clear hA4 hm1 h4 h7 h9 hlc2 hl32 hsl hm2
 have HI34:Hid ((Tryz.prog.info? 34).map (·.size)=some lc2.size):=zh (by rw [HLZ.out];exact info34)
 go_upto_region 2 with (go_at_call 51;have hlf:=leafHash_any k _ f.rcd.data.toList W2 HSL.out (by have:=HRS.out;simp;omega) (HE.out.mv HM2.out (fun _ h=>h.elim));rw [←HLF.out,HLC.out] at hlf;refine hlf.mono ?_;rintro e w2 ⟨rfl,hm⟩;have M2:=zh (HM2.out.trans hm);have L4:=zbl hm K4;have L7:=zbl hm K7;have L9:=zbl hm K9;clear hlf hm hcv c4;go_upto_region 2 with (refine wpList_store_row rfl 34 _ _ rfl w2.heap.size lc2 rfl rfl 34 _ (heap_alloc_new _ _) HI34.out HLZ.out.symm HLO.out ?_))
 obtain ⟨A11,hA11⟩:=zg (w2.heap.size)
 have HW:Hid (∀ Z:Array Value,Mv (fun _=>False) w2 ((w2.alloc (.cells Z 34)).setRow w2.heap.size lc2)∧((w2.alloc (.cells Z 34)).setRow w2.heap.size lc2).heap[A11]?=some (.cells lc2 34 (0,0))):=zh fun Z=>⟨((Mv.refl _ _).alloc _).setRow (.inr (Nat.le_refl _)) _,by rw [hA11];exact setRow_heap _ _ _ _ _ _ (heap_alloc_new _ _)⟩
 have HA11:Hid (w.heap.size≤A11):=zh (by rw [hA11];exact M2.out.size)
 rw [←hA11]
 generalize hWn:World.setRow _ _ _=w3
 obtain ⟨hmn,hpn⟩:=HW.out _
 rw [←hA11,hWn] at hmn hpn
 have M3:=zh (M2.out.trans hmn)
 have J11:=zh hpn
 have J4:=zbl hmn L4
 have J7:=zbl hmn L7
 have J9:=zbl hmn L9
 clear hWn hmn hpn HW hA11
 have HIF:Hid ((Tryz.prog.info? 36).map (·.size)=some fh.length):=zh (by rw [HFH.out,HeadP.V_len _ HOK.out.h];exact info36)
 have HFZ:Hid (34=fh.toArray.size):=zh (by rw [List.size_toArray,HFH.out,HeadP.V_len _ HOK.out.h])
 have HFO:Hid (fh.toArray.all (·.oneCell')=true):=zh (by rw [HFH.out];exact head_one _)
 have HCF:Hid (∀ (j:Nat) v,fh[j]?=some v→w3.cell? ⟨A4,39+j,none⟩=some v):=zh fun j v hj=>cell_of_heap J4.out _ (CFH.out j v hj)
 have HPB:Hid (Lp≤1048576):=zh (by rw [HLP.out,HREC.out.len];have h1:=wayRec_len f.head.n.toNat i (by have:=HREC.out.nb;omega) (by have:=HREC.out.il;omega);omega)
 try walk_nrm
 go_cut [12,13] (fun s12 s13 wx=>∃ A12 v,s12=.pointer (some ⟨A12,0,none⟩)∧s13=v∧wx.heap[A12]?=some (.cells fh.toArray 36 (0,0))∧wx.ownsRow w.heap.size 34 32 v Lp (hsV f.proof)∧w.heap.size≤A12∧Mv (fun _=>False) w3 wx)
 case first =>
  refine wp_region_noPanic ?_
  refine wp_region_held_drew (S:=(fun w'=>Mv (fun _=>False) w3 w')) (by kernel_rfl) ((Mv.refl _ _).drew) (fun hHeld=>?_)
  refine zt 0 (.pointer (some ⟨A4,0,none⟩)) rfl (fun _ hS=>by go_simp) hHeld ?_
  try walk_nrm
  refine zt 1 (.pointer (some ⟨A4,39,none⟩)) rfl (fun _ hS=>by go_simp) hHeld ?_
  try walk_nrm
  refine zj 2 (.agg fh.toArray) rfl (yieldsIf_load_mid (by rfl) 36 _ rfl A4 39 rfl fh _ (fun _ h=>fun t v hv=>(Mv.cell h (p:=⟨A4,39+t,none⟩) (World.block_lt_of_cell? _ _ (HCF.out t v hv)) id).trans (HCF.out t v hv)) Tryz.underlying36 rfl HIF.out) hHeld ?_
  try walk_nrm
  refine zt 3 (.pointer (some ⟨A4,0,none⟩)) rfl (fun _ hS=>by go_simp) hHeld ?_
  try walk_nrm
  refine zt 4 (.pointer (some ⟨A4,73,none⟩)) rfl (fun _ hS=>by go_simp) hHeld ?_
  try walk_nrm
  refine zt 5 (.slice pa Lp pc) rfl (fun _ hS=>by have q:=cell_of_heap ((hS.block _ (lt_of_heap J4.out) id).trans J4.out) 73 CPV.out;go_simp) hHeld ?_
  try walk_nrm
  refine wpAnyH_ready (rs:=[6,7]) (by kernel_rfl) (by simp) (AllReadyH.cons rfl (fun K' hK=>?r6) (AllReadyH.cons rfl (fun K' hK=>?r7) AllReadyH.nil))
  case r6 =>
   rw [if_pos (by rfl)]
   refine wp_append_hsin (.const (.slice none 0 0)) (.tmp 32) rfl rfl (.slice pa Lp pc) f.proof rfl (HPV.out.mv (M3.out.trans hHeld) (fun _ _ h=>h)) (by rw [←HLP.out];exact HPB.out) (fun v6 w6 hown hm=>?_)
   have hs:=hHeld.trans hm
   have OWN6:=zh (owns_mono hown (show w.heap.size≤w3.drew.heap.size by have:=M3.out.size;have:=hHeld.size;omega))
   rw [←HLP.out] at OWN6
   obtain ⟨a6,c6,hs6⟩:=owns_shape OWN6.out
   subst hs6
   clear hm hown
   refine hK.out _ _ hs (fun hHeld=>?_)
   clear hK K'
   try walk_nrm
   clear hs
   refine zo 7 rfl fun K' hK=>?_
   unfold Oper.wp execOp
   go_simp
   generalize hZ:(#[_,_,_,_,_,_,_,_,_,_,_,_,_,_,_,_,_,_,_,_,_,_,_,_,_,_,_,_,_,_,_,_,_,_]:Array Value)=Z
   have HZ:Hid (Z.size=34):=zh (by rw [←hZ];rfl)
   have hm:Mv (fun _=>False) w6 (w6.alloc (.cells Z 36)):=(Mv.refl _ _).alloc _
   have hb:(w6.alloc (.cells Z 36)).heap[w6.heap.size]?=some (.cells Z 36 (0,0)):=heap_alloc_new w6 _
   obtain ⟨A12,hA12⟩:=zg (w6.heap.size)
   have HA12:=zh (show w.heap.size≤A12 by rw [hA12];have:=M3.out.size;have:=hHeld.size;omega)
   have HLOW12:=zh (show w3.heap.size≤A12 by rw [hA12];first|exact Nat.le_refl _|exact hHeld.size)
   rw [←hA12] at hb ⊢
   generalize (w6.alloc (.cells Z 36))=wA at hm hb ⊢
   have F12:=zh hb
   have OWN7:=zh (owns_mv OWN6.out hm (fun _ _ _ h=>h))
   have hs:=hHeld.trans hm
   clear hm hb hA12 hZ
   refine hK.out _ _ hs (fun hHeld=>?_)
   clear hK K'
   try walk_nrm
   clear hs
   refine zo 8 rfl fun K' hK=>?_
   refine wp_store_row 36 (.tmp 12) (.tmp 29) rfl A12 fh.toArray rfl rfl 36 Z F12.out (by rw [List.size_toArray];exact HIF.out) (HZ.out.trans HFZ.out) HFO.out ?_
   have hs:=hHeld.setRow (.inr (show w3.heap.size≤A12 by have:=HLOW12.out;omega)) fh.toArray
   have r12:=setRow_heap _ _ _ fh.toArray _ _ F12.out
   have hown:=owns_setRowX OWN7.out A12 fh.toArray F12.out (by decide)
   generalize wA.setRow A12 fh.toArray=wz at hs r12 hown ⊢
   have R12:=zh r12
   have OWNZ:=zh hown
   clear r12 hown
   refine hK.out _ _ hs (fun hHeld=>?_)
   clear hK K'
   try walk_nrm
   clear hs
   refine zo 9 rfl fun K' hK=>?_
   unfold Oper.wp execOp
   go_simp
   refine hK.out _ _ hHeld (fun hHeld=>?_)
   clear hK K'
   try walk_nrm
   have HZZ:=zh hHeld
   refine zd ?_
   go_wp2_with fail
   go_meet
   exact ⟨A12,_,rfl,rfl,R12.out,OWNZ.out,HA12.out,HZZ.out⟩
  case r7 =>
   rw [if_pos (by rfl)]
   unfold Oper.wp execOp
   go_simp
   generalize hZ:(#[_,_,_,_,_,_,_,_,_,_,_,_,_,_,_,_,_,_,_,_,_,_,_,_,_,_,_,_,_,_,_,_,_,_]:Array Value)=Z
   have HZ:Hid (Z.size=34):=zh (by rw [←hZ];rfl)
   have hm:Mv (fun _=>False) w3 (w3.alloc (.cells Z 36)).drew:=((Mv.refl _ _).alloc _).drew
   have hb:(w3.alloc (.cells Z 36)).drew.heap[w3.heap.size]?=some (.cells Z 36 (0,0)):=heap_alloc_new w3 _
   obtain ⟨A12,hA12⟩:=zg (w3.heap.size)
   have HA12:=zh (show w.heap.size≤A12 by rw [hA12];have:=M3.out.size;have:=hHeld.size;omega)
   have HLOW12:=zh (show w3.heap.size≤A12 by rw [hA12];first|exact Nat.le_refl _|exact hHeld.size)
   rw [←hA12] at hb ⊢
   generalize (w3.alloc (.cells Z 36)).drew=wA at hm hb ⊢
   have F12:=zh hb
   have hs:=hm
   clear hm hb hA12 hZ
   refine hK.out _ _ hs (fun hHeld=>?_)
   clear hK K'
   try walk_nrm
   clear hs
   refine zo 6 rfl fun K' hK=>?_
   refine wp_append_hsin (.const (.slice none 0 0)) (.tmp 32) rfl rfl (.slice pa Lp pc) f.proof rfl (HPV.out.mv (M3.out.trans hHeld) (fun _ _ h=>h)) (by rw [←HLP.out];exact HPB.out) (fun v6 w6 hown hm=>?_)
   have hs:=hHeld.trans hm
   have OWN6:=zh (owns_mono hown (show w.heap.size≤wA.heap.size by have:=M3.out.size;have:=hHeld.size;omega))
   rw [←HLP.out] at OWN6
   obtain ⟨a6,c6,hs6⟩:=owns_shape OWN6.out
   subst hs6
   have F12b:=zbl hm F12
   clear hm hown
   refine hK.out _ _ hs (fun hHeld=>?_)
   clear hK K'
   try walk_nrm
   clear hs
   refine zo 8 rfl fun K' hK=>?_
   refine wp_store_row 36 (.tmp 12) (.tmp 29) rfl A12 fh.toArray rfl rfl 36 Z F12b.out (by rw [List.size_toArray];exact HIF.out) (HZ.out.trans HFZ.out) HFO.out ?_
   have hs:=hHeld.setRow (.inr (show w3.heap.size≤A12 by have:=HLOW12.out;omega)) fh.toArray
   have r12:=setRow_heap _ _ _ fh.toArray _ _ F12b.out
   have hown:=owns_setRowX OWN6.out A12 fh.toArray F12b.out (by decide)
   generalize w6.setRow A12 fh.toArray=wz at hs r12 hown ⊢
   have R12:=zh r12
   have OWNZ:=zh hown
   clear r12 hown
   refine hK.out _ _ hs (fun hHeld=>?_)
   clear hK K'
   try walk_nrm
   clear hs
   refine zo 9 rfl fun K' hK=>?_
   unfold Oper.wp execOp
   go_simp
   refine hK.out _ _ hHeld (fun hHeld=>?_)
   clear hK K'
   try walk_nrm
   have HZZ:=zh hHeld
   refine zd ?_
   go_wp2_with fail
   go_meet
   exact ⟨A12,_,rfl,rfl,R12.out,OWNZ.out,HA12.out,HZZ.out⟩
 case rest =>
  obtain ⟨A12,pv0,rfl,rfl,r12,hown,hA12,hmc⟩:=hcut
  obtain ⟨wb,rfl⟩:∃ x:World,x=wc:=⟨_,rfl⟩
  have N12:=zh r12
  have HA12:=zh hA12
  have OWN:=zh hown
  have MC:=zh (M3.out.trans hmc)
  have N4:=zbl hmc J4
  have N7:=zbl hmc J7
  have N9:=zbl hmc J9
  have N11:=zbl hmc J11
  clear r12 hown hA12 hmc
  have HID:Hid ((Tryz.prog.info? 36).map (·.size)=some dh.length):=zh (by rw [HDH.out,HeadP.V_len _ HHD.out];exact info36)
  have HID2:Hid ((Tryz.prog.info? 36).map (·.size)=some dh.toArray.size):=zh (by rw [List.size_toArray];exact HID.out)
  have HDZ:Hid (34=dh.toArray.size):=zh (by rw [List.size_toArray,HDH.out,HeadP.V_len _ HHD.out])
  have HDO:Hid (dh.toArray.all (·.oneCell')=true):=zh (by rw [HDH.out];exact head_one _)
  have HCD:Hid (∀ (j:Nat) v,dh[j]?=some v→wb.cell? ⟨A4,76+j,none⟩=some v):=zh fun j v hj=>cell_of_heap N4.out _ (CDH.out j v hj)
  have c75:=cell_of_heap N4.out 75 C75.out
  go_upto_region 3 with fail
  go_step
  go_step
  go_step
  go_step
  go_step
  go_step
  go_step
  go_step
  go_step
  go_step
  go_step
  go_step
  go_step
  go_step
  go_cut [14] (fun s14 wx=>∃ na nc,s14=.slice na ms.length nc∧(∀ w',Mv (fun b=>b=A12) wx w'→FactsIn w' (.slice na ms.length nc) ms)∧Mv (fun _=>False) wb wx)
  case first =>
   go_upto_region 5 with (refine wpList_load_cellsAt rfl 36 (.tmp 36) rfl A4 76 rfl dh _ HCD.out Tryz.underlying36 rfl HID.out ?_;go_upto_region 5 with (refine wpList_store_row rfl 36 _ _ rfl wb.heap.size dh.toArray rfl rfl 36 _ (heap_alloc_new _ _) HID2.out HDZ.out HDO.out ?_))
   obtain ⟨A15,hA15⟩:=zg (wb.heap.size)
   have HW:Hid (∀ Z:Array Value,Mv (fun _=>False) wb ((wb.alloc (.cells Z 36)).setRow wb.heap.size dh.toArray)∧((wb.alloc (.cells Z 36)).setRow wb.heap.size dh.toArray).heap[A15]?=some (.cells dh.toArray 36 (0,0))):=zh fun Z=>⟨((Mv.refl _ _).alloc _).setRow (.inr (Nat.le_refl _)) _,by rw [hA15];exact setRow_heap _ _ _ _ _ _ (heap_alloc_new _ _)⟩
   rw [←hA15]
   generalize hWn:World.setRow _ _ _=w5
   obtain ⟨hmn,hpn⟩:=HW.out _
   rw [←hA15,hWn] at hmn hpn
   have M5:=zh hmn
   have P15:=zh hpn
   have P7:=zbl hmn N7
   have d1:=cell_of_heap hpn 1 (show dh.toArray[1]?=some (.int .i64 hd.n) by rw [HDH.out];rfl)
   have g1:=cell_of_heap P7.out 1 (show gh.toArray[1]?=some (.int .i64 greater.n) by rw [HGH.out];rfl)
   clear hWn hmn hpn HW hA15 c75
   have HMVw:=zh (HMV.out.mv (MC.out.trans M5.out))
   by_cases hlt:hd.n<greater.n
   ·have hms:ms=moves++[linkF greater link]:=by rw [HMS.out];unfold moves2;rw [if_pos hlt]
    have HMS2:=zh hms
    clear hms
    go_upto_region 6 with fail
    have HFL:Hid (∃ ts:List Tri,ts.map (·.1)=moves∧∀ (j:Nat) t,ts[j]?=some t→∃ g off,ma=some ⟨g,off,none⟩∧FactAt w g (off+j * 75) t.1 t.2.1 t.2.2∧GoodT w t):=zh (by
     obtain ⟨a',c',e,_,hj⟩:=HMV.out
     injection e with e1 _ _
     subst e1
     exact tris hj)
    obtain ⟨lk,hlk⟩:=zg ((linkF greater link).cells (.slice la Ll lc) (.slice none 0 0))
    have HLK:=zh hlk
    have HLKL:Hid (lk.length=75):=zh (by rw [hlk];exact FactP.cells_len _ _ _ ⟨rfl,HGR.out⟩)
    have HBL2:Hid (Tryz.prog.built 61 [(6,.agg gh.toArray),(7,.slice la Ll lc)]=some lk.toArray):=zh (by rw [hlk];exact HBL.out)
    have HIG:Hid ((Tryz.prog.info? 36).map (·.size)=some gh.length):=zh (by rw [HGH.out,HeadP.V_len _ HGR.out];exact info36)
    have HGC:Hid (∀ (j:Nat) v,gh[j]?=some v→w5.cell? ⟨A4+1,0+j,none⟩=some v):=zh fun j v hj=>cell_of_heap P7.out _ (by rw [Nat.zero_add];simpa using hj)
    clear hlk d1 g1
    refine wp_region_noPanic ?_
    refine wp_region_held_drew (S:=(fun w'=>Mv (fun _=>False) w5 w')) (by kernel_rfl) ((Mv.refl _ _).drew) (fun hHeld=>?_)
    refine zt 0 (.slice ma Lm mc) rfl (fun _ hS=>by go_simp) hHeld ?_
    try walk_nrm
    refine zt 1 (.slice ma Lm mc) rfl (fun _ hS=>by go_simp) hHeld ?_
    try walk_nrm
    refine zt 2 (.int .i64 Lm) rfl (fun _ hS=>by go_simp) hHeld ?_
    try walk_nrm
    refine zt 3 (.slice ma Lm mc) rfl (fun _ hS=>by go_simp) hHeld ?_
    try walk_nrm
    refine zt 4 (.int .i64 Lm) rfl (fun _ hS=>by go_simp) hHeld ?_
    try walk_nrm
    refine zt 5 (.slice ma Lm Lm) rfl (fun _ hS=>by go_simp;intro hx;have:=HMC.out;omega) hHeld ?_
    try walk_nrm
    refine zj 6 (.agg gh.toArray) rfl (yieldsIf_load_mid (by rfl) 36 _ rfl (A4+1) 0 rfl gh _ (fun _ h=>fun t v hv=>(Mv.cell h (p:=⟨(A4+1),0+t,none⟩) (World.block_lt_of_cell? _ _ (HGC.out t v hv)) id).trans (HGC.out t v hv)) Tryz.underlying36 rfl HIG.out) hHeld ?_
    try walk_nrm
    refine zt 7 (.slice la Ll lc) rfl (fun _ hS=>by go_simp) hHeld ?_
    try walk_nrm
    refine zj 8 (.agg lk.toArray) rfl (yieldsIf_build (by rfl) 61 _ rfl _ (by simp only [List.map_toArray,List.map_cons,List.map_nil];exact HBL2.out)) hHeld ?_
    try walk_nrm
    refine zo 9 rfl fun K' hK=>?_
    refine wp_slice54one (.tmp 51) rfl lk rfl HLKL.out ?_
    have hm:Mv (fun _=>False) w5.drew (w5.drew.alloc (.cells lk.toArray 61)):=(Mv.refl _ _).alloc _
    have hb:(w5.drew.alloc (.cells lk.toArray 61)).heap[w5.drew.heap.size]?=some (.cells lk.toArray 61 (0,0)):=heap_alloc_new _ _
    obtain ⟨A16,hA16⟩:=zg (w5.drew.heap.size)
    rw [←hA16] at hb ⊢
    generalize w5.drew.alloc (.cells lk.toArray 61)=w6 at hm hb ⊢
    have F16:=zh hb
    have hs:=hHeld.trans hm
    clear hm hb hA16
    refine hK.out _ _ hs (fun hHeld=>?_)
    clear hK K'
    try walk_nrm
    clear hs
    refine zo 10 rfl fun K' hK=>?_
    obtain ⟨ts,hts1,hts2⟩:=HFL.out
    have HMVA:=zh (MC.out.trans (M5.out.trans hHeld))
    refine wp_append_moves (.tmp 48) (.tmp 52) rfl ma Lm ts (by rw [HLM.out,←hts1,List.length_map]) rfl (fun j t ht=>?_) A16 (linkF greater link,.slice la Ll lc,.slice none 0 0) rfl (by rw [show tcells (linkF greater link,.slice la Ll lc,.slice none 0 0)=lk from HLK.out.symm];exact F16.out) ⟨rfl,HGR.out⟩ (fun u hu=>?_) hml (fun v' w7 hown hm=>?_)
    ·obtain ⟨g,off,e,hat,hg⟩:=hts2 j t ht
     exact ⟨g,off,e,hat.mv HMVA.out id,hg.mv HMVA.out⟩
    ·have:=fact_one (linkF greater link) la none Ll 0 lc 0
     rw [List.all_toArray] at this
     exact List.all_eq_true.1 this u hu
    have hs:=hHeld.trans hm
    have OWN7:=zh (owns_mono hown (show 0≤w6.heap.size from Nat.zero_le _))
    have M7:=zh (M5.out.trans hs)
    have MA7:=zh (MC.out.trans M7.out)
    have N12b:=zbl M7.out N12
    obtain ⟨na,nc,hsh⟩:=owns_shape hown
    subst hsh
    have HN1:Hid (Lm+1=ms.length):=zh (by rw [HMS2.out,List.length_append,HLM.out];rfl)
    have HCL:Hid (∀ w',Mv (fun b=>b=A12) w7 w'→FactsIn w' (.slice na (Lm+1) nc) ms):=zh fun w' hmw=>by
     have hmw0:Mv (fun _=>False) w w':=MA7.out.trans' hmw (fun i hi e=>by have:=HA12.out;omega)
     have ho:=owns_mvE (E:=36) OWN7.out hmw (fun b e _=>⟨fh.toArray,by rw [e];exact N12b.out⟩) (by decide)
     have hlen:(ts++[((linkF greater link,.slice la Ll lc,.slice none 0 0):Tri)]).length=Lm+1:=by rw [List.length_append,HLM.out,←hts1,List.length_map];rfl
     rw [←hlen] at ho
     have hr:=FactsIn.of_owns (wr:=w') (fun t ht=>?_) ho
     ·rw [List.map_append,hts1,hlen] at hr
      rw [HMS2.out];exact hr
     ·rcases List.mem_append.1 ht with ht|ht
      ·obtain ⟨j,hj⟩:=List.mem_iff_getElem?.1 ht
       obtain ⟨_,_,_,_,hg⟩:=hts2 j t hj
       exact hg.mv hmw0
      ·have e:=List.mem_singleton.1 ht
       subst e
       exact ⟨⟨rfl,HGR.out⟩,⟨Nat.zero_le _,by show link.length≤_;rw [←HLL.out];exact hll⟩,by show HsIn w' (.slice la Ll lc) link;exact HLV.out.mv hmw0 (fun _ _ h=>h),.inl ⟨rfl,rfl⟩⟩
    clear hown hm
    refine hK.out _ _ hs (fun hHeld=>?_)
    clear hK K'
    try walk_nrm
    clear hs
    refine zt 11 (.slice na (Lm+1) nc) rfl (fun _ hS=>by go_simp) hHeld ?_
    try walk_nrm
    refine zd ?_
    go_wp2_with fail
    go_meet
    rw [←HN1.out]
    exact ⟨na,nc,rfl,HCL.out,M7.out⟩
   ·have hms:ms=moves:=by rw [HMS.out];unfold moves2;rw [if_neg hlt]
    have HMS2:=zh hms
    clear hms
    have HCL:Hid (∀ w',Mv (fun b=>b=A12) w5 w'→FactsIn w' (.slice ma ms.length mc) ms):=zh fun w' hmw=>by
     have hmw0:Mv (fun _=>False) w w':=(MC.out.trans M5.out).trans' hmw (fun i hi e=>by have:=HA12.out;omega)
     rw [HMS2.out,←HLM.out]
     exact HMV.out.mv hmw0
    have HLMS:Hid (Lm=ms.length):=zh (by rw [HMS2.out];exact HLM.out)
    go_wp2_with fail
    go_meet
    rw [←HLMS.out] at HCL ⊢
    exact ⟨ma,mc,rfl,HCL.out,M5.out⟩
  case rest =>
   obtain ⟨na,nc,rfl,hcl,hmd⟩:=hcut
   obtain ⟨wd,rfl⟩:∃ x:World,x=wc:=⟨_,rfl⟩
   have HCL:=zh hcl
   have MD:=zh (MC.out.trans hmd)
   have Q4:=zbl hmd N4
   have Q9:=zbl hmd N9
   have Q11:=zbl hmd N11
   have Q12:=zbl hmd N12
   have OWD:=zh (owns_mv OWN.out hmd (fun _ _ _ h=>h))
   clear hcl hmd
   obtain ⟨pa0,pc0,hsh⟩:=owns_shape OWD.out
   subst hsh
   obtain ⟨N,hN⟩:=zg (ms.length)
   have HNN:=zh hN
   rw [←hN] at HCL ⊢
   have hNb:N≤1048577:=by
    have e:=HLM.out
    rw [hN,HMS.out]
    unfold moves2
    split
    ·rw [List.length_append];show moves.length+1≤_;omega
    ·omega
   have HNB:=zh hNb
   clear hN
   have E4:Hid (A4≠A12):=zh (fun e=>by have h1:=Q4.out;have h2:=Q12.out;rw [e,h2] at h1;injection h1 with h1;injection h1 with _ h1 _;exact absurd h1 (by decide))
   have E9:Hid (A4+1+1≠A12):=zh (fun e=>by have h1:=Q9.out;have h2:=Q12.out;rw [e,h2] at h1;injection h1 with h1;injection h1 with _ h1 _;exact absurd h1 (by decide))
   have E11:Hid (A11≠A12):=zh (fun e=>by have h1:=Q11.out;have h2:=Q12.out;rw [e,h2] at h1;injection h1 with h1;injection h1 with _ h1 _;exact absurd h1 (by decide))
   go_wp2_with fail
   go_loopw [13,56] (fun s13 s56 wr=>∃ (j:Nat) (hc:HeadP) (cp:List Bs) (pa2:Option Addr) (pc2:Nat),j≤N∧s56=.int .i64 j∧s13=.slice pa2 cp.length pc2∧wr.ownsRow w.heap.size 34 32 (.slice pa2 cp.length pc2) cp.length (hsV cp)∧wr.heap[A12]?=some (.cells hc.V.toArray 36 (0,0))∧RecOk k i lf hc cp∧treesP k (ms.drop j) hc∧liftedP k i lf (ms.drop j) hc cp=liftedP k i lf ms f.head f.proof∧Mv (fun b=>b=A12) wd wr) (fun _ s56 _=>N - (intOf s56).toNat)
   case atStart=>exact ⟨0,f.head,f.proof,pa0,pc0,by omega,rfl,by rw [←HLP.out],by rw [←HLP.out];exact OWD.out,by rw [←HFH.out];exact Q12.out,HREC.out,by rw [List.drop_zero];exact HTR.out,by rw [List.drop_zero],Mv.refl _ _⟩
   case round =>
    obtain ⟨j,hc,cp,pa2,pc2,hj,rfl,rfl,hown,h12,hrok,htrs,hlif,hmw⟩:=hrel
    have OWR:=zh hown
    have R12:=zh h12
    have RK:=zh hrok
    have TS:=zh htrs
    have LI:=zh hlif
    have MW:=zh hmw
    have R4:=zh ((hmw.block A4 (lt_of_heap Q4.out) E4.out).trans Q4.out)
    have R9:=zh ((hmw.block (A4+1+1) (lt_of_heap Q9.out) E9.out).trans Q9.out)
    have R11:=zh ((hmw.block A11 (lt_of_heap Q11.out) E11.out).trans Q11.out)
    have MWW:Hid (Mv (fun _=>False) w wr):=zh (MD.out.trans' hmw (fun i hi e=>by have:=HA12.out;omega))
    obtain ⟨Lc,hLc⟩:=zg (cp.length)
    have HLC2:=zh hLc
    rw [←hLc] at OWR ⊢
    clear hown h12 hrok htrs hlif hmw hLc
    by_cases hjn:j<N
    ·obtain ⟨m,hm⟩:∃ m,ms[j]?=some m:=⟨ms[j]'(by rw [←HNN.out];exact hjn),List.getElem?_eq_getElem _⟩
     obtain ⟨a',c',e,hcc,hfj⟩:=HCL.out wr MW.out
     injection e with e1 e2 e3
     subst e1 e3
     clear e2
     obtain ⟨g,off,e,ok,sm,mpv,mnv,hat,hmp,hmn⟩:=hfj j m hm
     subst e
     have hdrop:ms.drop j=m :: ms.drop (j+1):=by obtain ⟨h1,h2⟩:=List.getElem?_eq_some_iff.1 hm;rw [List.drop_eq_getElem_cons h1,h2]
     have htk:TreeOk k m hc∧treesP k (ms.drop (j+1)) m.head:=by have:=TS.out;rw [hdrop] at this;exact this
     have HTK:=zh htk.1
     have HT2:=zh htk.2
     have HLS:Hid (liftedP k i lf (ms.drop j) hc cp=match liftD k m.head.n.toNat hc.n.toNat i hc.root lf cp m.proof with|some xy=>.inr xy|none=>liftedP k i lf (ms.drop (j+1)) m.head (liftL k m.head.n.toNat hc.n.toNat i hc.root cp m.proof)):=zh (by rw [hdrop];rfl)
     obtain ⟨cn,hcn⟩:∃ x:Nat,x=hc.n.toNat:=⟨_,rfl⟩
     obtain ⟨un,hun⟩:∃ x:Nat,x=m.head.n.toNat:=⟨_,rfl⟩
     have hcn2:hc.n=(cn:Int):=by have:=RK.out.nb;omega
     have hun2:m.head.n=(un:Int):=by have:=RK.out.nb;have:=htk.1.nb;omega
     rw [←hcn,←hun] at HLS
     obtain ⟨fc,hfc⟩:=zg (m.cells mpv mnv)
     have hfcl:fc.length=75:=by rw [hfc];exact FactP.cells_len _ _ _ ok
     obtain ⟨mpa,mpc,hmsh⟩:=hmp.shape
     obtain ⟨mna,mnc,hnsh⟩:=hmn.shape
     subst hmsh hnsh
     have HFC:Hid (∀ (u:Nat) v,fc[u]?=some v→wr.cell? ⟨g,off+j * 75+u,none⟩=some v):=zh fun u v hu=>hat u v (by rw [←hfc];exact hu)
     have HONE2:Hid (fc.toArray.all (·.oneCell')=true):=zh (by rw [hfc];exact fact_one _ _ _ _ _ _ _)
     have HI61b:Hid ((Tryz.prog.info? 61).map (·.size)=some fc.length):=zh (by rw [hfcl];exact info61)
     have HI61c:Hid ((Tryz.prog.info? 61).map (·.size)=some fc.toArray.size):=zh (by rw [List.size_toArray,hfcl];exact info61)
     have HZZ:Hid (75=fc.toArray.size):=zh (by rw [List.size_toArray,hfcl])
     obtain ⟨mh,hmh⟩:=zg (m.head.V)
     have hmhl:mh.length=34:=by rw [hmh];exact HeadP.V_len _ ok.h
     obtain ⟨mr,hmr⟩:=zg (m.head.root.map byteV)
     obtain ⟨cr,hcr⟩:=zg (hc.root.map byteV)
     have HF40:Hid (fc[40]?=some (.int .i64 un)):=zh (by rw [hfc,←hun2];exact FactP.chead m _ _ ok 1 _ rfl)
     have HF73:Hid (fc[73]?=some (.slice mpa m.proof.length mpc)):=zh (by rw [hfc];exact FactP.c73 m _ _ ok)
     have HF41:Hid (∀ (t:Nat) u,mr[t]?=some u→fc[41+t]?=some u):=zh fun t u hu=>by rw [hfc,show 41+t=39+(2+t) by omega];refine FactP.chead m _ _ ok (2+t) u ?_;rw [show 2+t=t+1+1 by omega];rw [hmr] at hu;exact hu
     have HF39:Hid (∀ (t:Nat) u,mh[t]?=some u→fc[39+t]?=some u):=zh fun t u hu=>by rw [hfc];exact FactP.chead m _ _ ok t u (by rw [←hmh];exact hu)
     obtain ⟨_,hc1,hc2⟩:=head_cells R12.out
     rw [hcn2] at hc1
     rw [←hcr] at hc2
     have HC1:=zh hc1
     have HC2:=zh hc2
     have HMR:Hid ((Tryz.prog.info? 34).map (·.size)=some mr.length):=zh (by rw [hmr,List.length_map,ok.h];exact info34)
     have HCR:Hid ((Tryz.prog.info? 34).map (·.size)=some cr.length):=zh (by rw [hcr,List.length_map,RK.out.root];exact info34)
     have HMHI:Hid ((Tryz.prog.info? 36).map (·.size)=some mh.length):=zh (by rw [hmhl];exact info36)
     have HMHI2:Hid ((Tryz.prog.info? 36).map (·.size)=some mh.toArray.size):=zh (by rw [List.size_toArray,hmhl];exact info36)
     have HMHZ:Hid (hc.V.toArray.size=mh.toArray.size):=zh (by rw [List.size_toArray,List.size_toArray,hmhl,HeadP.V_len _ RK.out.root])
     have HMHO:Hid (mh.toArray.all (·.oneCell')=true):=zh (by rw [hmh];exact head_one _)
     have HRV:Hid (hashV hc.root=.agg cr.toArray):=zh (by rw [hcr];rfl)
     have HMV2:Hid (hashV m.head.root=.agg mr.toArray):=zh (by rw [hmr];rfl)
     have HPRF:=zh hmp
     have HOKM:=zh ok
     have HMH:=zh hmh
     have HCN:=zh hcn2
     have HUN:=zh hun2
     have HCNN:=zh hcn
     have HUNN:=zh hun
     have HLIFT:Hid (∀ W,Mv (fun _=>False) wr W→Calls Tryz.prog 147 #[.int .i64 k,.int .i64 cn,.agg cr.toArray,.int .i64 i,.agg lc2,.slice pa2 Lc pc2,.int .i64 un,.agg mr.toArray,.slice mpa m.proof.length mpc] W fun e w'=>∃ lv pv c,e=.returned (.tuple #[lv,.agg pv,.int .i64 c])∧Mv (fun _=>False) W w'∧LiftRes k un cn i hc.root lf cp m.proof W w' lv pv c):=zh fun W hW=>by
      rw [←HRV.out,←HMV2.out,←HLC.out]
      have q1:=RK.out
      have q2:=HTK.out
      have q3:=q1.nb
      have q4:=q1.il
      have q5:=q2.nb
      have s1:=q1.len
      have s2:=q2.len
      have s3:=q1.sum
      have s4:=q2.sum
      have s5:=q2.old
      rw [←HCNN.out] at s1 s2 s3 s4 s5
      rw [←HUNN.out] at s2 s4 s5
      refine lift_any k _ _ cp m.proof cn i un hc.root lf m.head.root W ?_ ?_ (by have:=HUN.out;omega) (by have:=HCN.out;omega) (by have:=HUN.out;have:=HCN.out;omega) q1.root HL32.out HOKM.out.h s1 s2 q1.b32 q2.b32 s3 s4 s5 (HE.out.mv (MWW.out.trans hW) (fun _ h=>h.elim))
      ·have:=OWR.out
       rw [HLC2.out] at this ⊢
       exact (HsIn.of_owns q1.b32 this).mv hW (fun _ _ h=>h)
      ·exact HPRF.out.mv hW (fun _ _ h=>h)
     have HPL:Hid (m.proof.length≤1048576):=zh sm.p
     obtain ⟨Lq,hLq⟩:=zg (m.proof.length)
     rw [←hLq] at HF73 HLIFT HPL HPRF
     have HLQ:=zh hLq
     have hnc2:N≤nc:=by have:=HNN.out;omega
     clear hm hcc hfj hat hmp hmn hdrop htk hcn hun hcn2 hun2 hfc hfcl hmh hmhl hmr hcr hc1 hc2 ok sm hLq
     go_upto_region 10 with (refine wpList_load_cellsAt rfl 61 (.tmp 58) rfl g (off+j * 75) rfl fc _ HFC.out Tryz.underlying61 rfl HI61b.out ?_;go_upto_region 10 with (refine wpList_store_row rfl 61 _ _ rfl wr.heap.size fc.toArray rfl rfl 61 _ (heap_alloc_new _ _) HI61c.out HZZ.out HONE2.out ?_))
     obtain ⟨A17,hA17⟩:=zg (wr.heap.size)
     have HX:Hid (∀ Z:Array Value,((wr.alloc (.cells Z 61)).setRow wr.heap.size fc.toArray).heap[A17]?=some (.cells fc.toArray 61 (0,0))∧Mv (fun _=>False) wr ((wr.alloc (.cells Z 61)).setRow wr.heap.size fc.toArray)):=zh fun Z=>⟨by rw [hA17];exact setRow_heap _ _ _ _ _ _ (heap_alloc_new _ _),((Mv.refl _ _).alloc _).setRow (.inr (Nat.le_refl _)) _⟩
     rw [←hA17]
     generalize hW:World.setRow _ _ _=v5
     obtain ⟨h17,hm5⟩:=HX.out _
     rw [←hA17,hW] at h17 hm5
     have V17:=zh h17
     have VM:=zh hm5
     have V4:=zbl hm5 R4
     have V9:=zbl hm5 R9
     have V11:=zbl hm5 R11
     have V12:=zbl hm5 R12
     have hc1:v5.cell? ⟨A12,1,none⟩=some (.int .i64 cn):=(hm5.cell (p:=⟨A12,1,none⟩) (lt_of_heap R12.out) id).trans HC1.out
     have VC2:Hid (∀ (t:Nat) u,cr[t]?=some u→v5.cell? ⟨A12,2+t,none⟩=some u):=zh fun t u hu=>(hm5.cell (p:=⟨A12,2+t,none⟩) (lt_of_heap R12.out) id).trans (HC2.out t u hu)
     have h3:=cell_of_heap V4.out 3 CID.out
     have h40:=cell_of_heap h17 40 (by rw [List.getElem?_toArray];exact HF40.out)
     have h73:=cell_of_heap h17 73 (by rw [List.getElem?_toArray];exact HF73.out)
     have VF41:Hid (∀ (t:Nat) u,mr[t]?=some u→v5.cell? ⟨A17,41+t,none⟩=some u):=zh fun t u hu=>cell_of_heap V17.out (41+t) (by rw [List.getElem?_toArray];exact HF41.out t u hu)
     clear HX hW hA17 h17 hm5
     go_upto_region 11 with ((refine wpList_load_cellsAt rfl 34 (.tmp 64) rfl A12 2 rfl cr _ VC2.out Tryz.underlying34 rfl HCR.out ?_);go_upto_region 11 with ((refine wpList_load_row rfl 34 (.tmp 11) rfl A11 rfl 34 lc2 (0,0) _ V11.out Tryz.underlying34 rfl HI34.out ?_);go_upto_region 11 with ((refine wpList_load_cellsAt rfl 34 (.tmp 75) rfl A17 41 rfl mr _ VF41.out Tryz.underlying34 rfl HMR.out ?_);go_upto_region 11 with (go_at_call 147;refine (HLIFT.out _ VM.out).mono ?_;rintro e v6 ⟨lv,pv,ce,rfl,hm,hres⟩;have HRES:=zh hres;have VM6:=zh hm;have HPI:=zh (lift_info hres);clear hm hres;go_upto_region 11 with (refine wpList_store_row rfl 33 _ _ rfl v6.heap.size pv rfl rfl 33 _ (heap_alloc_new _ _) HPI.out.1 HPI.out.2.1 HPI.out.2.2 ?_)))))
     obtain ⟨A19,hA19⟩:=zg (v6.heap.size)
     have HX:Hid (∀ Z:Array Value,((v6.alloc (.cells Z 33)).setRow v6.heap.size pv).heap[A19]?=some (.cells pv 33 (0,0))∧Mv (fun _=>False) v6 ((v6.alloc (.cells Z 33)).setRow v6.heap.size pv)):=zh fun Z=>⟨by rw [hA19];exact setRow_heap _ _ _ _ _ _ (heap_alloc_new _ _),((Mv.refl _ _).alloc _).setRow (.inr (Nat.le_refl _)) _⟩
     rw [←hA19]
     generalize hW:World.setRow _ _ _=v7
     obtain ⟨h19,hm7⟩:=HX.out _
     rw [←hA19,hW] at h19 hm7
     have U19:=zh h19
     have UM:=zh hm7
     have UM5:=zh (VM6.out.trans hm7)
     have UMR:=zh (VM.out.trans (VM6.out.trans hm7))
     have U9:=zbl UM5.out V9
     have U12:=zbl UM5.out V12
     have U17:=zbl UM5.out V17
     have UF39:Hid (∀ (t:Nat) u,mh[t]?=some u→v7.cell? ⟨A17,39+t,none⟩=some u):=zh fun t u hu=>cell_of_heap U17.out (39+t) (by rw [List.getElem?_toArray];exact HF39.out t u hu)
     clear HX hW hA19 h19 hm7 hc1 h3 h40 h73 HPI HLIFT
     have hres:=HRES.out
     unfold LiftRes at hres
     cases hd:liftD k un cn i hc.root lf cp m.proof with
     | some xy =>
      obtain ⟨x,y⟩:=xy
      rw [hd] at hres
      obtain ⟨rfl,rfl,pu,pq,rfl,ho1,ho2⟩:=hres
      obtain ⟨a1,a2,hsh⟩:=owns_shape ho1
      subst hsh
      obtain ⟨a3,a4,hsh⟩:=owns_shape ho2
      subst hsh
      have HO1:=zh ho1
      have HO2:=zh ho2
      have HD:=zh hd
      have p0:=cell_of_heap U19.out 0 rfl
      have p1:=cell_of_heap U19.out 1 rfl
      have r0:=cell_of_heap U9.out 0 rfl
      have r1:=cell_of_heap U9.out 1 rfl
      have z0:=free_of_heap U9.out 0
      have z1:=free_of_heap U9.out 1
      have HLT:Hid (A4+1+1<v6.heap.size):=zh (Nat.lt_of_lt_of_le (lt_of_heap V9.out) VM6.out.size)
      clear ho1 ho2 hd HRES
      go_upto_region 12 with fail
      go_region
      all_goals go_wp2_with fail
      all_goals
       refine bodyPost_ret (results_tct (fn:=Tryz.f100) rfl _ _ (A4+1+1) 33 #[.slice a1 x.length a2,.slice a3 y.length a4] (.slice none 0 0) (.int .i64 93) _ rfl rfl rfl ?hg Tryz.underlying33 rfl info33) rfl ?hp
       case hg=>exact (heap_setCell_same (heap_setCell_same U9.out _) _).trans rfl
       case hp =>
        have hlow:w.heap.size≤A4+1+1:=by have:=HA4.out;omega
        refine ⟨(((MWW.out.trans UMR.out).setCell (.inr hlow) _).setCell (.inr hlow) _).drew,?_⟩
        unfold LiftedRes
        rw [←LI.out,HLS.out,HD.out]
        have hbs:w.heap.size≤v5.heap.size:=by have:=MWW.out.size;have:=VM.out.size;omega
        refine ⟨_,rfl,_,_,rfl,owns_mono ?_ hbs,owns_mono ?_ hbs⟩
        ·exact owns_cells (owns_mv HO1.out UM.out (fun _ _ _ h=>h)) U9.out (by decide)
        ·exact owns_cells (owns_mv HO2.out UM.out (fun _ _ _ h=>h)) U9.out (by decide)
     | none =>
      rw [hd] at hres
      obtain ⟨rfl,rfl,ho⟩:=hres
      obtain ⟨la2,lc3,hsh⟩:=owns_shape ho
      subst hsh
      have HO:=zh ho
      have HD:=zh hd
      clear ho hd HRES
      go_wp2_with ((refine wpList_load_cellsAt rfl 36 (.tmp 87) rfl A17 39 rfl mh _ UF39.out Tryz.underlying36 rfl HMHI.out ?_);go_wp2_with ((refine wpList_store_row rfl 36 _ _ rfl A12 mh.toArray rfl rfl 36 _ U12.out HMHI2.out HMHZ.out HMHO.out ?_)))
      have hset:Mv (fun b=>b=A12) v7 (v7.setRow A12 mh.toArray):=(Mv.refl (fun b=>b=A12) _).setRow (.inl rfl) _
      have hlq:(liftL k un cn i hc.root cp m.proof).length=(wayRec un i).length:=by unfold liftL;rw [List.length_map]
      have hstep:=lift_step HL32.out RK.out HTK.out
      rw [←HCNN.out,←HUNN.out,HD.out] at hstep
      have hbs:w.heap.size≤v5.heap.size:=by have:=MWW.out.size;have:=VM.out.size;omega
      have hown:=owns_mono (owns_mvE (E:=36) (owns_mv HO.out UM.out (fun _ _ _ h=>h)) hset (fun b e _=>⟨hc.V.toArray,by rw [e];exact U12.out⟩) (by decide)) hbs
      rw [←hlq] at hown
      go_roundw
      case measure=>simp [intOf];omega
      case rel =>
       refine ⟨j+1,m.head,liftL k un cn i hc.root cp m.proof,la2,lc3,by omega,by go_num,by rw [hlq],hown,?_,hstep,HT2.out,?_,(MW.out.trans (UMR.out.mono (fun _ _ h=>h.elim))).trans hset⟩
       ·rw [←HMH.out];exact setRow_heap _ _ _ _ _ _ U12.out
       ·rw [←LI.out,HLS.out,HD.out]
    ·have hjN:N=j:=by omega
     subst hjN
     have r0:=cell_of_heap R9.out 0 rfl
     have r1:=cell_of_heap R9.out 1 rfl
     have z0:=free_of_heap R9.out 0
     have z1:=free_of_heap R9.out 1
     go_wp2_with fail
     refine bodyPost_ret (results_tct (fn:=Tryz.f100) rfl _ _ (A4+1+1) 33 noPair (.slice pa2 Lc pc2) (.int .i64 0) _ rfl rfl rfl ?hg Tryz.underlying33 rfl info33) rfl ?hp
     case hg=>exact (heap_setCell_same (heap_setCell_same R9.out _) _).trans rfl
     case hp =>
      have hlow:w.heap.size≤A4+1+1:=by have:=HA4.out;omega
      refine ⟨((MWW.out).setCell (.inr hlow) _).setCell (.inr hlow) _,?_⟩
      unfold LiftedRes
      rw [←LI.out,show ms.drop N=[] by rw [HNN.out];exact List.drop_length]
      refine ⟨_,rfl,?_⟩
      rw [←HLC2.out]
      exact owns_cells OWR.out R9.out (by decide)
theorem wpList_build {ops:Array Oper} {rest:List Oper} {o:Oper} {a:Act} {w:World} {Q:Exit→Act→World→Prop} (hgd:o.guard=none) (t:TypeId) (parts:Array (Nat × Operand)) (ho:o.op=.build t parts) (cells:Array Value)
  (hf:Tryz.prog.built t (parts.map fun (i,x)=>(i,a.eval x)).toList=some cells) (h:wpList Tryz.prog ops Q rest (a.put o.dst (.agg cells)) w):wpList Tryz.prog ops Q (o :: rest) a w :=
 wpList_plain hgd fun K hK=>by
  unfold Oper.wp execOp
  simp only [ho,Sem.run_bind,run_build w t _ cells hf,Result.andThen_ok,Sem.run_pure]
  exact hK _ _ h
def LiftV (R:List Bs ⊕ (Bs × Bs)) (W w':World) (v:Value) (pr:Array Value) (c:Int):Prop :=
 match R with
 | .inl q=>c=0∧pr=noPair∧w'.ownsRow W.heap.size 34 32 v q.length (hsV q)
 | .inr (x,y)=>c=93∧v=.slice none 0 0∧PairOwn w' W.heap.size pr x y
theorem LiftedRes.shape {k:Int} {i:Nat} {leaf:Bs} {L:List FactP} {h:HeadP} {p:List Bs} {w w':World} {e:Ending} (H:LiftedRes k i leaf L h p w w' e):∃ v pr c,e=.returned (.tuple #[v,.agg pr,.int .i64 c])∧LiftV (liftedP k i leaf L h p) w w' v pr c:=by
 unfold LiftedRes at H
 unfold LiftV
 cases hR:liftedP k i leaf L h p with
 | inl q=>rw [hR] at H;obtain ⟨v,rfl,ho⟩:=H;exact ⟨v,_,_,rfl,rfl,rfl,ho⟩
 | inr xy=>obtain ⟨x,y⟩:=xy;rw [hR] at H;obtain ⟨pr,rfl,ho⟩:=H;exact ⟨_,pr,_,rfl,rfl,rfl,ho⟩
theorem LiftV.info {R:List Bs ⊕ (Bs × Bs)} {W w':World} {v:Value} {pr:Array Value} {c:Int} (h:LiftV R W w' v pr c):(Tryz.prog.info? 33).map (·.size)=some pr.size∧2=pr.size∧pr.all (·.oneCell')=true:=by
 unfold LiftV at h
 split at h
 ·obtain ⟨_,rfl,_⟩:=h
  exact ⟨info33,rfl,two_slices _ _ _ _ _ _⟩
 ·obtain ⟨_,_,pu,pq,rfl,ho1,ho2⟩:=h
  obtain ⟨a1,a2,rfl⟩:=owns_shape ho1
  obtain ⟨a3,a4,rfl⟩:=owns_shape ho2
  exact ⟨info33,rfl,two_slices _ _ _ _ _ _⟩
theorem pair_own_info {w:World} {B:Nat} {pv:Array Value} {x y:Bs} (h:PairOwn w B pv x y):(Tryz.prog.info? 33).map (·.size)=some pv.size∧2=pv.size∧pv.all (·.oneCell')=true:=by
 obtain ⟨pu,pq,rfl,ho1,ho2⟩:=h
 obtain ⟨a1,a2,rfl⟩:=owns_shape ho1
 obtain ⟨a3,a4,rfl⟩:=owns_shape ho2
 exact ⟨info33,rfl,two_slices _ _ _ _ _ _⟩
theorem isOf_small {l p v:Bs} (h:isOfP l p v=true):l.length≤1024:=by
 unfold isOfP recP at h
 by_cases hl:l.length≤1024∧l.count 10=2∧Lib.hasSuffix l [10]=true
 ·exact hl.1
 ·rw [if_neg hl] at h;simp at h
def JudgedQ (k:Int) (f1 f2:FactP) (g:HeadP) (R1 R2:List Bs ⊕ (Bs × Bs)) (V:VerdP):Prop :=
 match R1 with
 | .inr (u,v)=>V=.pair u v
 | .inl pa=>match R2 with
  | .inr (u,v)=>V=.pair u v
  | .inl pb=>if f1.id=f2.id then ∃ u v,V=.pair u v∧Pairs k u v else if f1.id<f2.id then V=.twice g f1.id f2.id f1.rcd f2.rcd pa pb else V=.twice g f2.id f1.id f2.rcd f1.rcd pb pa
theorem sideC_size {f:FactP} {pv nv mv:Value} {h:HeadP} (ok:f.Ok) (hh:h.root.length=32):(sideC f pv nv mv h).size=110:=by unfold sideC;simp [FactP.cells_len _ _ _ ok,HeadP.V_len _ hh]
theorem verL_swap (hl:List Value) (i j:Int) (a b:ByteArray) (va vb:Value) (h:hl.length=34) :
  ((((((verL 2 nilV nilV hl i j a b va vb).toArray.setIfInBounds 37 (.int .i64 j)).setIfInBounds 38 (.int .i64 i)).setIfInBounds 39 (.string b)).setIfInBounds 40 (.string a)).setIfInBounds 41 vb).setIfInBounds 42 va=(verL 2 nilV nilV hl j i b a vb va).toArray:=by
 simp [verL,h,List.set_append]
set_option maxRecDepth 100000 in
set_option maxHeartbeats 6400000 in
theorem judged_any (k:Int) (f1 f2:FactP) (pv1 nv1 mv1 pv2 nv2 mv2 lv:Value) (x y:HeadP) (link:List Bs) (m1 m2:List FactP) (path ver:Bs) (w:World)
  (hp1:HsIn w pv1 f1.proof) (hn1:SlIn w nv1 f1.note) (hm1:FactsIn w mv1 m1) (hp2:HsIn w pv2 f2.proof) (hn2:SlIn w nv2 f2.note) (hm2:FactsIn w mv2 m2) (hl:HsIn w lv link) (b1:m1.length≤1048576) (b2:m2.length≤1048576) (bl:link.length≤1048576)
  (s1:SideOk k path ver f1 m1 x) (s2:SideOk k path ver f2 m2 y) (hx:x.root.length=32) (hy:y.root.length=32) (hlk:linkedP k link x y=true) (hne:f1.rcd.data.toList≠f2.rcd.data.toList) (he:EnvH w) :
  Calls Tryz.prog 59 #[.int .i64 k,.agg (sideC f1 pv1 nv1 mv1 x),.agg (sideC f2 pv2 nv2 mv2 y),lv] w fun e w'=>∃ V cs,e=.returned (.tuple #[.agg cs,.int .i64 0])∧JudgedR k f1 f2 m1 m2 x y link V∧VerOwn w' w.heap.size cs V∧Mv (fun _=>False) w w':=by
 obtain ⟨g1,g2,g3,g4⟩:=greater_law hx hy hl.len32 hlk
 have l1:=s1.lift g1 g3
 have l2:=s2.lift g2 g4
 obtain ⟨g,hg⟩:=zg (greaterP x y)
 have hgr:g.root.length=32:=by rw [hg];unfold greaterP;split <;> assumption
 rw [←hg] at g1 g2 g3 g4 l1 l2
 have t1:=(s1.two g1 g3).1
 have t2:=(s2.two g2 g4).1
 obtain ⟨i1,hi1⟩:∃ i:Nat,f1.id=i:=⟨f1.id.toNat,by have:=s1.id;omega⟩
 obtain ⟨i2,hi2⟩:∃ i:Nat,f2.id=i:=⟨f2.id.toNat,by have:=s2.id;omega⟩
 have et1:f1.id.toNat=i1:=by omega
 have et2:f2.id.toNat=i2:=by omega
 have q1:=s1.proof
 have q2:=s2.proof
 rw [et1] at q1 l1
 rw [et2] at q2 l2
 obtain ⟨R1,hR1⟩:=zg (liftSide k f1 m1 x g link)
 obtain ⟨R2,hR2⟩:=zg (liftSide k f2 m2 y g link)
 have HL1:=zh l1
 have HL2:=zh l2
 rw [←hR1] at HL1
 rw [←hR2] at HL2
 have HJR:Hid (∀ V,JudgedQ k f1 f2 g R1 R2 V→JudgedR k f1 f2 m1 m2 x y link V):=zh fun V h=>by
  unfold JudgedQ at h
  unfold JudgedR
  rw [←hg,←hR1,←hR2]
  exact h
 obtain ⟨sc1,hsc1⟩:=zg (sideC f1 pv1 nv1 mv1 x)
 obtain ⟨sc2,hsc2⟩:=zg (sideC f2 pv2 nv2 mv2 y)
 obtain ⟨gv,hgv⟩:=zg (g.V.toArray)
 obtain ⟨la,lc,hlsh⟩:=hl.shape
 subst hlsh
 obtain ⟨Ll,hLl⟩:=zg (link.length)
 have HC1:Hid (∀ W,Mv (fun _=>False) w W→Calls Tryz.prog 100 #[.agg sc1,.int .i64 k,.slice la Ll lc,.agg gv] W fun e w'=>∃ v pr c,e=.returned (.tuple #[v,.agg pr,.int .i64 c])∧LiftV R1 W w' v pr c∧Mv (fun _=>False) W w'):=zh fun W hW=>by
  rw [hsc1,hgv,hLl]
  refine (lifted_any k f1 pv1 nv1 mv1 _ x g link m1 i1 W (hp1.mv hW (fun _ _ h=>h)) (hn1.mv hW (fun _ _ h=>h)) (hm1.mv hW) (hl.mv hW (fun _ _ h=>h)) b1 bl s1.whole.ok hx hgr hi1 s1.whole.sm.r q1 t1 (he.mv hW (fun _ h=>h.elim))).mono ?_
  rintro e w' ⟨hm,hr⟩
  obtain ⟨v,pr,c,h1,h2⟩:=hr.shape
  refine ⟨v,pr,c,h1,?_,hm⟩
  rw [hR1];unfold liftSide;rw [et1];exact h2
 have HC2:Hid (∀ W,Mv (fun _=>False) w W→Calls Tryz.prog 100 #[.agg sc2,.int .i64 k,.slice la Ll lc,.agg gv] W fun e w'=>∃ v pr c,e=.returned (.tuple #[v,.agg pr,.int .i64 c])∧LiftV R2 W w' v pr c∧Mv (fun _=>False) W w'):=zh fun W hW=>by
  rw [hsc2,hgv,hLl]
  refine (lifted_any k f2 pv2 nv2 mv2 _ y g link m2 i2 W (hp2.mv hW (fun _ _ h=>h)) (hn2.mv hW (fun _ _ h=>h)) (hm2.mv hW) (hl.mv hW (fun _ _ h=>h)) b2 bl s2.whole.ok hy hgr hi2 s2.whole.sm.r q2 t2 (he.mv hW (fun _ h=>h.elim))).mono ?_
  rintro e w' ⟨hm,hr⟩
  obtain ⟨v,pr,c,h1,h2⟩:=hr.shape
  refine ⟨v,pr,c,h1,?_,hm⟩
  rw [hR2];unfold liftSide;rw [et2];exact h2
 obtain ⟨d75,dfac,dfin⟩:=sideC_at (pv:=pv1) (nv:=nv1) (mv:=mv1) (h:=x) s1.whole.ok
 obtain ⟨e75,efac,efin⟩:=sideC_at (pv:=pv2) (nv:=nv2) (mv:=mv2) (h:=y) s2.whole.ok
 have z1:=sideC_size (pv:=pv1) (nv:=nv1) (mv:=mv1) s1.whole.ok hx
 have z2:=sideC_size (pv:=pv2) (nv:=nv2) (mv:=mv2) s2.whole.ok hy
 rw [←hsc1] at dfac dfin z1
 rw [←hsc2] at efac efin z2
 rw [←hsc1,←hsc2,←hLl]
 obtain ⟨xv,hxv⟩:=zg (x.V)
 obtain ⟨yv,hyv⟩:=zg (y.V)
 rw [←hxv] at dfin
 rw [←hyv] at efin
 have HX:=zh hxv
 have HY:=zh hyv
 have HGV:=zh hgv
 have HG:=zh hg
 have hxl:xv.length=34:=by rw [hxv];exact HeadP.V_len _ hx
 have hyl:yv.length=34:=by rw [hyv];exact HeadP.V_len _ hy
 have hgl:gv.size=34:=by rw [hgv,List.size_toArray];exact HeadP.V_len _ hgr
 have HXI:Hid ((Tryz.prog.info? 36).map (·.size)=some xv.length):=zh (by rw [hxl];exact info36)
 have HXI2:Hid ((Tryz.prog.info? 36).map (·.size)=some xv.toArray.size):=zh (by rw [List.size_toArray,hxl];exact info36)
 have HXZ:Hid (34=xv.toArray.size):=zh (by rw [List.size_toArray,hxl])
 have HXO:Hid (xv.toArray.all (·.oneCell')=true):=zh (by rw [hxv];exact head_one _)
 have HYI:Hid ((Tryz.prog.info? 36).map (·.size)=some yv.length):=zh (by rw [hyl];exact info36)
 have HYI2:Hid ((Tryz.prog.info? 36).map (·.size)=some yv.toArray.size):=zh (by rw [List.size_toArray,hyl];exact info36)
 have HYZ:Hid (xv.toArray.size=yv.toArray.size):=zh (by rw [List.size_toArray,List.size_toArray,hxl,hyl])
 have HYO:Hid (yv.toArray.all (·.oneCell')=true):=zh (by rw [hyv];exact head_one _)
 have HGI:Hid ((Tryz.prog.info? 36).map (·.size)=some gv.size):=zh (by rw [hgl];exact info36)
 have HS1:Hid ((Tryz.prog.info? 123).map (·.size)=some sc1.size):=zh (by rw [z1];exact info123)
 have HS2:Hid ((Tryz.prog.info? 123).map (·.size)=some sc2.size):=zh (by rw [z2];exact info123)
 have D3:Hid (sc1[3]?=some (.int .i64 i1)):=zh (by rw [←hi1];exact dfac 3 _ rfl)
 have D4:Hid (sc1[4]?=some (.string f1.rcd)):=zh (dfac 4 _ rfl)
 have E3:Hid (sc2[3]?=some (.int .i64 i2)):=zh (by rw [←hi2];exact efac 3 _ rfl)
 have E4:Hid (sc2[4]?=some (.string f2.rcd)):=zh (efac 4 _ rfl)
 have DF:=zh dfin
 have EF:=zh efin
 have E77:Hid (sc2[77]?=some (.int .i64 y.n)):=zh (efin 1 _ (by rw [hyv];rfl))
 have S1:=zh s1
 have S2:=zh s2
 have HE:=zh he
 have HGR:=zh hgr
 have HI1:=zh hi1
 have HI2:=zh hi2
 have ET1:=zh et1
 have ET2:=zh et2
 have HNE:=zh hne
 have HZ43:Hid ((Tryz.prog.info? 39).map (·.size)=some z43.size):=zh (by rw [z43_size];exact info39)
 clear g1 g2 g3 g4 l1 l2 hg hgr t1 t2 hi1 hi2 et1 et2 q1 q2 hR1 hR2 hsc1 hsc2 hgv hLl d75 dfac dfin e75 efac efin z1 z2 hxv hyv hxl hyl hgl s1 s2 hx hy hlk hne he hp1 hn1 hm1 hp2 hn2 hm2 hl b1 b2 bl
 go_enter Tryz.func59,Tryz.ntmps59
 go_upto_region 1 with fail
 obtain ⟨A5,hA5⟩:=zg (w.heap.size)
 generalize hWX:World.alloc (World.alloc (World.alloc w _) _) _=w1
 have hm1:Mv (fun _=>False) w w1:=by rw [←hWX];exact (((Mv.refl _ _).alloc _).alloc _).alloc _
 have h5:w1.heap[A5]?=some (.cells sc1 123 (0,0)):=by rw [←hWX];exact (Below.heap_alloc _ _ _ (by simp;omega)).trans ((Below.heap_alloc _ _ _ (by simp;omega)).trans (by rw [hA5];exact heap_alloc_new _ _))
 have h6:w1.heap[A5+1]?=some (.cells sc2 123 (0,0)):=by rw [←hWX];exact (Below.heap_alloc _ _ _ (by simp;omega)).trans (by rw [show A5+1=(w.alloc (Obj.cells sc1 123)).heap.size by simp [hA5]];exact heap_alloc_new _ _)
 have h8:w1.heap[A5+1+1]?=some (.cells z43 39 (0,0)):=by rw [←hWX,show A5+1+1=((w.alloc (Obj.cells sc1 123)).alloc (Obj.cells sc2 123)).heap.size by simp [hA5]];exact heap_alloc_new _ _
 rw [←hA5]
 clear hWX
 have M1:=zh hm1
 have H5:=zh h5
 have H6:=zh h6
 have H8:=zh h8
 have HA5:=zh hA5
 have HCX:Hid (∀ (j:Nat) v,xv[j]?=some v→w1.cell? ⟨A5,76+j,none⟩=some v):=zh fun j v hj=>cell_of_heap H5.out _ (DF.out j v hj)
 clear hm1 h5 h6 h8 hA5
 go_upto_region 2 with (refine wpList_load_cellsAt rfl 36 (.tmp 19) rfl A5 76 rfl xv _ HCX.out Tryz.underlying36 rfl HXI.out ?_;go_upto_region 2 with (refine wpList_store_row rfl 36 _ _ rfl w1.heap.size xv.toArray rfl rfl 36 _ (heap_alloc_new _ _) HXI2.out HXZ.out HXO.out ?_))
 obtain ⟨A10,hA10⟩:=zg (w1.heap.size)
 have HW:Hid (∀ Z:Array Value,Mv (fun _=>False) w1 ((w1.alloc (.cells Z 36)).setRow w1.heap.size xv.toArray)∧((w1.alloc (.cells Z 36)).setRow w1.heap.size xv.toArray).heap[A10]?=some (.cells xv.toArray 36 (0,0))):=zh fun Z=>⟨((Mv.refl _ _).alloc _).setRow (.inr (Nat.le_refl _)) _,by rw [hA10];exact setRow_heap _ _ _ _ _ _ (heap_alloc_new _ _)⟩
 have HA10:Hid (w1.heap.size≤A10):=zh (by rw [hA10];exact Nat.le_refl _)
 rw [←hA10]
 generalize hWn:World.setRow _ _ _=w2
 obtain ⟨hmn,hpn⟩:=HW.out _
 rw [←hA10,hWn] at hmn hpn
 have M2:=zh (M1.out.trans hmn)
 have J10:=zh hpn
 have J5:=zbl hmn H5
 have J6:=zbl hmn H6
 have J8:=zbl hmn H8
 have y77:=cell_of_heap J6.out 77 E77.out
 have x1:=cell_of_heap J10.out 1 (show xv.toArray[1]?=some (.int .i64 x.n) by rw [HX.out];rfl)
 have HCY:Hid (∀ (j:Nat) v,yv[j]?=some v→w2.cell? ⟨A5+1,76+j,none⟩=some v):=zh fun j v hj=>cell_of_heap J6.out _ (EF.out j v hj)
 clear hWn hmn hpn HW hA10
 go_upto_if 26 with fail
 go_cut [] (fun wx=>wx.heap[A10]?=some (.cells gv 36 (0,0))∧Mv (fun b=>b=A10) w2 wx)
 case first =>
  by_cases hgt:x.n<y.n
  ·have hge:gv=yv.toArray:=by rw [HGV.out,HG.out,HY.out];unfold greaterP;rw [if_pos hgt]
   go_wp2_with (refine wpList_load_cellsAt rfl 36 (.tmp 27) rfl (A5+1) 76 rfl yv _ HCY.out Tryz.underlying36 rfl HYI.out ?_;go_wp2_with (refine wpList_store_row rfl 36 _ _ rfl A10 yv.toArray rfl rfl 36 _ J10.out HYI2.out HYZ.out HYO.out ?_))
   go_meet
   rw [hge]
   exact ⟨setRow_heap _ _ _ _ _ _ J10.out,(Mv.refl (fun b=>b=A10) _).setRow (.inl rfl) _⟩
  ·have hge:gv=xv.toArray:=by rw [HGV.out,HG.out,HX.out];unfold greaterP;rw [if_neg hgt]
   go_wp2_with fail
   go_meet
   rw [hge]
   exact ⟨J10.out,Mv.refl _ _⟩
 case rest =>
  obtain ⟨hk10,hmw⟩:=hcut
  obtain ⟨w3,rfl⟩:∃ z:World,z=wc:=⟨_,rfl⟩
  have N5:Hid (A5≠A10):=zh (fun e=>by have h1:=J5.out;have h2:=J10.out;rw [e,h2] at h1;injection h1 with h1;injection h1 with _ h1 _;exact absurd h1 (by decide))
  have N6:Hid (A5+1≠A10):=zh (fun e=>by have h1:=J6.out;have h2:=J10.out;rw [e,h2] at h1;injection h1 with h1;injection h1 with _ h1 _;exact absurd h1 (by decide))
  have N8:Hid (A5+1+1≠A10):=zh (fun e=>by have h1:=J8.out;have h2:=J10.out;rw [e,h2] at h1;injection h1 with h1;injection h1 with _ h1 _;exact absurd h1 (by decide))
  have K5:=zh ((hmw.block A5 (lt_of_heap J5.out) N5.out).trans J5.out)
  have K6:=zh ((hmw.block (A5+1) (lt_of_heap J6.out) N6.out).trans J6.out)
  have K8:=zh ((hmw.block (A5+1+1) (lt_of_heap J8.out) N8.out).trans J8.out)
  have K10:=zh hk10
  have M3:Hid (Mv (fun _=>False) w w3):=zh (M2.out.trans' hmw (fun i hi e=>by have:=HA10.out;have:=M1.out.size;omega))
  clear hk10 hmw y77 x1
  go_upto_region 5 with ((refine wpList_load_row rfl 123 (.tmp 5) rfl A5 rfl 123 sc1 (0,0) _ K5.out Tryz.underlying123 rfl HS1.out ?_);go_upto_region 5 with ((refine wpList_load_row rfl 36 (.tmp 10) rfl A10 rfl 36 gv (0,0) _ K10.out Tryz.underlying36 rfl HGI.out ?_);go_upto_region 5 with (go_at_call 100;refine (HC1.out _ M3.out).mono ?_;rintro e w4 ⟨v1,pr1,ce1,rfl,hres,hm⟩;have HRES:=zh hres;have M4:=zh hm;have HPI:=zh hres.info;clear hres hm;go_upto_region 5 with (refine wpList_store_row rfl 33 _ _ rfl w4.heap.size pr1 rfl rfl 33 _ (heap_alloc_new _ _) HPI.out.1 HPI.out.2.1 HPI.out.2.2 ?_))))
  obtain ⟨A12,hA12⟩:=zg (w4.heap.size)
  have HW:Hid (∀ Z:Array Value,Mv (fun _=>False) w4 ((w4.alloc (.cells Z 33)).setRow w4.heap.size pr1)∧((w4.alloc (.cells Z 33)).setRow w4.heap.size pr1).heap[A12]?=some (.cells pr1 33 (0,0))):=zh fun Z=>⟨((Mv.refl _ _).alloc _).setRow (.inr (Nat.le_refl _)) _,by rw [hA12];exact setRow_heap _ _ _ _ _ _ (heap_alloc_new _ _)⟩
  have HA12:Hid (w4.heap.size≤A12):=zh (by rw [hA12];exact Nat.le_refl _)
  rw [←hA12]
  generalize hWn:World.setRow _ _ _=w5
  obtain ⟨hmn,hpn⟩:=HW.out _
  rw [←hA12,hWn] at hmn hpn
  have M45:=zh hmn
  have M35:=zh (M4.out.trans hmn)
  have M5:=zh (M3.out.trans (M4.out.trans hmn))
  have L12:=zh hpn
  have L5:=zbl M35.out K5
  have L6:=zbl M35.out K6
  have L8:=zbl M35.out K8
  have L10:=zbl M35.out K10
  clear hWn hmn hpn HW hA12 HPI
  have hres:=HRES.out
  unfold LiftV at hres
  cases R1 with
  | inr uv =>
   obtain ⟨u,v⟩:=uv
   obtain ⟨rfl,rfl,p1,p2,rfl,ho1,ho2⟩:=hres
   obtain ⟨a1,a2,hsh⟩:=owns_shape ho1
   subst hsh
   obtain ⟨a3,a4,hsh⟩:=owns_shape ho2
   subst hsh
   have HO1:=zh ho1
   have HO2:=zh ho2
   obtain ⟨lu,hlu⟩:=zg (u.length)
   obtain ⟨lv2,hlv2⟩:=zg (v.length)
   obtain ⟨pp,hpp⟩:∃ a:Array Value,a=#[.slice a1 u.length a2,.slice a3 v.length a4]:=⟨_,rfl⟩
   obtain ⟨vp,hvp⟩:=zg ((verL 1 (.slice a1 u.length a2) (.slice a3 v.length a4) head0.V 0 0 ⟨#[]⟩ ⟨#[]⟩ nilV nilV).toArray)
   have HBP:Hid (Tryz.prog.built 39 [(0,.int .i64 1),(1,.agg pp)]=some vp):=zh (by rw [hpp,hvp];exact built_pair _ _)
   have HPP:Hid ((Tryz.prog.info? 33).map (·.size)=some pp.size):=zh (by rw [hpp];exact info33)
   rw [←hpp] at L12
   clear ho1 ho2 HRES hpp hlu hlv2
   have HVI:Hid ((Tryz.prog.info? 39).map (·.size)=some vp.size):=zh (by rw [hvp,List.size_toArray,verL_len _ _ _ _ _ _ _ _ _ _ head0_len];exact info39)
   have HVZ:Hid (z43.size=vp.size):=zh (by rw [z43_size,hvp,List.size_toArray,verL_len _ _ _ _ _ _ _ _ _ _ head0_len])
   have HVO:Hid (vp.all (·.oneCell')=true):=zh (by rw [hvp];exact verL_one _ _ _ head0 _ _ _ _ _ _ rfl rfl rfl rfl)
   have HVP:=zh hvp
   clear hvp
   go_wp2_with ((refine wpList_load_row rfl 33 (.tmp 12) rfl A12 rfl 33 pp (0,0) _ L12.out Tryz.underlying33 rfl HPP.out ?_);go_wp2_with ((refine wpList_build rfl 39 _ rfl vp (by simp only [List.map_toArray,List.map_cons,List.map_nil];exact HBP.out) ?_);go_wp2_with (refine wpList_store_row rfl 39 _ _ rfl (A5+1+1) vp rfl rfl 39 z43 L8.out HVI.out HVZ.out HVO.out ?_)))
   refine bodyPost_ret (results_ct (fn:=Tryz.f59) rfl _ _ (A5+1+1) 39 vp (.int .i64 0) _ rfl rfl (setRow_heap _ _ _ _ _ _ L8.out) Tryz.underlying39 rfl HVI.out) rfl ?_
   refine ⟨.pair u v,vp,rfl,HJR.out _ rfl,⟨_,_,HVP.out,owns_mono (owns_setRowX (owns_mv HO1.out M45.out (fun _ _ _ h=>h)) (A5+1+1) vp L8.out (by decide)) M3.out.size,owns_mono (owns_setRowX (owns_mv HO2.out M45.out (fun _ _ _ h=>h)) (A5+1+1) vp L8.out (by decide)) M3.out.size⟩,M5.out.setRow (.inr (by have:=HA5.out;omega)) _⟩
  | inl pa =>
   obtain ⟨rfl,rfl,ho⟩:=hres
   obtain ⟨a1,a2,hsh⟩:=owns_shape ho
   subst hsh
   have HO:=zh ho
   clear ho HRES
   obtain ⟨lpa,hlpa⟩:=zg (pa.length)
   have HLPA:=zh hlpa
   rw [←hlpa] at HO ⊢
   clear hlpa
   go_upto_region 8 with ((refine wpList_load_row rfl 123 (.tmp 6) rfl (A5+1) rfl 123 sc2 (0,0) _ L6.out Tryz.underlying123 rfl HS2.out ?_);go_upto_region 8 with ((refine wpList_load_row rfl 36 (.tmp 10) rfl A10 rfl 36 gv (0,0) _ L10.out Tryz.underlying36 rfl HGI.out ?_);go_upto_region 8 with (go_at_call 100;refine (HC2.out _ M5.out).mono ?_;rintro e w6 ⟨v2,pr2,ce2,rfl,hres,hm⟩;have HRES:=zh hres;have M6:=zh hm;have HPI:=zh hres.info;have L12b:=zbl hm L12;clear hres hm;go_upto_region 8 with (refine wpList_store_row rfl 33 _ _ rfl A12 pr2 rfl rfl 33 noPair L12b.out HPI.out.1 HPI.out.2.1 HPI.out.2.2 ?_))))
   have hmn:Mv (fun b=>b=A12) w6 (w6.setRow A12 pr2):=(Mv.refl (fun b=>b=A12) _).setRow (.inl rfl) _
   have hpn:=setRow_heap _ _ _ pr2 _ _ L12b.out
   have HM12:Hid (∀ e sz base v n xs,e≠33→w6.ownsRow base e sz v n xs→(w6.setRow A12 pr2).ownsRow base e sz v n xs):=zh fun e sz base v n xs he h=>owns_setRowX h A12 pr2 L12b.out he
   have hA12w:w5.heap.size≤w6.heap.size:=M6.out.size
   have N12:∀ (b:Nat) (C:Array Value) (E:TypeId),w5.heap[b]?=some (.cells C E (0,0))→E≠33→(w6.setRow A12 pr2).heap[b]?=some (.cells C E (0,0)):=fun b C E hb hE=>by
    have hne:b≠A12:=fun e=>by rw [e,L12.out] at hb;injection hb with hb;injection hb with _ h _;exact hE h.symm
    exact (hmn.block b (Nat.lt_of_lt_of_le (lt_of_heap hb) hA12w) hne).trans ((M6.out.block b (lt_of_heap hb) id).trans hb)
   have q5:=N12 _ _ _ L5.out (by decide)
   have q6:=N12 _ _ _ L6.out (by decide)
   have q8:=N12 _ _ _ L8.out (by decide)
   have q10:=N12 _ _ _ L10.out (by decide)
   have hm7:Mv (fun _=>False) w (w6.setRow A12 pr2):=(M5.out.trans M6.out).trans' hmn (fun i hi e=>by have:=HA12.out;have:=M3.out.size;have:=M4.out.size;omega)
   have hoa:(w6.setRow A12 pr2).ownsRow w3.heap.size 34 32 (.slice a1 lpa a2) lpa (hsV pa):=HM12.out _ _ _ _ _ _ (by decide) (owns_mv (owns_mv HO.out M45.out (fun _ _ _ h=>h)) M6.out (fun _ _ _ h=>h))
   generalize hWn:w6.setRow A12 pr2=w7 at hmn hpn HM12 N12 q5 q6 q8 q10 hm7 hoa ⊢
   have Q5:=zh q5
   have Q6:=zh q6
   have Q8:=zh q8
   have Q10:=zh q10
   have Q12:=zh hpn
   have M7:=zh hm7
   have OA:=zh hoa
   clear q5 q6 q8 q10 hmn hpn N12 hA12w hm7 hoa hWn HPI
   have hres:=HRES.out
   unfold LiftV at hres
   cases R2 with
   | inr uv =>
    obtain ⟨u,v⟩:=uv
    obtain ⟨rfl,rfl,p1,p2,rfl,ho1,ho2⟩:=hres
    obtain ⟨a1,a2,hsh⟩:=owns_shape ho1
    subst hsh
    obtain ⟨a3,a4,hsh⟩:=owns_shape ho2
    subst hsh
    have HO1:=zh ho1
    have HO2:=zh ho2
    obtain ⟨lu,hlu⟩:=zg (u.length)
    obtain ⟨lv2,hlv2⟩:=zg (v.length)
    obtain ⟨pp,hpp⟩:∃ a:Array Value,a=#[.slice a1 u.length a2,.slice a3 v.length a4]:=⟨_,rfl⟩
    obtain ⟨vp,hvp⟩:=zg ((verL 1 (.slice a1 u.length a2) (.slice a3 v.length a4) head0.V 0 0 ⟨#[]⟩ ⟨#[]⟩ nilV nilV).toArray)
    have HBP:Hid (Tryz.prog.built 39 [(0,.int .i64 1),(1,.agg pp)]=some vp):=zh (by rw [hpp,hvp];exact built_pair _ _)
    have HPP:Hid ((Tryz.prog.info? 33).map (·.size)=some pp.size):=zh (by rw [hpp];exact info33)
    rw [←hpp] at Q12
    clear ho1 ho2 HRES hpp hlu hlv2
    have HVI:Hid ((Tryz.prog.info? 39).map (·.size)=some vp.size):=zh (by rw [hvp,List.size_toArray,verL_len _ _ _ _ _ _ _ _ _ _ head0_len];exact info39)
    have HVZ:Hid (z43.size=vp.size):=zh (by rw [z43_size,hvp,List.size_toArray,verL_len _ _ _ _ _ _ _ _ _ _ head0_len])
    have HVO:Hid (vp.all (·.oneCell')=true):=zh (by rw [hvp];exact verL_one _ _ _ head0 _ _ _ _ _ _ rfl rfl rfl rfl)
    have HVP:=zh hvp
    clear hvp
    go_wp2_with ((refine wpList_load_row rfl 33 (.tmp 12) rfl A12 rfl 33 pp (0,0) _ Q12.out Tryz.underlying33 rfl HPP.out ?_);go_wp2_with ((refine wpList_build rfl 39 _ rfl vp (by simp only [List.map_toArray,List.map_cons,List.map_nil];exact HBP.out) ?_);go_wp2_with (refine wpList_store_row rfl 39 _ _ rfl (A5+1+1) vp rfl rfl 39 z43 Q8.out HVI.out HVZ.out HVO.out ?_)))
    refine bodyPost_ret (results_ct (fn:=Tryz.f59) rfl _ _ (A5+1+1) 39 vp (.int .i64 0) _ rfl rfl (setRow_heap _ _ _ _ _ _ Q8.out) Tryz.underlying39 rfl HVI.out) rfl ?_
    refine ⟨.pair u v,vp,rfl,HJR.out _ rfl,⟨_,_,HVP.out,owns_mono (owns_setRowX (HM12.out _ _ _ _ _ _ (by decide) HO1.out) (A5+1+1) vp Q8.out (by decide)) M5.out.size,owns_mono (owns_setRowX (HM12.out _ _ _ _ _ _ (by decide) HO2.out) (A5+1+1) vp Q8.out (by decide)) M5.out.size⟩,M7.out.setRow (.inr (by have:=HA5.out;omega)) _⟩
   | inl pb =>
    obtain ⟨rfl,rfl,ho⟩:=hres
    obtain ⟨b1,b2,hsh⟩:=owns_shape ho
    subst hsh
    have OB:=zh (owns_mono (HM12.out _ _ _ _ _ _ (by decide) ho) M5.out.size)
    clear ho HRES
    have OA0:=zh (owns_mono OA.out M3.out.size)
    obtain ⟨lpb,hlpb⟩:=zg (pb.length)
    have HLPB:=zh hlpb
    rw [←hlpb] at OB ⊢
    clear hlpb
    have r1:=HL1.out
    have r2:=HL2.out
    simp only at r1 r2
    have RA:=zh r1
    have RB:=zh r2
    obtain ⟨gn,hgn⟩:∃ n:Nat,g.n=n:=⟨g.n.toNat,by have:=r1.nb;omega⟩
    have HGN:=zh hgn
    have d3:=cell_of_heap Q5.out 3 D3.out
    have d4:=cell_of_heap Q5.out 4 D4.out
    have e3:=cell_of_heap Q6.out 3 E3.out
    have e4:=cell_of_heap Q6.out 4 E4.out
    have g1:=cell_of_heap Q10.out 1 (show gv[1]?=some (.int .i64 gn) by rw [HGV.out,←hgn];rfl)
    clear r1 r2 hgn
    by_cases hid:i1=i2
    ·subst hid
     obtain ⟨B1,cap1,W1,hcv1,hsl1,hmc1⟩:=conv_bytes f1.rcd w7
     obtain ⟨B2,cap2,W2,hcv2,hsl2,hmc2⟩:=conv_bytes f2.rcd W1
     have e4':=(hmc1.cell (p:=⟨A5+1,4,none⟩) (lt_of_heap Q6.out) id).trans e4
     have HSA:=zh (hsl1.mv hmc2 (fun _ _ h=>h))
     have HSB:=zh hsl2
     have HMC:=zh (hmc1.trans hmc2)
     have KA:Hid (∀ h∈pa,h.length=32):=zh RA.out.b32
     have KB:Hid (∀ h∈pb,h.length=32):=zh RB.out.b32
     have HPA:Hid (HsIn W2 (.slice a1 lpa a2) pa):=zh (by have:=OA0.out;rw [HLPA.out] at this ⊢;exact (HsIn.of_owns KA.out this).mv HMC.out (fun _ _ h=>h))
     have HPB:Hid (HsIn W2 (.slice b1 lpb b2) pb):=zh (by have:=OB.out;rw [HLPB.out] at this ⊢;exact (HsIn.of_owns KB.out this).mv HMC.out (fun _ _ h=>h))
     have HB1:Hid (f1.rcd.data.toList.length≤1024):=zh (isOf_small S1.out.isof)
     have HB2:Hid (f2.rcd.data.toList.length≤1024):=zh (isOf_small S2.out.isof)
     have HCOL:Hid (Calls Tryz.prog 101 #[.int .i64 k,.int .i64 gn,.int .i64 i1,.slice (some ⟨B1,0,none⟩) f1.rcd.size cap1,.slice a1 lpa a2,.slice (some ⟨B2,0,none⟩) f2.rcd.size cap2,.slice b1 lpb b2] W2 fun e w'=>∃ pv u v,e=.returned (.tuple #[.agg pv,.int .i64 0])∧Mv (fun _=>False) W2 w'∧PairOwn w' W2.heap.size pv u v∧Pairs k u v):=zh (by
      have y1:=RA.out
      have y2:=RB.out
      have x1:=y1.nb
      have x2:=y1.il
      have x3:=y1.len
      have x4:=y2.len
      have x5:=y1.sum
      have x6:=y2.sum
      have egn:g.n.toNat=gn:=by have:=HGN.out;omega
      rw [egn] at x3 x4 x5 x6
      have hg2:=HGN.out
      refine (collide_any k gn i1 _ _ _ _ f1.rcd.data.toList f2.rcd.data.toList pa pb W2 HSA.out HSB.out HPA.out HPB.out HB1.out HB2.out HNE.out (by omega) (by omega) x3 x4 KA.out KB.out ?_ (HE.out.mv (M7.out.trans HMC.out) (fun _ h=>h.elim))).mono ?_
      ·unfold liftA at x5 x6
       rw [x5,x6]
      ·rintro e w' ⟨pv,u,v,h1,h2,h3,h4,h5⟩
       exact ⟨pv,u,v,h1,h2,h3,h4,colPair_low HB1.out HB2.out KA.out KB.out h5⟩)
     clear hsl1 hsl2 hmc1 hmc2
     go_upto_region 14 with (go_at_call 101;refine HCOL.out.mono ?_;rintro e w8 ⟨pp,u,v,rfl,hm,hpo,hpr⟩;have HPO:=zh hpo;have M8:=zh hm;have HPR:=zh hpr;have HPI:=zh (pair_own_info hpo);clear hpo hm hpr;go_upto_region 14 with (refine wpList_store_row rfl 33 _ _ rfl w8.heap.size pp rfl rfl 33 _ (heap_alloc_new _ _) HPI.out.1 HPI.out.2.1 HPI.out.2.2 ?_))
     obtain ⟨A16,hA16⟩:=zg (w8.heap.size)
     have HW:Hid (∀ Z:Array Value,Mv (fun _=>False) w8 ((w8.alloc (.cells Z 33)).setRow w8.heap.size pp)∧((w8.alloc (.cells Z 33)).setRow w8.heap.size pp).heap[A16]?=some (.cells pp 33 (0,0))):=zh fun Z=>⟨((Mv.refl _ _).alloc _).setRow (.inr (Nat.le_refl _)) _,by rw [hA16];exact setRow_heap _ _ _ _ _ _ (heap_alloc_new _ _)⟩
     rw [←hA16]
     generalize hWn:World.setRow _ _ _=w9
     obtain ⟨hmn,hpn⟩:=HW.out _
     rw [←hA16,hWn] at hmn hpn
     have M89:=zh hmn
     have R16:=zh hpn
     have M79:=zh (HMC.out.trans (M8.out.trans hmn))
     have M9:=zh (M7.out.trans M79.out)
     have R8:=zbl M79.out Q8
     obtain ⟨p1,p2,hpe,ho1,ho2⟩:=HPO.out
     obtain ⟨c1,c2,hsh⟩:=owns_shape ho1
     subst hsh
     obtain ⟨c3,c4,hsh⟩:=owns_shape ho2
     subst hsh
     have HO1:=zh ho1
     have HO2:=zh ho2
     obtain ⟨vp,hvp⟩:=zg ((verL 1 (.slice c1 u.length c2) (.slice c3 v.length c4) head0.V 0 0 ⟨#[]⟩ ⟨#[]⟩ nilV nilV).toArray)
     have HBP:Hid (Tryz.prog.built 39 [(0,.int .i64 1),(1,.agg pp)]=some vp):=zh (by rw [hpe,hvp];exact built_pair _ _)
     have HPP:=zh HPI.out.1
     clear hWn hmn hpn HW hA16 HPI HCOL hcv1 hcv2 hpe ho1 ho2 HPO d3 d4 e3 e4 e4' g1
     have HVI:Hid ((Tryz.prog.info? 39).map (·.size)=some vp.size):=zh (by rw [hvp,List.size_toArray,verL_len _ _ _ _ _ _ _ _ _ _ head0_len];exact info39)
     have HVZ:Hid (z43.size=vp.size):=zh (by rw [z43_size,hvp,List.size_toArray,verL_len _ _ _ _ _ _ _ _ _ _ head0_len])
     have HVO:Hid (vp.all (·.oneCell')=true):=zh (by rw [hvp];exact verL_one _ _ _ head0 _ _ _ _ _ _ rfl rfl rfl rfl)
     have HVP:=zh hvp
     clear hvp
     go_wp2_with ((refine wpList_load_row rfl 33 (.tmp 16) rfl A16 rfl 33 pp (0,0) _ R16.out Tryz.underlying33 rfl HPP.out ?_);go_wp2_with ((refine wpList_build rfl 39 _ rfl vp (by simp only [List.map_toArray,List.map_cons,List.map_nil];exact HBP.out) ?_);go_wp2_with (refine wpList_store_row rfl 39 _ _ rfl (A5+1+1) vp rfl rfl 39 z43 R8.out HVI.out HVZ.out HVO.out ?_)))
     refine bodyPost_ret (results_ct (fn:=Tryz.f59) rfl _ _ (A5+1+1) 39 vp (.int .i64 0) _ rfl rfl (setRow_heap _ _ _ _ _ _ R8.out) Tryz.underlying39 rfl HVI.out) rfl ?_
     refine ⟨.pair u v,vp,rfl,HJR.out _ (by show (if f1.id=f2.id then _ else _);rw [if_pos (by rw [HI1.out,HI2.out])];exact ⟨u,v,rfl,HPR.out⟩),⟨_,_,HVP.out,owns_mono (owns_setRowX (owns_mv HO1.out M89.out (fun _ _ _ h=>h)) (A5+1+1) vp R8.out (by decide)) (M7.out.trans HMC.out).size,owns_mono (owns_setRowX (owns_mv HO2.out M89.out (fun _ _ _ h=>h)) (A5+1+1) vp R8.out (by decide)) (M7.out.trans HMC.out).size⟩,M9.out.setRow (.inr (by have:=HA5.out;omega)) _⟩
    ·have hidI:¬ ((i1:Int)=(i2:Int)):=by omega
     have HID:=zh hidI
     have hgl:g.V.length=34:=HeadP.V_len _ HGR.out
     obtain ⟨vt,hvt⟩:=zg (verL 2 nilV nilV g.V i1 i2 f1.rcd f2.rcd (.slice a1 lpa a2) (.slice b1 lpb b2))
     have HBT:Hid (Tryz.prog.built 39 [(0,.int .i64 2),(2,.agg gv),(3,.int .i64 i1),(4,.int .i64 i2),(5,.string f1.rcd),(6,.string f2.rcd),(7,.slice a1 lpa a2),(8,.slice b1 lpb b2)]=some vt.toArray):=zh (by rw [HGV.out,hvt];exact built_twice _ _ _ _ _ _ _ _ _ _ _ hgl)
     have hvl:vt.length=43:=by rw [hvt];exact verL_len _ _ _ _ _ _ _ _ _ _ hgl
     have HVI:Hid ((Tryz.prog.info? 39).map (·.size)=some vt.toArray.size):=zh (by rw [List.size_toArray,hvl];exact info39)
     have HVZ:Hid (43=vt.toArray.size):=zh (by rw [List.size_toArray,hvl])
     have HVZ8:Hid (z43.size=vt.toArray.size):=zh (by rw [z43_size,List.size_toArray,hvl])
     have HVO:Hid (vt.toArray.all (·.oneCell')=true):=zh (by rw [hvt];exact verL_one _ _ _ g _ _ _ _ _ _ rfl rfl rfl rfl)
     have HVT:=zh hvt
     have HGL:=zh hgl
     obtain ⟨k37,k38,k39,k40,k41,k42⟩:=verL_at 2 nilV nilV g.V i1 i2 f1.rcd f2.rcd (.slice a1 lpa a2) (.slice b1 lpb b2) hgl
     rw [←hvt] at k37 k38 k39 k40 k41 k42
     have K37:=zh k37
     have K38:=zh k38
     have K39:=zh k39
     have K40:=zh k40
     have K41:=zh k41
     have K42:=zh k42
     clear hvt hvl hgl k37 k38 k39 k40 k41 k42 hid
     go_upto_region 18 with ((refine wpList_load_row rfl 36 (.tmp 10) rfl A10 rfl 36 gv (0,0) _ Q10.out Tryz.underlying36 rfl HGI.out ?_);go_upto_region 18 with ((refine wpList_build rfl 39 _ rfl vt.toArray (by simp only [List.map_toArray,List.map_cons,List.map_nil];exact HBT.out) ?_);go_upto_region 18 with (refine wpList_store_row rfl 39 _ _ rfl w7.heap.size vt.toArray rfl rfl 39 _ (heap_alloc_new _ _) HVI.out HVZ.out HVO.out ?_)))
     obtain ⟨A18,hA18⟩:=zg (w7.heap.size)
     have HW:Hid (∀ Z:Array Value,Mv (fun _=>False) w7 ((w7.alloc (.cells Z 39)).setRow w7.heap.size vt.toArray)∧((w7.alloc (.cells Z 39)).setRow w7.heap.size vt.toArray).heap[A18]?=some (.cells vt.toArray 39 (0,0))):=zh fun Z=>⟨((Mv.refl _ _).alloc _).setRow (.inr (Nat.le_refl _)) _,by rw [hA18];exact setRow_heap _ _ _ _ _ _ (heap_alloc_new _ _)⟩
     have HA18:Hid (A5+1+1<A18):=zh (by rw [hA18];exact lt_of_heap Q8.out)
     have HA18w:Hid (w.heap.size≤A18):=zh (by rw [hA18];exact M7.out.size)
     rw [←hA18]
     generalize hWn:World.setRow _ _ _=w8
     obtain ⟨hmn,hpn⟩:=HW.out _
     rw [←hA18,hWn] at hmn hpn
     have M78:=zh hmn
     have R18:=zh hpn
     have M8:=zh (M7.out.trans hmn)
     have R8:=zbl hmn Q8
     have OA8:=zh (owns_mv OA0.out hmn (fun _ _ _ h=>h))
     have OB8:=zh (owns_mv OB.out hmn (fun _ _ _ h=>h))
     have c37:=cell_of_heap R18.out 37 (by rw [List.getElem?_toArray];exact K37.out)
     have c38:=cell_of_heap R18.out 38 (by rw [List.getElem?_toArray];exact K38.out)
     have c39:=cell_of_heap R18.out 39 (by rw [List.getElem?_toArray];exact K39.out)
     have c40:=cell_of_heap R18.out 40 (by rw [List.getElem?_toArray];exact K40.out)
     have c41:=cell_of_heap R18.out 41 (by rw [List.getElem?_toArray];exact K41.out)
     have c42:=cell_of_heap R18.out 42 (by rw [List.getElem?_toArray];exact K42.out)
     have f37:=free_of_heap R18.out 37
     have f38:=free_of_heap R18.out 38
     have f39:=free_of_heap R18.out 39
     have f40:=free_of_heap R18.out 40
     have f41:=free_of_heap R18.out 41
     have f42:=free_of_heap R18.out 42
     clear hWn hmn hpn HW hA18 d3 d4 e3 e4 g1
     by_cases hlt:(i1:Int)<(i2:Int)
     ·have hng:¬ ((i2:Int)<(i1:Int)):=by omega
      go_wp2_with ((refine wpList_load_row rfl 39 (.tmp 18) rfl A18 rfl 39 vt.toArray (0,0) _ R18.out Tryz.underlying39 rfl HVI.out ?_);go_wp2_with (refine wpList_store_row rfl 39 _ _ rfl (A5+1+1) vt.toArray rfl rfl 39 z43 R8.out HVI.out HVZ8.out HVO.out ?_))
      refine bodyPost_ret (results_ct (fn:=Tryz.f59) rfl _ _ (A5+1+1) 39 vt.toArray (.int .i64 0) _ rfl rfl (setRow_heap _ _ _ _ _ _ R8.out) Tryz.underlying39 rfl HVI.out) rfl ?_
      refine ⟨.twice g f1.id f2.id f1.rcd f2.rcd pa pb,vt.toArray,rfl,HJR.out _ ?_,⟨_,_,by rw [HVT.out,HI1.out,HI2.out],HGR.out,S1.out.whole.sm.r,S2.out.whole.sm.r,RA.out.b32,RB.out.b32,?_,?_⟩,M8.out.setRow (.inr (by have:=HA5.out;omega)) _⟩
      ·show (if f1.id=f2.id then _ else _)
       rw [if_neg (by rw [HI1.out,HI2.out];exact HID.out),if_pos (by rw [HI1.out,HI2.out];exact hlt)]
      ·rw [←HLPA.out];exact owns_setRowX OA8.out _ _ R8.out (by decide)
      ·rw [←HLPB.out];exact owns_setRowX OB8.out _ _ R8.out (by decide)
     ·have hgt:(i2:Int)<(i1:Int):=by omega
      go_upto_region 20 with fail
      obtain ⟨vs,hvs⟩:=zg ((verL 2 nilV nilV g.V i2 i1 f2.rcd f1.rcd (.slice b1 lpb b2) (.slice a1 lpa a2)).toArray)
      have h18:(((((((((((((w8).setCell ⟨A18,37,none⟩ (.int .i64 i2))).setCell ⟨A18,38,none⟩ (.int .i64 i1))).setCell ⟨A18,39,none⟩ (.string f2.rcd))).setCell ⟨A18,40,none⟩ (.string f1.rcd))).setCell ⟨A18,41,none⟩ (.slice b1 lpb b2))).setCell ⟨A18,42,none⟩ (.slice a1 lpa a2))).heap[A18]?=some (.cells vs 39 (0,0)):=by rw [(heap_setCell_same ((heap_setCell_same ((heap_setCell_same ((heap_setCell_same ((heap_setCell_same ((heap_setCell_same (R18.out) _)) _)) _)) _)) _)) _),HVT.out,hvs,verL_swap _ _ _ _ _ _ _ HGL.out]
      have h8:(((((((((((((w8).setCell ⟨A18,37,none⟩ (.int .i64 i2))).setCell ⟨A18,38,none⟩ (.int .i64 i1))).setCell ⟨A18,39,none⟩ (.string f2.rcd))).setCell ⟨A18,40,none⟩ (.string f1.rcd))).setCell ⟨A18,41,none⟩ (.slice b1 lpb b2))).setCell ⟨A18,42,none⟩ (.slice a1 lpa a2))).heap[A5+1+1]?=some (.cells z43 39 (0,0)):=((heap_setCell_other (by have:=HA18.out;omega) _).trans (((heap_setCell_other (by have:=HA18.out;omega) _).trans (((heap_setCell_other (by have:=HA18.out;omega) _).trans (((heap_setCell_other (by have:=HA18.out;omega) _).trans (((heap_setCell_other (by have:=HA18.out;omega) _).trans (((heap_setCell_other (by have:=HA18.out;omega) _).trans (R8.out))))))))))))
      have hmx:Mv (fun _=>False) w (((((((((((((w8).setCell ⟨A18,37,none⟩ (.int .i64 i2))).setCell ⟨A18,38,none⟩ (.int .i64 i1))).setCell ⟨A18,39,none⟩ (.string f2.rcd))).setCell ⟨A18,40,none⟩ (.string f1.rcd))).setCell ⟨A18,41,none⟩ (.slice b1 lpb b2))).setCell ⟨A18,42,none⟩ (.slice a1 lpa a2))):=((((((((((((M8.out).setCell (p:=⟨A18,37,none⟩) (.inr HA18w.out) _)).setCell (p:=⟨A18,38,none⟩) (.inr HA18w.out) _)).setCell (p:=⟨A18,39,none⟩) (.inr HA18w.out) _)).setCell (p:=⟨A18,40,none⟩) (.inr HA18w.out) _)).setCell (p:=⟨A18,41,none⟩) (.inr HA18w.out) _)).setCell (p:=⟨A18,42,none⟩) (.inr HA18w.out) _)
      have oax:(((((((((((((w8).setCell ⟨A18,37,none⟩ (.int .i64 i2))).setCell ⟨A18,38,none⟩ (.int .i64 i1))).setCell ⟨A18,39,none⟩ (.string f2.rcd))).setCell ⟨A18,40,none⟩ (.string f1.rcd))).setCell ⟨A18,41,none⟩ (.slice b1 lpb b2))).setCell ⟨A18,42,none⟩ (.slice a1 lpa a2))).ownsRow w.heap.size 34 32 (.slice a1 lpa a2) lpa (hsV pa):=(owns_setCellX ((owns_setCellX ((owns_setCellX ((owns_setCellX ((owns_setCellX ((owns_setCellX (OA8.out) A18 37 _ (R18.out) (by decide))) A18 38 _ ((heap_setCell_same (R18.out) _)) (by decide))) A18 39 _ ((heap_setCell_same ((heap_setCell_same (R18.out) _)) _)) (by decide))) A18 40 _ ((heap_setCell_same ((heap_setCell_same ((heap_setCell_same (R18.out) _)) _)) _)) (by decide))) A18 41 _ ((heap_setCell_same ((heap_setCell_same ((heap_setCell_same ((heap_setCell_same (R18.out) _)) _)) _)) _)) (by decide))) A18 42 _ ((heap_setCell_same ((heap_setCell_same ((heap_setCell_same ((heap_setCell_same ((heap_setCell_same (R18.out) _)) _)) _)) _)) _)) (by decide))
      have obx:(((((((((((((w8).setCell ⟨A18,37,none⟩ (.int .i64 i2))).setCell ⟨A18,38,none⟩ (.int .i64 i1))).setCell ⟨A18,39,none⟩ (.string f2.rcd))).setCell ⟨A18,40,none⟩ (.string f1.rcd))).setCell ⟨A18,41,none⟩ (.slice b1 lpb b2))).setCell ⟨A18,42,none⟩ (.slice a1 lpa a2))).ownsRow w.heap.size 34 32 (.slice b1 lpb b2) lpb (hsV pb):=(owns_setCellX ((owns_setCellX ((owns_setCellX ((owns_setCellX ((owns_setCellX ((owns_setCellX (OB8.out) A18 37 _ (R18.out) (by decide))) A18 38 _ ((heap_setCell_same (R18.out) _)) (by decide))) A18 39 _ ((heap_setCell_same ((heap_setCell_same (R18.out) _)) _)) (by decide))) A18 40 _ ((heap_setCell_same ((heap_setCell_same ((heap_setCell_same (R18.out) _)) _)) _)) (by decide))) A18 41 _ ((heap_setCell_same ((heap_setCell_same ((heap_setCell_same ((heap_setCell_same (R18.out) _)) _)) _)) _)) (by decide))) A18 42 _ ((heap_setCell_same ((heap_setCell_same ((heap_setCell_same ((heap_setCell_same ((heap_setCell_same (R18.out) _)) _)) _)) _)) _)) (by decide))
      generalize ((((((((((((w8).setCell ⟨A18,37,none⟩ (.int .i64 i2))).setCell ⟨A18,38,none⟩ (.int .i64 i1))).setCell ⟨A18,39,none⟩ (.string f2.rcd))).setCell ⟨A18,40,none⟩ (.string f1.rcd))).setCell ⟨A18,41,none⟩ (.slice b1 lpb b2))).setCell ⟨A18,42,none⟩ (.slice a1 lpa a2))=w9 at h18 h8 hmx oax obx ⊢
      have T18:=zh h18
      have T8:=zh h8
      have MX:=zh hmx
      have OAX:=zh oax
      have OBX:=zh obx
      have HVS:=zh hvs
      have hvl:vs.size=43:=by rw [hvs,List.size_toArray];exact verL_len _ _ _ _ _ _ _ _ _ _ HGL.out
      have HSI:Hid ((Tryz.prog.info? 39).map (·.size)=some vs.size):=zh (by rw [hvl];exact info39)
      have HSZ8:Hid (z43.size=vs.size):=zh (by rw [z43_size,hvl])
      have HSO:Hid (vs.all (·.oneCell')=true):=zh (by rw [hvs];exact verL_one _ _ _ g _ _ _ _ _ _ rfl rfl rfl rfl)
      clear h18 h8 hmx oax obx hvs hvl c37 f37 c38 f38 c39 f39 c40 f40 c41 f41 c42 f42
      go_wp2_with ((refine wpList_load_row rfl 39 (.tmp 18) rfl A18 rfl 39 vs (0,0) _ T18.out Tryz.underlying39 rfl HSI.out ?_);go_wp2_with (refine wpList_store_row rfl 39 _ _ rfl (A5+1+1) vs rfl rfl 39 z43 T8.out HSI.out HSZ8.out HSO.out ?_))
      refine bodyPost_ret (results_ct (fn:=Tryz.f59) rfl _ _ (A5+1+1) 39 vs (.int .i64 0) _ rfl rfl (setRow_heap _ _ _ _ _ _ T8.out) Tryz.underlying39 rfl HSI.out) rfl ?_
      refine ⟨.twice g f2.id f1.id f2.rcd f1.rcd pb pa,vs,rfl,HJR.out _ ?_,⟨_,_,by rw [HVS.out,HI1.out,HI2.out],HGR.out,S2.out.whole.sm.r,S1.out.whole.sm.r,RB.out.b32,RA.out.b32,?_,?_⟩,MX.out.setRow (.inr (by have:=HA5.out;omega)) _⟩
      ·show (if f1.id=f2.id then _ else _)
       rw [if_neg (by rw [HI1.out,HI2.out];exact HID.out),if_neg (by rw [HI1.out,HI2.out];omega)]
      ·rw [←HLPB.out];exact owns_setRowX OBX.out _ _ T8.out (by decide)
      ·rw [←HLPA.out];exact owns_setRowX OAX.out _ _ T8.out (by decide)
def rcdAt (L:List FactP) (i:Int):ByteArray:=match L[i.toNat]? with|some f=>f.rcd|none=>⟨#[]⟩
def partB (k:Int) (A B:List FactP):Bool:=decide (0<(A.length:Int)) && decide (0<(B.length:Int)) && !((finalH k A).o.toList == (finalH k B).o.toList)
def judgeE (k:Int) (A B:List FactP) (p q:ByteArray) (link:List Bs):Int :=
 if ¬ (finalE k A=0)∨¬ (finalE k B=0)∨partB k A B=true then 180
 else if firstP p q A<0∨firstP p q B<0 then 121
 else if ((rcdAt A (firstP p q A)).toList == (rcdAt B (firstP p q B)).toList)=true then 181
 else if linkedP k link (finalH k A) (finalH k B)=true then 0 else 180
def Judged (w':World) (base:Nat) (k:Int) (A B:List FactP) (p q:ByteArray) (link:List Bs) (cs:Array Value):Prop :=
 (judgeE k A B p q link≠0→cs=z43) ∧
 (judgeE k A B p q link=0→∃ (i j:Nat) (f1 f2:FactP) (V:VerdP),firstP p q A=i∧firstP p q B=j∧A[i]?=some f1∧B[j]?=some f2∧keyB p q f1=true∧keyB p q f2=true∧JudgedR k f1 f2 (movesP (A.drop i)) (movesP (B.drop j)) (finalH k A) (finalH k B) link V∧VerOwn w' base cs V)
theorem finalH_len (k:Int) (L:List FactP) (h:∀ f∈L,f.Ok):(finalH k L).root.length=32:=by
 unfold finalH
 split
 ·exact followH_len k L h
 ·rfl
theorem final_good {k:Int} {L:List FactP} (h:finalE k L=0):followP k L (headE k) true=some (finalH k L):=by
 have he:followE k L=0:=by
  unfold finalE at h
  by_cases hf:followE k L=0
  ·exact hf
  ·rw [if_neg hf] at h;cases h
 obtain ⟨_,h2,_,h4⟩:=follow_good k L he
 rw [h4];exact h2
theorem movesP_len (L:List FactP):(movesP L).length≤L.length:=List.length_filter_le _ _
theorem VerOwn.row {w:World} {B B':Nat} {cs:Array Value} {D:Nat} {C ds:Array Value} (hD:w.heap[D]?=some (.cells C 39 (0,0))) (hb:B'≤B):∀ {V:VerdP},VerOwn w B cs V→VerOwn (w.setRow D ds) B' cs V
 | .pair _ _,⟨p,q,h1,h2,h3⟩=>⟨p,q,h1,owns_mono (owns_setRowX h2 D ds hD (by decide)) hb,owns_mono (owns_setRowX h3 D ds hD (by decide)) hb⟩
 | .twice _ _ _ _ _ _ _,⟨va,vb,h1,h2,h3,h4,h5,h6,h7,h8⟩=>⟨va,vb,h1,h2,h3,h4,h5,h6,owns_mono (owns_setRowX h7 D ds hD (by decide)) hb,owns_mono (owns_setRowX h8 D ds hD (by decide)) hb⟩
theorem z43_one:z43.all (·.oneCell')=true:=by kernel_rfl
set_option maxRecDepth 100000 in
set_option maxHeartbeats 6400000 in
theorem judge_any (k:Int) (av bv lv:Value) (A B:List FactP) (p q:ByteArray) (link:List Bs) (w:World) (hA:FactsIn w av A) (hB:FactsIn w bv B) (hl:HsIn w lv link) (lA:A.length≤1048576) (lB:B.length≤1048576) (ll:link.length≤1048576) (he:EnvH w) (henv:EnvP w) :
  Calls Tryz.prog 26 #[.int .i64 k,av,bv,.string p,.string q,lv] w fun e w'=>∃ cs,e=.returned (.tuple #[.agg cs,.int .i64 (judgeE k A B p q link)])∧Judged w' w.heap.size k A B p q link cs∧Mv (fun _=>False) w w':=by
 have HFA:=zh hA
 have HFB:=zh hB
 have HLV:=zh hl
 have hra:=finalH_len k A hA.ok
 have hrb:=finalH_len k B hB.ok
 have wA:=hA.whole
 have wB:=hB.whole
 obtain ⟨aa,ac,hsa,hac,haj⟩:=hA
 obtain ⟨ba,bc,hsb,hbc,hbj⟩:=hB
 obtain ⟨la,lc,hsl⟩:=hl.shape
 subst hsa hsb hsl
 obtain ⟨na,hna⟩:=zg (A.length)
 obtain ⟨nb,hnb⟩:=zg (B.length)
 obtain ⟨nl,hnl⟩:=zg (link.length)
 rw [←hna,←hnb,←hnl]
 rw [←hna] at HFA hac lA
 rw [←hnb] at HFB hbc lB
 rw [←hnl] at HLV ll
 obtain ⟨x,hx⟩:=zg (finalH k A)
 obtain ⟨y,hy⟩:=zg (finalH k B)
 rw [←hx] at hra
 rw [←hy] at hrb
 obtain ⟨c1,hc1⟩:=zg (finalE k A)
 obtain ⟨c2,hc2⟩:=zg (finalE k B)
 obtain ⟨i1,hi1⟩:=zg (firstP p q A)
 obtain ⟨i2,hi2⟩:=zg (firstP p q B)
 obtain ⟨xv,hxv⟩:=zg (x.V.toArray)
 obtain ⟨yv,hyv⟩:=zg (y.V.toArray)
 obtain ⟨ls,hls⟩:=zg (linkedP k link x y)
 obtain ⟨je,hje⟩:=zg (judgeE k A B p q link)
 have HJ0:=zh hje
 rw [←hje]
 clear hje
 have HJE:Hid (je=if ¬ (c1=0)∨¬ (c2=0)∨(decide (0<(na:Int)) && decide (0<(nb:Int)) && !(x.o.toList == y.o.toList))=true then 180 else if i1<0∨i2<0 then 121 else if ((rcdAt A i1).toList == (rcdAt B i2).toList)=true then 181 else if ls=true then 0 else 180):=zh (by rw [HJ0.out,hc1,hc2,hx,hy,hi1,hi2,hls,hx,hy,hna,hnb];rfl)
 have HFINA:Hid (∀ W,Mv (fun _=>False) w W→Calls Tryz.prog 20 #[.int .i64 k,.slice aa na ac] W fun e w'=>e=.returned (.tuple #[.agg xv,.int .i64 c1])∧Mv (fun _=>False) W w'):=zh fun W hW=>by
  rw [hxv,hx,hc1];exact final_any k _ A W (HFA.out.mv hW) (he.mv hW (fun _ h=>h.elim)) (henv.mv hW)
 have HFINB:Hid (∀ W,Mv (fun _=>False) w W→Calls Tryz.prog 20 #[.int .i64 k,.slice ba nb bc] W fun e w'=>e=.returned (.tuple #[.agg yv,.int .i64 c2])∧Mv (fun _=>False) W w'):=zh fun W hW=>by
  rw [hyv,hy,hc2];exact final_any k _ B W (HFB.out.mv hW) (he.mv hW (fun _ h=>h.elim)) (henv.mv hW)
 have HFSA:Hid (∀ W,Mv (fun _=>False) w W→Calls Tryz.prog 53 #[.slice aa na ac,.string p,.string q] W fun e w'=>e=.returned (.int .i64 i1)∧Mv (fun _=>False) W w'):=zh fun W hW=>by
  rw [hi1];exact first_any _ A p q W (HFA.out.mv hW) (by omega)
 have HFSB:Hid (∀ W,Mv (fun _=>False) w W→Calls Tryz.prog 53 #[.slice ba nb bc,.string p,.string q] W fun e w'=>e=.returned (.int .i64 i2)∧Mv (fun _=>False) W w'):=zh fun W hW=>by
  rw [hi2];exact first_any _ B p q W (HFB.out.mv hW) (by omega)
 have HLNK:Hid (∀ W,Mv (fun _=>False) w W→Calls Tryz.prog 58 #[.int .i64 k,.slice la nl lc,.agg xv,.agg yv] W fun e w'=>e=.returned (.bool ls)∧Mv (fun _=>False) W w'):=zh fun W hW=>by
  rw [hxv,hyv,hls];exact linked_any k _ link x y W (HLV.out.mv hW (fun _ _ h=>h)) hra hrb (he.mv hW (fun _ h=>h.elim))
 have HXI:Hid ((Tryz.prog.info? 36).map (·.size)=some xv.size):=zh (by rw [hxv,List.size_toArray,HeadP.V_len _ hra];exact info36)
 have HXZ:Hid (34=xv.size):=zh (by rw [hxv,List.size_toArray,HeadP.V_len _ hra])
 have HXO:Hid (xv.all (·.oneCell')=true):=zh (by rw [hxv];exact head_one _)
 have HYI:Hid ((Tryz.prog.info? 36).map (·.size)=some yv.size):=zh (by rw [hyv,List.size_toArray,HeadP.V_len _ hrb];exact info36)
 have HYZ:Hid (34=yv.size):=zh (by rw [hyv,List.size_toArray,HeadP.V_len _ hrb])
 have HYO:Hid (yv.all (·.oneCell')=true):=zh (by rw [hyv];exact head_one _)
 have HX0:Hid (xv[0]?=some (.string x.o)):=zh (by rw [hxv];rfl)
 have HY0:Hid (yv[0]?=some (.string y.o)):=zh (by rw [hyv];rfl)
 have HZI:Hid ((Tryz.prog.info? 39).map (·.size)=some z43.size):=zh (by rw [z43_size];exact info39)
 have HX:=zh hx
 have HY:=zh hy
 have HC1:=zh hc1
 have HC2:=zh hc2
 have HI1:=zh hi1
 have HI2:=zh hi2
 have HXV:=zh hxv
 have HYV:=zh hyv
 have HLS:=zh hls
 have HNA:=zh hna
 have HNB:=zh hnb
 have HNL:=zh hnl
 have HRA:=zh hra
 have HRB:=zh hrb
 have HWA:=zh wA
 have HWB:=zh wB
 have HE:=zh he
 have HENV:=zh henv
 have HAJ:=zh haj
 have HBJ:=zh hbj
 clear hra hrb wA wB hna hnb hnl hx hy hc1 hc2 hi1 hi2 hxv hyv hls he henv hl haj hbj
 go_enter Tryz.func26,Tryz.ntmps26
 go_upto_region 1 with fail
 obtain ⟨A12,hA12⟩:=zg (w.heap.size)
 generalize hWX:World.alloc w _=w1
 have hm1:Mv (fun _=>False) w w1:=by rw [←hWX];exact (Mv.refl _ _).alloc _
 have h12:w1.heap[A12]?=some (.cells z43 39 (0,0)):=by rw [←hWX,hA12];exact heap_alloc_new _ _
 rw [←hA12]
 clear hWX
 have M1:=zh hm1
 have H12:=zh h12
 have HA12:=zh hA12
 clear hm1 h12 hA12
 go_upto_region 2 with (go_at_call 20;refine (HFINA.out _ M1.out).mono ?_;rintro e w2 ⟨rfl,hm⟩;have M2:=zh (M1.out.trans hm);have H12b:=zbl hm H12;clear hm;go_upto_region 2 with (refine wpList_store_row rfl 36 _ _ rfl w2.heap.size xv rfl rfl 36 _ (heap_alloc_new _ _) HXI.out HXZ.out HXO.out ?_))
 obtain ⟨A14,hA14⟩:=zg (w2.heap.size)
 have HW:Hid (∀ Z:Array Value,Mv (fun _=>False) w2 ((w2.alloc (.cells Z 36)).setRow w2.heap.size xv)∧((w2.alloc (.cells Z 36)).setRow w2.heap.size xv).heap[A14]?=some (.cells xv 36 (0,0))):=zh fun Z=>⟨((Mv.refl _ _).alloc _).setRow (.inr (Nat.le_refl _)) _,by rw [hA14];exact setRow_heap _ _ _ _ _ _ (heap_alloc_new _ _)⟩
 rw [←hA14]
 generalize hWn:World.setRow _ _ _=w3
 obtain ⟨hmn,hpn⟩:=HW.out _
 rw [←hA14,hWn] at hmn hpn
 have Mw3:=zh (M2.out.trans hmn)
 have PA14:=zh hpn
 have H12c:=zbl hmn H12b
 clear hWn hmn hpn HW hA14
 go_upto_region 3 with (go_at_call 20;refine (HFINB.out _ Mw3.out).mono ?_;rintro e w4 ⟨rfl,hm⟩;have M4:=zh (Mw3.out.trans hm);have H12d:=zbl hm H12c;have PA14b:=zbl hm PA14;clear hm;go_upto_region 3 with (refine wpList_store_row rfl 36 _ _ rfl w4.heap.size yv rfl rfl 36 _ (heap_alloc_new _ _) HYI.out HYZ.out HYO.out ?_))
 obtain ⟨A16,hA16⟩:=zg (w4.heap.size)
 have HW:Hid (∀ Z:Array Value,Mv (fun _=>False) w4 ((w4.alloc (.cells Z 36)).setRow w4.heap.size yv)∧((w4.alloc (.cells Z 36)).setRow w4.heap.size yv).heap[A16]?=some (.cells yv 36 (0,0))):=zh fun Z=>⟨((Mv.refl _ _).alloc _).setRow (.inr (Nat.le_refl _)) _,by rw [hA16];exact setRow_heap _ _ _ _ _ _ (heap_alloc_new _ _)⟩
 rw [←hA16]
 generalize hWn:World.setRow _ _ _=w5
 obtain ⟨hmn,hpn⟩:=HW.out _
 rw [←hA16,hWn] at hmn hpn
 have Mw5:=zh (M4.out.trans hmn)
 have PA16:=zh hpn
 have H12e:=zbl hmn H12d
 have PA14c:=zbl hmn PA14b
 clear hWn hmn hpn HW hA16
 have r0:=cell_of_heap PA14c.out 0 HX0.out
 have s0:=cell_of_heap PA16.out 0 HY0.out
 obtain ⟨xo,hxo⟩:=zg (x.o)
 obtain ⟨yo,hyo⟩:=zg (y.o)
 rw [←hxo] at r0 HJE
 rw [←hyo] at s0 HJE
 have HXO2:=zh hxo
 have HYO2:=zh hyo
 clear hxo hyo
 obtain ⟨bo,hbo⟩:=zg ((xo.toList == yo.toList))
 rw [←hbo] at HJE
 have gbo:=hbo.symm
 clear hbo
 obtain ⟨po,hpo⟩:=zg ((!(c1 == 0) || (!(c2 == 0) || (decide (0<(na:Int)) && decide (0<(nb:Int)) && !bo))))
 have HPO:=zh hpo
 have HJE2:Hid (je=if po=true then 180 else if i1<0∨i2<0 then 121 else if ((rcdAt A i1).toList == (rcdAt B i2).toList)=true then 181 else if ls=true then 0 else 180):=zh (by rw [HJE.out,hpo];by_cases a:c1=0 <;> by_cases b:c2=0 <;> simp [a,b])
 clear hpo HJE
 go_cut [54] (fun s54 wx=>s54=.bool po∧wx=w5)
 case first =>
  by_cases h1:c1=0
  case neg =>
   have g1:(c1 == 0)=false:=by simpa using h1
   go_wp2_with fail
   go_meet
   exact ⟨by rw [HPO.out,g1];rfl,rfl⟩
  subst h1
  by_cases h2:c2=0
  case neg =>
   have g2:(c2 == 0)=false:=by simpa using h2
   go_wp2_with fail
   go_meet
   exact ⟨by rw [HPO.out,g2];rfl,rfl⟩
  subst h2
  by_cases e1:0<(na:Int)
  ·by_cases e2:0<(nb:Int)
   ·have n1:0<na:=by omega
    have n2:0<nb:=by omega
    cases bo
    all_goals
     go_wp2_with fail
     go_meet
     exact ⟨by rw [HPO.out];simp [n1,n2],rfl⟩
   ·have n2:¬ (0<nb):=by omega
    go_wp2_with fail
    go_meet
    exact ⟨by rw [HPO.out];simp [n2],rfl⟩
  ·have n1:¬ (0<na):=by omega
   go_wp2_with fail
   go_meet
   exact ⟨by rw [HPO.out];simp [n1],rfl⟩
 case rest =>
  obtain ⟨rfl,rfl⟩:=hcut
  cases po with
  | true =>
   have hje:je=180:=by rw [HJE2.out,if_pos rfl]
   subst hje
   go_wp2_with ((refine wpList_store_row rfl 39 _ _ rfl A12 z43 rfl rfl 39 z43 H12e.out HZI.out rfl z43_one ?_);go_wp2_with fail)
   refine bodyPost_ret (results_ct (fn:=Tryz.f26) rfl _ _ A12 39 z43 (.int .i64 180) _ rfl rfl (setRow_heap _ _ _ _ _ _ H12e.out) Tryz.underlying39 rfl HZI.out) rfl ?_
   exact ⟨_,rfl,⟨fun _=>rfl,fun h=>by rw [←HJ0.out] at h;cases h⟩,Mw5.out.setRow (.inr (by have:=HA12.out;omega)) _⟩
  | false =>
   by_cases h3:i1<0
   case pos =>
    have hje:je=121:=by rw [HJE2.out,if_neg (by simp),if_pos (.inl h3)]
    subst hje
    go_wp2_with ((go_at_call 53;refine (HFSA.out _ Mw5.out).mono ?_;rintro e w6 ⟨rfl,hm⟩;have M6:=zh (Mw5.out.trans hm);have M56:=zh hm;clear hm);go_wp2_with ((go_at_call 53;refine (HFSB.out _ M6.out).mono ?_;rintro e w7 ⟨rfl,hm⟩;have M7:=zh (M6.out.trans hm);have M57:=zh (M56.out.trans hm);have Q12:=zbl M57.out H12e;clear hm);go_wp2_with ((refine wpList_store_row rfl 39 _ _ rfl A12 z43 rfl rfl 39 z43 Q12.out HZI.out rfl z43_one ?_);go_wp2_with fail)))
    refine bodyPost_ret (results_ct (fn:=Tryz.f26) rfl _ _ A12 39 z43 (.int .i64 121) _ rfl rfl (setRow_heap _ _ _ _ _ _ Q12.out) Tryz.underlying39 rfl HZI.out) rfl ?_
    exact ⟨_,rfl,⟨fun _=>rfl,fun h=>by rw [←HJ0.out] at h;cases h⟩,M7.out.setRow (.inr (by have:=HA12.out;omega)) _⟩
   by_cases h4:i2<0
   case pos =>
    have hje:je=121:=by rw [HJE2.out,if_neg (by simp),if_pos (.inr h4)]
    subst hje
    go_wp2_with ((go_at_call 53;refine (HFSA.out _ Mw5.out).mono ?_;rintro e w6 ⟨rfl,hm⟩;have M6:=zh (Mw5.out.trans hm);have M56:=zh hm;clear hm);go_wp2_with ((go_at_call 53;refine (HFSB.out _ M6.out).mono ?_;rintro e w7 ⟨rfl,hm⟩;have M7:=zh (M6.out.trans hm);have M57:=zh (M56.out.trans hm);have Q12:=zbl M57.out H12e;clear hm);go_wp2_with ((refine wpList_store_row rfl 39 _ _ rfl A12 z43 rfl rfl 39 z43 Q12.out HZI.out rfl z43_one ?_);go_wp2_with fail)))
    refine bodyPost_ret (results_ct (fn:=Tryz.f26) rfl _ _ A12 39 z43 (.int .i64 121) _ rfl rfl (setRow_heap _ _ _ _ _ _ Q12.out) Tryz.underlying39 rfl HZI.out) rfl ?_
    exact ⟨_,rfl,⟨fun _=>rfl,fun h=>by rw [←HJ0.out] at h;cases h⟩,M7.out.setRow (.inr (by have:=HA12.out;omega)) _⟩
   obtain ⟨i,f1,hi,hfi,hk1⟩:=firstP_at p q A (by rw [←HI1.out];exact h3)
   obtain ⟨j,f2,hj,hfj,hk2⟩:=firstP_at p q B (by rw [←HI2.out];exact h4)
   rw [←HI1.out] at hi
   rw [←HI2.out] at hj
   subst hi hj
   have HFI:=zh hfi
   have HFJ:=zh hfj
   have HK1:=zh hk1
   have HK2:=zh hk2
   obtain ⟨ga,oa,ea,oka,sma,pva,nva,hata,hpa,hna2⟩:=HAJ.out i f1 hfi
   obtain ⟨gb,ob,eb,okb,smb,pvb,nvb,hatb,hpb,hnb2⟩:=HBJ.out j f2 hfj
   subst ea eb
   have HIA:Hid (i<na):=zh (by rw [HNA.out];exact (List.getElem?_eq_some_iff.1 hfi).1)
   have HJB:Hid (j<nb):=zh (by rw [HNB.out];exact (List.getElem?_eq_some_iff.1 hfj).1)
   have HR1:Hid (rcdAt A i=f1.rcd):=zh (by unfold rcdAt;rw [Int.toNat_natCast,hfi])
   have HR2:Hid (rcdAt B j=f2.rcd):=zh (by unfold rcdAt;rw [Int.toNat_natCast,hfj])
   have HC0:Hid (c1=0∧c2=0):=zh (by
    have h:=HPO.out
    refine ⟨?_,?_⟩
    ·by_cases a:c1=0
     ·exact a
     ·rw [show (c1 == 0)=false by simpa using a] at h;simp at h
    ·by_cases a:c2=0
     ·exact a
     ·rw [show (c2 == 0)=false by simpa using a] at h;simp at h)
   rw [HR1.out,HR2.out] at HJE2
   have q4a:w.cell? ⟨ga,oa+i * 75+4,none⟩=some (.string f1.rcd):=hata 4 _ rfl
   have q4b:w.cell? ⟨gb,ob+j * 75+4,none⟩=some (.string f2.rcd):=hatb 4 _ rfl
   have LTA:Hid (ga<w.heap.size):=zh (World.block_lt_of_cell? _ _ q4a)
   have LTB:Hid (gb<w.heap.size):=zh (World.block_lt_of_cell? _ _ q4b)
   have HQA:=zh q4a
   have HQB:=zh q4b
   have HNE1:Hid (je=if (f1.rcd.toList == f2.rcd.toList)=true then 181 else if ls=true then 0 else 180):=zh (by rw [HJE2.out,if_neg (by simp),if_neg (by omega)])
   clear hfi hfj hk1 hk2 hata hpa hna2 hatb hpb hnb2 oka sma okb smb q4a q4b HJE2
   obtain ⟨rr,hrr⟩:=zg ((f1.rcd.toList == f2.rcd.toList))
   rw [←hrr] at HNE1
   have HRR:=zh hrr
   have grr:=hrr.symm
   clear hrr
   go_upto_region 8 with ((go_at_call 53;refine (HFSA.out _ Mw5.out).mono ?_;rintro e w6 ⟨rfl,hm⟩;have M6:=zh (Mw5.out.trans hm);have M56:=zh hm;clear hm);go_upto_region 8 with (go_at_call 53;refine (HFSB.out _ M6.out).mono ?_;rintro e w7 ⟨rfl,hm⟩;have M7:=zh (M6.out.trans hm);have M57:=zh (M56.out.trans hm);have Q12:=zbl M57.out H12e;clear hm))
   have hia:(i:Int)<na:=by have:=HIA.out;omega
   have hjb:(j:Int)<nb:=by have:=HJB.out;omega
   have qa:=(M7.out.cell (p:=⟨ga,oa+i * 75+4,none⟩) LTA.out id).trans HQA.out
   have qb:=(M7.out.cell (p:=⟨gb,ob+j * 75+4,none⟩) LTB.out id).trans HQB.out
   have T14:=zbl M57.out PA14c
   have T16:=zbl M57.out PA16
   have gid:∀ z:ByteArray,z=z:=fun _=>rfl
   clear gid
   go_quiet (fail)
   rename_i nq
   have hq8:Mv (fun _=>False) w7 (w7.drewN nq):=Mv.drewN' (Mv.refl _ _) nq
   generalize w7.drewN nq=w8 at hq8 ⊢
   have M8:=zh (M7.out.trans hq8)
   have U12:=zbl hq8 Q12
   have U14:=zbl hq8 T14
   have U16:=zbl hq8 T16
   clear hq8 qa qb
   cases rr with
   | true =>
    have hje:je=181:=by rw [HNE1.out,if_pos rfl]
    subst hje
    go_wp2_with ((refine wpList_store_row rfl 39 _ _ rfl A12 z43 rfl rfl 39 z43 U12.out HZI.out rfl z43_one ?_);go_wp2_with fail)
    refine bodyPost_ret (results_ct (fn:=Tryz.f26) rfl _ _ A12 39 z43 (.int .i64 181) _ rfl rfl (setRow_heap _ _ _ _ _ _ U12.out) Tryz.underlying39 rfl HZI.out) rfl ?_
    exact ⟨_,rfl,⟨fun _=>rfl,fun h=>by rw [←HJ0.out] at h;cases h⟩,M8.out.setRow (.inr (by have:=HA12.out;omega)) _⟩
   | false =>
    cases ls with
    | false =>
     have hje:je=180:=by rw [HNE1.out];rfl
     subst hje
     go_wp2_with ((refine wpList_load_row rfl 36 (.tmp 14) rfl A14 rfl 36 xv (0,0) _ U14.out Tryz.underlying36 rfl HXI.out ?_);go_wp2_with ((refine wpList_load_row rfl 36 (.tmp 16) rfl A16 rfl 36 yv (0,0) _ U16.out Tryz.underlying36 rfl HYI.out ?_);go_wp2_with ((go_at_call 58;refine (HLNK.out _ M8.out).mono ?_;rintro e w9 ⟨rfl,hm⟩;have M9:=zh (M8.out.trans hm);have V12:=zbl hm U12;have V14:=zbl hm U14;have V16:=zbl hm U16;clear hm);go_wp2_with ((refine wpList_store_row rfl 39 _ _ rfl A12 z43 rfl rfl 39 z43 V12.out HZI.out rfl z43_one ?_);go_wp2_with fail))))
     refine bodyPost_ret (results_ct (fn:=Tryz.f26) rfl _ _ A12 39 z43 (.int .i64 180) _ rfl rfl (setRow_heap _ _ _ _ _ _ V12.out) Tryz.underlying39 rfl HZI.out) rfl ?_
     exact ⟨_,rfl,⟨fun _=>rfl,fun h=>by rw [←HJ0.out] at h;cases h⟩,M9.out.setRow (.inr (by have:=HA12.out;omega)) _⟩
    | true =>
     have hje:je=0:=by rw [HNE1.out];rfl
     subst hje
     go_upto_region 12 with ((refine wpList_load_row rfl 36 (.tmp 14) rfl A14 rfl 36 xv (0,0) _ U14.out Tryz.underlying36 rfl HXI.out ?_);go_upto_region 12 with ((refine wpList_load_row rfl 36 (.tmp 16) rfl A16 rfl 36 yv (0,0) _ U16.out Tryz.underlying36 rfl HYI.out ?_);go_upto_region 12 with (go_at_call 58;refine (HLNK.out _ M8.out).mono ?_;rintro e w9 ⟨rfl,hm⟩;have M9:=zh (M8.out.trans hm);have V12:=zbl hm U12;have V14:=zbl hm U14;have V16:=zbl hm U16;clear hm)))
     obtain ⟨e5,he5⟩:=zg (w9.heap.size)
     clear he5
     have HSA:Hid (∀ W,Mv (fun _=>False) w W→Calls Tryz.prog 60 #[.slice (some ⟨ga,oa,none⟩) na ac,.int .i64 i,.agg xv] W fun e w'=>∃ pv nv mv,e=.returned (.agg (sideC f1 pv nv mv x))∧HsIn w' pv f1.proof∧SlIn w' nv f1.note∧FactsIn w' mv (movesP (A.drop i))∧Mv (fun _=>False) W w'):=zh fun W hW=>by
      rw [HXV.out]
      refine (sideOf_any _ A i f1 x W (HFA.out.mv hW) HFI.out (by rw [←HNA.out];exact lA) HRA.out).mono ?_
      rintro e w' ⟨pv,nv,mv,h1,h2,h3,h4,h5⟩
      exact ⟨pv,nv,mv,h1,h2.mv h5 (fun _ _ h=>h),h3.mv h5 (fun _ _ h=>h),h4,h5⟩
     have HSB:Hid (∀ W,Mv (fun _=>False) w W→Calls Tryz.prog 60 #[.slice (some ⟨gb,ob,none⟩) nb bc,.int .i64 j,.agg yv] W fun e w'=>∃ pv nv mv,e=.returned (.agg (sideC f2 pv nv mv y))∧HsIn w' pv f2.proof∧SlIn w' nv f2.note∧FactsIn w' mv (movesP (B.drop j))∧Mv (fun _=>False) W w'):=zh fun W hW=>by
      rw [HYV.out]
      refine (sideOf_any _ B j f2 y W (HFB.out.mv hW) HFJ.out (by rw [←HNB.out];exact lB) HRB.out).mono ?_
      rintro e w' ⟨pv,nv,mv,h1,h2,h3,h4,h5⟩
      exact ⟨pv,nv,mv,h1,h2.mv h5 (fun _ _ h=>h),h3.mv h5 (fun _ _ h=>h),h4,h5⟩
     have HSD1:Hid (SideOk k p.data.toList q.data.toList f1 (movesP (A.drop i)) x):=zh (by rw [HX.out];exact side_law k p q A _ _ _ i f1 HWA.out (final_good (HC1.out.symm.trans HC0.out.1)) HFI.out HK1.out)
     have HSD2:Hid (SideOk k p.data.toList q.data.toList f2 (movesP (B.drop j)) y):=zh (by rw [HY.out];exact side_law k p q B _ _ _ j f2 HWB.out (final_good (HC2.out.symm.trans HC0.out.2)) HFJ.out HK2.out)
     have HNER:Hid (f1.rcd.data.toList≠f2.rcd.data.toList):=zh (by have:=HRR.out;rw [ByteArray.toList_eq,ByteArray.toList_eq] at this;exact fun e=>by rw [e] at this;simp at this)
     have HLJ:Hid (∀ W pv1 nv1 mv1 pv2 nv2 mv2,Mv (fun _=>False) w W→HsIn W pv1 f1.proof→SlIn W nv1 f1.note→FactsIn W mv1 (movesP (A.drop i))→HsIn W pv2 f2.proof→SlIn W nv2 f2.note→FactsIn W mv2 (movesP (B.drop j))→Calls Tryz.prog 59 #[.int .i64 k,.agg (sideC f1 pv1 nv1 mv1 x),.agg (sideC f2 pv2 nv2 mv2 y),.slice la nl lc] W fun e w'=>∃ V cs,e=.returned (.tuple #[.agg cs,.int .i64 0])∧JudgedR k f1 f2 (movesP (A.drop i)) (movesP (B.drop j)) x y link V∧VerOwn w' W.heap.size cs V∧Mv (fun _=>False) W w'):=zh fun W pv1 nv1 mv1 pv2 nv2 mv2 hW h1 h2 h3 h4 h5 h6 =>
      judged_any k f1 f2 pv1 nv1 mv1 pv2 nv2 mv2 _ x y link _ _ p.data.toList q.data.toList W h1 h2 h3 h4 h5 h6 (HLV.out.mv hW (fun _ _ h=>h)) (Nat.le_trans (movesP_len _) (by rw [List.length_drop,←HNA.out];omega)) (Nat.le_trans (movesP_len _) (by rw [List.length_drop,←HNB.out];omega)) (by rw [←HNL.out];exact ll) HSD1.out HSD2.out HRA.out HRB.out HLS.out.symm HNER.out (HE.out.mv hW (fun _ h=>h.elim))
     clear hia hjb
     have N14:Hid (A14≠A12):=zh (fun e=>by have h1:=V14.out;have h2:=V12.out;rw [e,h2] at h1;injection h1 with h1;injection h1 with _ h1 _;exact absurd h1 (by decide))
     have N16:Hid (A16≠A12):=zh (fun e=>by have h1:=V16.out;have h2:=V12.out;rw [e,h2] at h1;injection h1 with h1;injection h1 with _ h1 _;exact absurd h1 (by decide))
     refine wp_region_noPanic ?_
     refine wp_region_held_drew (S:=(fun w'=>Mv (fun b=>b=A12) w9 w')) (by kernel_rfl) ((Mv.refl _ _).drew) (fun hHeld=>?_)
     refine zt 0 (.int .i64 k) rfl (fun _ hS=>by go_simp) hHeld ?_
     try walk_nrm
     refine zt 1 (.slice (some ⟨ga,oa,none⟩) na ac) rfl (fun _ hS=>by go_simp) hHeld ?_
     try walk_nrm
     refine zt 2 (.int .i64 i) rfl (fun _ hS=>by go_simp) hHeld ?_
     try walk_nrm
     obtain ⟨xl,hxl⟩:=zg (x.V)
     obtain ⟨yl,hyl⟩:=zg (y.V)
     have hxl2:xv=xl.toArray:=by rw [HXV.out,hxl]
     have hyl2:yv=yl.toArray:=by rw [HYV.out,hyl]
     have HX14:Hid (∀ (t:Nat) u,xl[t]?=some u→w9.cell? ⟨A14,0+t,none⟩=some u):=zh fun t u hu=>cell_of_heap V14.out _ (by rw [Nat.zero_add,hxl2];simpa using hu)
     have HY16:Hid (∀ (t:Nat) u,yl[t]?=some u→w9.cell? ⟨A16,0+t,none⟩=some u):=zh fun t u hu=>cell_of_heap V16.out _ (by rw [Nat.zero_add,hyl2];simpa using hu)
     have HXI3:Hid ((Tryz.prog.info? 36).map (·.size)=some xl.length):=zh (by have:=HXI.out;rw [hxl2] at this;simpa using this)
     have HYI3:Hid ((Tryz.prog.info? 36).map (·.size)=some yl.length):=zh (by have:=HYI.out;rw [hyl2] at this;simpa using this)
     have HXL2:=zh hxl2
     have HYL2:=zh hyl2
     clear hxl hyl hxl2 hyl2
     refine zj 3 (.agg xl.toArray) rfl (yieldsIf_load_mid (by rfl) 36 _ rfl A14 0 rfl xl _ (fun _ h=>fun t v hv=>(Mv.cell h (p:=⟨A14,0+t,none⟩) (World.block_lt_of_cell? _ _ (HX14.out t v hv)) N14.out).trans (HX14.out t v hv)) Tryz.underlying36 rfl HXI3.out) hHeld ?_
     try walk_nrm
     refine zt 5 (.slice (some ⟨gb,ob,none⟩) nb bc) rfl (fun _ hS=>by go_simp) hHeld ?_
     try walk_nrm
     refine zt 6 (.int .i64 j) rfl (fun _ hS=>by go_simp) hHeld ?_
     try walk_nrm
     refine zj 7 (.agg yl.toArray) rfl (yieldsIf_load_mid (by rfl) 36 _ rfl A16 0 rfl yl _ (fun _ h=>fun t v hv=>(Mv.cell h (p:=⟨A16,0+t,none⟩) (World.block_lt_of_cell? _ _ (HY16.out t v hv)) N16.out).trans (HY16.out t v hv)) Tryz.underlying36 rfl HYI3.out) hHeld ?_
     try walk_nrm
     refine zt 9 (.slice la nl lc) rfl (fun _ hS=>by go_simp) hHeld ?_
     try walk_nrm
     refine zo 4 rfl fun K' hK=>?_
     unfold Oper.wp execOp
     go_simp
     have hcall:=HSA.out w9.drew (M9.out.trans (Mv.refl (fun _=>False) w9).drew)
     rw [HXL2.out] at hcall
     refine hcall.mono ?_
     rintro e wa ⟨pv1,nv1,mv1,rfl,hp1,hn1,hmv1,hm⟩
     clear hcall
     have HP1:=zh hp1
     have HN1:=zh hn1
     have HM1:=zh hmv1
     clear hp1 hn1 hmv1
     have Fwa:=zh ((Mv.refl (fun _=>False) w9).drew.trans hm)
     have hs:=Fwa.out.mono (G:=fun b=>b=A12) (fun _ _ h=>h.elim)
     clear hm
     refine hK.out _ _ hs (fun hHeld=>?_)
     clear hK K'
     try walk_nrm
     clear hs
     refine zo 8 rfl fun K' hK=>?_
     unfold Oper.wp execOp
     go_simp
     have hcall:=HSB.out wa (M9.out.trans Fwa.out)
     rw [HYL2.out] at hcall
     refine hcall.mono ?_
     rintro e wb ⟨pv2,nv2,mv2,rfl,hp2,hn2,hmv2,hm⟩
     clear hcall
     have HP2:=zh hp2
     have HN2:=zh hn2
     have HM2:=zh hmv2
     clear hp2 hn2 hmv2
     have Fwb:=zh (Fwa.out.trans hm)
     have HP1b:=zh (HP1.out.mv hm (fun _ _ h=>h))
     have HN1b:=zh (HN1.out.mv hm (fun _ _ h=>h))
     have HM1b:=zh (HM1.out.mv hm)
     have hs:=Fwb.out.mono (G:=fun b=>b=A12) (fun _ _ h=>h.elim)
     clear hm
     refine hK.out _ _ hs (fun hHeld=>?_)
     clear hK K'
     try walk_nrm
     clear hs
     refine zo 10 rfl fun K' hK=>?_
     unfold Oper.wp execOp
     go_simp
     refine (HLJ.out wb pv1 nv1 mv1 pv2 nv2 mv2 (M9.out.trans Fwb.out) HP1b.out HN1b.out HM1b.out HP2.out HN2.out HM2.out).mono ?_
     rintro e wc ⟨V,cs,rfl,hjr,hvo,hm⟩
     have HJR:=zh hjr
     have HVO:=zh hvo
     have WB:=zh (M9.out.trans Fwb.out)
     have F3:=zh (Fwb.out.trans hm)
     have WC:=zh (M9.out.trans F3.out)
     have hs:=F3.out.mono (G:=fun b=>b=A12) (fun _ _ h=>h.elim)
     clear hjr hvo hm
     refine hK.out _ _ hs (fun hHeld=>?_)
     clear hK K'
     try walk_nrm
     have S12:=zbl F3.out V12
     clear hs
     refine zt 11 (.agg cs) rfl (fun _ hS=>by go_simp) hHeld ?_
     try walk_nrm
     refine zt 12 (.int .i64 0) rfl (fun _ hS=>by go_simp) hHeld ?_
     try walk_nrm
     refine zo 13 rfl fun K' hK=>?_
     have hcz:=(VerOwn.in HVO.out).size
     have hco:=(VerOwn.in HVO.out).one
     have HCI:Hid ((Tryz.prog.info? 39).map (·.size)=some cs.size):=zh (by rw [hcz];exact info39)
     refine wp_store_row 39 (.tmp 12) (.tmp 101) rfl A12 cs rfl rfl 39 z43 S12.out HCI.out (by rw [z43_size,hcz]) hco ?_
     have hmz:Mv (fun b=>b=A12) wc (wc.setRow A12 cs):=(Mv.refl (fun b=>b=A12) _).setRow (.inl rfl) _
     have hs:=hHeld.trans hmz
     have HZ12:=zh (setRow_heap _ _ _ cs _ _ S12.out)
     have HWZ:Hid (Mv (fun _=>False) w (wc.setRow A12 cs)):=zh (WC.out.trans' hmz (fun i hi e=>by have:=HA12.out;omega))
     have HVZ:Hid (VerOwn (wc.setRow A12 cs) w.heap.size cs V):=zh (VerOwn.row S12.out WB.out.size HVO.out)
     clear hmz hcz hco
     refine hK.out _ _ hs (fun hHeld=>?_)
     clear hK K'
     try walk_nrm
     clear hs
     refine zt 14 (.int .i64 0) rfl (fun _ hS=>by go_simp) hHeld ?_
     try walk_nrm
     refine zd ?_
     go_wp2_with fail
     refine bodyPost_ret (results_ct (fn:=Tryz.f26) rfl _ _ A12 39 cs (.int .i64 0) _ rfl rfl HZ12.out Tryz.underlying39 rfl HCI.out) rfl ?_
     exact ⟨_,rfl,⟨fun h=>absurd HJ0.out.symm h,fun _=>⟨i,j,f1,f2,V,HI1.out.symm,HI2.out.symm,HFI.out,HFJ.out,HK1.out,HK2.out,by rw [←HX.out,←HY.out];exact HJR.out,HVZ.out⟩⟩,HWZ.out⟩
end Go.Proofs.YtdfdikpklddnhaaGreatDoor
