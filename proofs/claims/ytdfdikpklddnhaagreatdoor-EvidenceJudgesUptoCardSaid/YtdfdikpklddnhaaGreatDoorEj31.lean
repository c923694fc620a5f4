/- Of the proof of EvidenceJudges, second form: for values of bulk at most 1048576. (Ej31) -/
import Derived.Test.YtdfdikpklddnhaaGreatDoorEj01
import Derived.Test.YtdfdikpklddnhaaGreatDoorEj30
import Derived.MakeChecks
namespace Go.Proofs.YtdfdikpklddnhaaGreatDoor
open Go.RowKit Go.ChangeShapes Go.WideShapes Go.ChangeAt Go.Lib
theorem cells_of_var {W:World} {name:String} {d:DataW Unit} {g t:Nat} (h:VarReads Tryz.prog W name d) (hg:Tryz.prog.globalNamed name=some g) (ht:(Tryz.prog.globals[g]?).map (·.type)=some t) :
  ∃ (cs:Array Value) (fuel:Nat) (p:List MemPlace),(∀ i,W.cell? ⟨g,i,none⟩=cs[i]?)∧DataW.trod (fun _=>()) Tryz.prog W 0 (fun _=>true) false fuel t cs.toList=some (d,p):=by
 obtain ⟨g',t',cs,fuel,p,h1,h2,h3,h4⟩:=h
 obtain rfl:=Option.some.inj (hg.symm.trans h1)
 obtain rfl:=Option.some.inj (ht.symm.trans h2)
 exact ⟨cs,fuel,p,fun i=>World.var?_cell h1 h3 i,h4⟩
theorem ints_of_var {W:World} {name:String} {g t e n:Nat} {k:IntKind} {zs:List Int} (h:VarReads Tryz.prog W name (tabData k zs)) (hg:Tryz.prog.globalNamed name=some g) (ht:(Tryz.prog.globals[g]?).map (·.type)=some t)
  (hu:Tryz.prog.underlying t=some (.array n e)) (he:Tryz.prog.underlying e=some (.int k)) (hce:Tryz.prog.cellsOf e=1) (hct:Tryz.prog.cellsOf t=n) :
  ∀ (j:Nat) v,(zs.map fun z=>Value.int k z)[j]?=some v→W.cell? ⟨g,j,none⟩=some v:=by
 obtain ⟨cs,fuel,p,h1,h2⟩:=cells_of_var h hg ht
 have hc:=cells_of_tab hu he hce hct h2
 intro j v hv
 rw [h1,←Array.getElem?_toList,hc]
 exact hv
theorem strs_of_var {W:World} {name:String} {g t e n:Nat} {zs:List Bs} (h:VarReads Tryz.prog W name (.agg (zs.map fun z=>.lit (.string z)))) (hg:Tryz.prog.globalNamed name=some g) (ht:(Tryz.prog.globals[g]?).map (·.type)=some t)
  (hu:Tryz.prog.underlying t=some (.array n e)) (he:Tryz.prog.underlying e=some .string) (hce:Tryz.prog.cellsOf e=1) :
  ∀ (j:Nat) v,(zs.map fun z=>Value.string ⟨z.toArray⟩)[j]?=some v→W.cell? ⟨g,j,none⟩=some v:=by
 obtain ⟨cs,fuel,p,h1,h2⟩:=cells_of_var h hg ht
 obtain ⟨xs,m,_,hx,hl,hxl,hall⟩:=DataW.trod_array hu h2
 simp only [Prod.mk.injEq,DataW.agg.injEq] at hx
 intro j v hv
 rw [List.getElem?_map] at hv
 cases hz:zs[j]? with
 | none=>rw [hz] at hv;cases hv
 | some z =>
  rw [hz] at hv
  have hxj:(xs.map (·.1))[j]?=some (.lit (.string z)):=by rw [←hx.1,List.getElem?_map,hz];rfl
  have hj:j<n:=by
   have:=(List.getElem?_eq_some_iff.1 hxj).1
   rw [List.length_map,hxl] at this;exact this
  have hy:=hall j hj
  rw [hce,Nat.mul_one] at hy
  rw [List.getElem?_map] at hxj
  cases hq:xs[j]? with
  | none=>rw [hq] at hxj;cases hxj
  | some y =>
   rw [hq] at hxj hy
   simp only [Option.map_some,Option.some.injEq] at hxj
   obtain ⟨s,e1,e2,_⟩:=DataW.trod_string he hy
   rw [e2] at hxj
   simp only [DataW.lit.injEq,Lit.string.injEq] at hxj
   have h0:((cs.toList.drop j).take 1)[0]?=some (.string s):=by rw [e1];rfl
   rw [h1,←Array.getElem?_toList]
   have h3:cs.toList[j]?=some (.string s):=by simpa using h0
   rw [h3,←hv,←hxj]
   simp
theorem Tryz.cells338':Tryz.prog.cellsOf 338=3:=by kernel_rfl
set_option maxRecDepth 100000 in
theorem turns_of_var {W : World} (h : VarReads Tryz.prog W "ledger/sha.turns256" (.agg [tabData .i64 [2, 13, 22], tabData .i64 [6, 11, 25], tabData .i64 [7, 18, 3], tabData .i64 [17, 19, 10]]))
  (hg : Tryz.prog.globalNamed "ledger/sha.turns256" = some 4) (ht : (Tryz.prog.globals[4]?).map (·.type) = some 340) : ∀ (j : Nat) v, turnsV[j]? = some v → W.cell? ⟨4, j, none⟩ = some v := by
 obtain ⟨cs,fuel,p,h1,h2⟩:=cells_of_var h hg ht
 obtain ⟨xs,q,_,hx,hl,hxl,hall⟩:=DataW.trod_struct Tryz.underlying340 h2
 simp only [Prod.mk.injEq,DataW.agg.injEq] at hx
 match xs,hxl with
 | [y0,y1,y2,y3],_ =>
  simp only [List.map_cons,List.map_nil,List.cons.injEq,and_true] at hx
  obtain ⟨⟨x0,x1,x2,x3⟩,_⟩:=hx
  have get:∀ (off:Nat) (y:DataW Unit × List MemPlace) (zs:List Int),tabData .i64 zs=y.1→DataW.trod (fun _=>()) Tryz.prog W 0 (fun _=>true) false q 338 ((cs.toList.drop off).take 3)=some y→∀ (j:Nat) v,(zs.map fun z=>Value.int .i64 z)[j]?=some v→j<3→W.cell? ⟨4,off+j,none⟩=some v:=fun off y zs e hy j v hv hj=>by
   obtain ⟨ya,yb⟩:=y
   simp only at e
   subst e
   have hc:=cells_of_tab Tryz.underlying338 Tryz.underlying3 Tryz.cells3' Tryz.cells338' hy
   rw [h1,←Array.getElem?_toList]
   have h3:((cs.toList.drop off).take 3)[j]?=some v:=by rw [hc];exact hv
   rw [List.getElem?_take_of_lt hj,List.getElem?_drop] at h3
   exact h3
  have a0:=hall 0 _ rfl
  have a1:=hall 1 _ rfl
  have a2:=hall 2 _ rfl
  have a3:=hall 3 _ rfl
  simp only [List.getElem?_cons_zero,List.getElem?_cons_succ] at a0 a1 a2 a3
  have c0:=get 0 _ _ x0 a0
  have c1:=get 3 _ _ x1 a1
  have c2:=get 6 _ _ x2 a2
  have c3:=get 9 _ _ x3 a3
  intro j v hv
  have hj:j<12:=(Array.getElem?_eq_some_iff.1 hv).1
  match j,hj,hv with
  | 0,_,hv=>exact c0 0 v hv (by omega)
  | 1,_,hv=>exact c0 1 v hv (by omega)
  | 2,_,hv=>exact c0 2 v hv (by omega)
  | 3,_,hv=>exact c1 0 v hv (by omega)
  | 4,_,hv=>exact c1 1 v hv (by omega)
  | 5,_,hv=>exact c1 2 v hv (by omega)
  | 6,_,hv=>exact c2 0 v hv (by omega)
  | 7,_,hv=>exact c2 1 v hv (by omega)
  | 8,_,hv=>exact c2 2 v hv (by omega)
  | 9,_,hv=>exact c3 0 v hv (by omega)
  | 10,_,hv=>exact c3 1 v hv (by omega)
  | 11,_,hv=>exact c3 2 v hv (by omega)
set_option maxRecDepth 100000 in
set_option linter.constructorNameAsVariable false in
theorem maxLen_of_shaped {W:World} (h:W.ShapedOpen Tryz.prog):∃ m:Int,W.cell? ⟨0,0,none⟩=some (.int .i64 m):=by
 obtain ⟨cs,hc,hz,hr⟩:=h.1 0 #[.int .i64 0] 3 (of_decide_eq_true (by kernel_rfl)) (by kernel_rfl)
 obtain ⟨ts,hts,_,hv⟩:=hr (by kernel_rfl)
 have hts2:Tryz.prog.cellTypes Tryz.prog.depth 3=some [3]:=by kernel_rfl
 obtain rfl:=Option.some.inj (hts.symm.trans hts2)
 have hsz:cs.size=1:=hz
 obtain ⟨u,hu,hok⟩:=hv 0 (cs[0]'(by omega)) (Array.getElem?_eq_getElem _)
 simp only [List.length_cons,List.length_nil,Nat.zero_mod,List.getElem?_cons_zero,Option.some.injEq] at hu
 subst hu
 unfold Cell.ok at hok
 rw [Tryz.underlying3] at hok
 have hcell:W.cell? ⟨0,0,none⟩=some (cs[0]'(by omega)):=by
  unfold World.cell?
  simp [hc,Array.getElem?_eq_getElem (show 0<cs.size by omega)]
 generalize cs[0]'(by omega)=v at hok hcell
 cases v with
 | int k n =>
  simp only at hok
  obtain ⟨rfl,_⟩:=hok
  exact ⟨n,hcell⟩
 | _=>simp at hok
theorem big_of_shaped {W:World} (h:W.ShapedOpen Tryz.prog):20<W.heap.size:=by
 have hg:(20:Nat)<Tryz.prog.globals.size:=of_decide_eq_true (by kernel_rfl)
 have hz:((((begin Tryz.prog (fun _ _=>0) default).world.heap[20]?).bind Obj.row?).isSome)=true:=by kernel_rfl
 obtain ⟨r,hr⟩:=Option.isSome_iff_exists.1 hz
 obtain ⟨cs,hc,_⟩:=h.1 20 r.1 r.2 hg hr
 exact lt_of_heap hc
def roundsL:List Int:=(List.range 64).map fun j=>((kc j).toNat:Int)
def startsL:List Int:=[0x6a09e667f3bcc908,0xbb67ae8584caa73b,0x3c6ef372fe94f82b,0xa54ff53a5f1d36f1,0x510e527fade682d1,0x9b05688c2b3e6c1f,0x1f83d9abfb41bd6b,0x5be0cd19137e2179]
theorem gno2 : Tryz.prog.globalNamed "ledger/sha.starts" = some 2 := by kernel_rfl
theorem gno3 : Tryz.prog.globalNamed "ledger/sha.rounds256" = some 3 := by kernel_rfl
theorem gno4 : Tryz.prog.globalNamed "ledger/sha.turns256" = some 4 := by kernel_rfl
theorem gno8 : Tryz.prog.globalNamed "ledger/modver.marks" = some 8 := by kernel_rfl
theorem gno9 : Tryz.prog.globalNamed "ledger/modver.devices" = some 9 := by kernel_rfl
theorem gty2:(Tryz.prog.globals[2]?).map (·.type)=some 287:=by kernel_rfl
theorem gty3:(Tryz.prog.globals[3]?).map (·.type)=some 333:=by kernel_rfl
theorem gty4:(Tryz.prog.globals[4]?).map (·.type)=some 340:=by kernel_rfl
theorem gty8:(Tryz.prog.globals[8]?).map (·.type)=some 354:=by kernel_rfl
theorem gty9:(Tryz.prog.globals[9]?).map (·.type)=some 355:=by kernel_rfl
theorem Tryz.cells283':Tryz.prog.cellsOf 283=1:=by kernel_rfl
theorem Tryz.cells204':Tryz.prog.cellsOf 204=1:=by kernel_rfl
theorem Tryz.cells21':Tryz.prog.cellsOf 21=1:=by kernel_rfl
theorem Tryz.cells287':Tryz.prog.cellsOf 287=8:=by kernel_rfl
theorem Tryz.cells333':Tryz.prog.cellsOf 333=64:=by kernel_rfl
theorem Tryz.cells354':Tryz.prog.cellsOf 354=5:=by kernel_rfl
theorem data_starts:(Rows.laid_ledger_sha_starts:DataW Unit)=tabData .u64 startsL:=by kernel_rfl
theorem data_rounds:(Rows.laid_ledger_sha_rounds256:DataW Unit)=tabData .u32 roundsL:=by kernel_rfl
theorem data_marks:(Rows.laid_ledger_modver_marks:DataW Unit)=tabData .i32 [45,46,95,126,47]:=by kernel_rfl
theorem data_devs:(Rows.laid_ledger_modver_devices:DataW Unit)=.agg (devs.map fun z=>.lit (.string z)):=by kernel_rfl
theorem data_turns:(Rows.laid_ledger_sha_turns256:DataW Unit)=.agg [tabData .i64 [2,13,22],tabData .i64 [6,11,25],tabData .i64 [7,18,3],tabData .i64 [17,19,10]]:=by kernel_rfl
theorem startsV_eq:startsV.toList=startsL.map fun z=>Value.int .u64 z:=by kernel_rfl
set_option maxRecDepth 100000 in
theorem env_of_laid {W:World} {laid:List (String × DataW Unit)} (h:laidMetH Tryz.prog laid W) (hp:(laid.all fun x=>x.2.handleName?.isNone)=true) (hsh:W.ShapedOpen Tryz.prog)
  (m1 : ("ledger/sha.starts", Rows.laid_ledger_sha_starts) ∈ laid) (m2 : ("ledger/sha.rounds256", Rows.laid_ledger_sha_rounds256) ∈ laid) (m3 : ("ledger/sha.turns256", Rows.laid_ledger_sha_turns256) ∈ laid)
  (m4 : ("ledger/modver.marks", Rows.laid_ledger_modver_marks) ∈ laid) (m5 : ("ledger/modver.devices", Rows.laid_ledger_modver_devices) ∈ laid) : EnvH W ∧ EnvP W := by
 rw [MakeChecks.laidMetH_plain _ _ _ hp] at h
 have r1:=Go.Lib.laidMet.reads h m1
 have r2:=Go.Lib.laidMet.reads h m2
 have r3:=Go.Lib.laidMet.reads h m3
 have r4:=Go.Lib.laidMet.reads h m4
 have r5:=Go.Lib.laidMet.reads h m5
 rw [data_starts] at r1
 rw [data_rounds] at r2
 rw [data_turns] at r3
 rw [data_marks] at r4
 rw [data_devs] at r5
 have c1:=ints_of_var r1 gno2 gty2 Tryz.underlying287 Tryz.underlying283 Tryz.cells283' Tryz.cells287'
 have c2:=ints_of_var r2 gno3 gty3 Tryz.underlying333 Tryz.underlying204 Tryz.cells204' Tryz.cells333'
 have c3:=turns_of_var r3 gno4 gty4
 have c4:=ints_of_var r4 gno8 gty8 Tryz.underlying354 Tryz.underlying21 Tryz.cells21' Tryz.cells354'
 have c5:=strs_of_var r5 gno9 gty9 Tryz.underlying355 Tryz.underlying9 Tryz.cells9'
 refine ⟨⟨⟨fun j hj=>?_,c3⟩,fun j v hv=>?_,big_of_shaped hsh⟩,⟨maxLen_of_shaped hsh,?_⟩,c5⟩
 ·refine c2 j _ ?_
  unfold roundsL
  rw [List.map_map,List.getElem?_map,List.getElem?_range hj]
  rfl
 ·refine c1 j v ?_
  rw [←startsV_eq,Array.getElem?_toList]
  exact hv
 ·exact ⟨c4 0 _ rfl,c4 1 _ rfl,c4 2 _ rfl,c4 3 _ rfl,c4 4 _ rfl⟩
end Go.Proofs.YtdfdikpklddnhaaGreatDoor
