/- ClimbTree. Printed by gen/genctr.py. -/
import Derived.Test.YtdfdikpklddnhaaGreatDoorEr22
namespace Go.Proofs.YtdfdikpklddnhaaGreatDoor
open Go.RowKit
set_option linter.unusedSimpArgs false

theorem results_cct {fn : Func} {t p p' : Tmp} {ty ty' : TypeId} (h : fn.results = #[.cell p ty, .cell p' ty', .tmp t]) (tmps : Array Value) (w : World) (b b' : Nat) (et et' : TypeId) (cs cs' : Array Value) (u : Value) (d d' : TypeDesc) (ht : tmps.getD t undef = u) (hp : tmps.getD p undef = .pointer (some ⟨b, 0, none⟩)) (hp2 : tmps.getD p' undef = .pointer (some ⟨b', 0, none⟩)) (hg : w.heap[b]? = some (.cells cs et (0, 0))) (hg2 : w.heap[b']? = some (.cells cs' et' (0, 0)))
    (hu : Tryz.prog.underlying ty = some d) (hu2 : Tryz.prog.underlying ty' = some d') (hd : d.isRow = true) (hd2 : d'.isRow = true) (hi : (Tryz.prog.info? ty).map (·.size) = some cs.size) (hi2 : (Tryz.prog.info? ty').map (·.size) = some cs'.size) :
    (results fn tmps).run Tryz.prog w = .ok (.tuple #[.agg cs, .agg cs', u]) w := by
  have e := run_loadVar_row w b et ty cs (0, 0) d hg hu (by cases d <;> first | rfl | simp [TypeDesc.isRow] at hd) hi
  have e2 := run_loadVar_row w b' et' ty' cs' (0, 0) d' hg2 hu2 (by cases d' <;> first | rfl | simp [TypeDesc.isRow] at hd2) hi2
  have ht' : tmps[t]?.getD undef = u := by simpa using ht
  have hp' : tmps[p]?.getD undef = .pointer (some ⟨b, 0, none⟩) := by simpa using hp
  have hp2' : tmps[p']?.getD undef = .pointer (some ⟨b', 0, none⟩) := by simpa using hp2
  simp only [results, h]
  simp [Result.andThen, asAddr, e, e2, ht', hp', hp2']
def treeErr (n m : Int) (p : List Bs) : Int := if ¬ (sizedP n = true) ∨ m < 1 ∨ n < m then 1 else if p.length ≠ (wayTree n.toNat m.toNat).length then 90 else 0
/-- What ClimbTree answers. -/
def climbTV (k n m : Int) (old : Bs) (p : List Bs) : Value := .tuple #[hashV (if treeErr n m p = 0 then (tEnd k n.toNat m.toNat old p).fresh.sum else zero32), hashV (if treeErr n m p = 0 then (tEnd k n.toNat m.toNat old p).old.sum else zero32), .int .i64 (treeErr n m p)]
theorem climbTV_bad (k n m : Int) (old : Bs) (p : List Bs) (c : Int) (h : treeErr n m p = c) (hc : c ≠ 0) : climbTV k n m old p = .tuple #[.agg z32B, .agg z32B, .int .i64 c] := by
  unfold climbTV
  rw [h, if_neg hc, if_neg hc, zero32_W]
theorem climbTV_ok (k n m : Int) (old : Bs) (p : List Bs) (h : treeErr n m p = 0) : climbTV k n m old p = .tuple #[hashV (tEnd k n.toNat m.toNat old p).fresh.sum, hashV (tEnd k n.toNat m.toNat old p).old.sum, .int .i64 0] := by
  unfold climbTV
  rw [h, if_pos rfl, if_pos rfl]
theorem wayTree_len (n m : Nat) (hn : n ≤ 281474976710656) : (wayTree n m).length ≤ 49 := by
  have h := wayUp_len n m hn
  by_cases hz : 0 < (treeSeed n m).1
  · rw [wayTree_pos n m hz]; simp; omega
  · rw [wayTree_zero n m (by omega)]; omega
theorem tEnd_len (k : Int) (n m : Nat) (old : Bs) (p : List Bs) (h : (tBeg n m old p).length = 32) : (tEnd k n m old p).fresh.sum.length = 32 ∧ (tEnd k n m old p).old.sum.length = 32 := tRun_len k (tStart n m old p) _ _ h h _
set_option maxRecDepth 100000 in
set_option maxHeartbeats 3200000 in
theorem climbTree_any (k n m : Int) (pv : Value) (p : List Bs) (old : Bs) (w : World) (hp : HsIn w pv p) (ho : old.length = 32) (he : EnvH w) :
    Calls Tryz.prog 55 #[.int .i64 k, pv, .int .i64 n, .int .i64 m, hashV old] w fun e w' => e = .returned (climbTV k n m old p) ∧ Mv (fun _ => False) w w' := by
  obtain ⟨cs, hcs⟩ : ∃ cs, cs = (old.map byteV).toArray := ⟨_, rfl⟩
  rw [show hashV old = .agg cs by rw [hcs]; rfl]
  have hcsz : cs.size = 32 := by rw [hcs]; simp [ho]
  have HCS := Lib.hid hcs
  have HI34 : Hid ((Tryz.prog.info? 34).map (·.size) = some cs.size) := Lib.hid (by rw [hcsz]; exact info34)
  obtain ⟨pa, pc, hpv⟩ := hp.shape
  subst hpv
  have HP := Lib.hid hp
  have HO := Lib.hid ho
  have HE := Lib.hid he
  have K := sized_any n
  by_cases hs : sizedP n = true
  · have hs1 : 1 ≤ n ∧ n ≤ 281474976710656 := of_decide_eq_true hs
    rw [hs] at K
    have HK := Lib.hid K
    by_cases hi : 1 ≤ m ∧ m ≤ n
    · obtain ⟨N, hN⟩ : ∃ N : Nat, n = N := ⟨n.toNat, by omega⟩
      obtain ⟨M, hM⟩ : ∃ M : Nat, m = M := ⟨m.toNat, by omega⟩
      subst hN hM
      have hMN : 1 ≤ M ∧ M ≤ N := by omega
      have hN48 : N ≤ 281474976710656 := by omega
      have hce : treeErr N M p = if p.length ≠ (wayTree N M).length then 90 else 0 := by
        unfold treeErr
        rw [if_neg (by rw [hs]; simp; omega)]
        rfl
      have HCE := Lib.hid hce
      have h1m : ¬ ((M : Int) < 1) := by omega
      have h2m : ¬ ((N : Int) < M) := by omega
      clear hcs hcsz hp ho he hs K hce hi
      go_enter Tryz.func55, Tryz.ntmps55
      go_upto_region 1 with fail
      generalize hZ : (#[_, _, _, _, _, _, _, _, _, _, _, _, _, _, _, _, _, _, _, _, _, _, _, _, _, _, _, _, _, _, _, _] : Array Value) = Z
      have hZs : Z.size = 32 := by rw [← hZ]; rfl
      obtain ⟨A, hA⟩ : ∃ A, A = w.heap.size := ⟨_, rfl⟩
      have h1 : (((w.alloc (.cells cs 34)).alloc (.cells Z 34)).alloc (.cells Z 34)).heap[w.heap.size]? = some (.cells cs 34 (0, 0)) := (Below.heap_alloc _ _ _ (by simp; omega)).trans ((Below.heap_alloc _ _ _ (by simp)).trans (heap_alloc_new _ _))
      have h2 : (((w.alloc (.cells cs 34)).alloc (.cells Z 34)).alloc (.cells Z 34)).heap[w.heap.size + 1]? = some (.cells Z 34 (0, 0)) := by
        refine (Below.heap_alloc _ _ _ (by simp)).trans ?_
        rw [show w.heap.size + 1 = (w.alloc (.cells cs 34)).heap.size by simp]; exact heap_alloc_new _ _
      have h3 : (((w.alloc (.cells cs 34)).alloc (.cells Z 34)).alloc (.cells Z 34)).heap[w.heap.size + 2]? = some (.cells Z 34 (0, 0)) := by
        rw [show w.heap.size + 2 = ((w.alloc (.cells cs 34)).alloc (.cells Z 34)).heap.size by simp]; exact heap_alloc_new _ _
      have hm : Mv (fun _ => False) w (((w.alloc (.cells cs 34)).alloc (.cells Z 34)).alloc (.cells Z 34)) := (((Mv.refl _ _).alloc _).alloc _).alloc _
      generalize hW1 : ((w.alloc (.cells cs 34)).alloc (.cells Z 34)).alloc (.cells Z 34) = W1
      rw [hW1] at h1 h2 h3 hm
      rw [← hA] at h1 h2 h3 ⊢
      have H1 := Lib.hid h1
      have H2 := Lib.hid h2
      have H3 := Lib.hid h3
      have HM := Lib.hid hm
      have HA := Lib.hid hA
      have HZS := Lib.hid hZs
      clear hZ hZs hW1 h1 h2 h3 hm hA
      go_wp2_with (first
        | (go_at_call 89; refine (HK.out _).mono ?_; rintro e w1 ⟨rfl, rfl⟩))
      refine (wayFrom_any N M W1 hN48 hMN).mono ?_
      rintro e w2 ⟨wv, rfl, hown, hm2⟩
      obtain ⟨wa, wc, hwv⟩ := owns_shape hown
      subst hwv
      have HM2 : Hid (Mv (fun _ => False) w w2) := Lib.hid (HM.out.trans hm2)
      have HR1 : Hid (w2.heap[A + 1]? = some (.cells Z 34 (0, 0))) := Lib.hid ((hm2.block _ (lt_of_heap H2.out) id).trans H2.out)
      have HR2 : Hid (w2.heap[A + 2]? = some (.cells Z 34 (0, 0))) := Lib.hid ((hm2.block _ (lt_of_heap H3.out) id).trans H3.out)
      have HA2 : Hid (w2.heap[A]? = some (.cells cs 34 (0, 0))) := Lib.hid ((hm2.block _ (lt_of_heap H1.out) id).trans H1.out)
      obtain ⟨L, hL⟩ : ∃ L, L = (wayTree N M).length := ⟨_, rfl⟩
      rw [← hL]
      have HLL := Lib.hid hL
      obtain ⟨pl, hpl2⟩ : ∃ pl, pl = p.length := ⟨_, rfl⟩
      rw [← hpl2]
      have HPLL := Lib.hid hpl2
      have hL64 := wayTree_len N M hN48
      rw [← hL] at hL64
      clear hown hm2 hL hpl2
      go_upto_region 4 with fail
      have hma : Mv (fun _ => False) w2 (w2.alloc (.cells #[.int .i64 (treeSeed N M).1, .int .i64 (treeSeed N M).2] 170)) := (Mv.refl _ _).alloc _
      generalize w2.alloc (.cells #[.int .i64 (treeSeed N M).1, .int .i64 (treeSeed N M).2] 170) = w3 at hma ⊢
      have HM3 := Lib.hid (HM2.out.trans hma)
      have HR1b := Lib.hid ((hma.block _ (lt_of_heap HR1.out) id).trans HR1.out)
      have HR2b := Lib.hid ((hma.block _ (lt_of_heap HR2.out) id).trans HR2.out)
      have HA2b := Lib.hid ((hma.block _ (lt_of_heap HA2.out) id).trans HA2.out)
      clear hma
      by_cases hq : pl = L
      · have HPL : Hid (p.length = (wayTree N M).length) := Lib.hid (by rw [← HPLL.out, hq, HLL.out])
        subst hq
        go_wp2_with (first
          | (refine wpList_load_row rfl 34 _ rfl A rfl 34 cs (0, 0) _ HA2b.out Tryz.underlying34 rfl HI34.out ?_))
        have hcl := climbedTree_any k (.slice pa p.length pc) p N M old w3 (HP.out.mv HM3.out (fun _ _ h => h)) hN48 hMN HPL.out HO.out (HE.out.mv HM3.out (fun _ h => h.elim))
        rw [← HPLL.out, show hashV old = .agg cs by rw [HCS.out]; rfl] at hcl
        refine hcl.mono ?_
        rintro e w4 ⟨fv, ov, B, c, rfl, hfv, hov, hB, hc, hmap, hm4⟩
        obtain ⟨fty, fx, hfx⟩ := hfv.iface
        obtain ⟨oty, ox, hox⟩ := hov.iface
        subst hfx hox
        have HM4 : Hid (Mv (fun _ => False) w w4) := Lib.hid (HM3.out.trans hm4)
        have HFV := Lib.hid hfv
        have HOV := Lib.hid hov
        have HR1c := Lib.hid ((hm4.block _ (lt_of_heap HR1b.out) id).trans HR1b.out)
        have HR2c := Lib.hid ((hm4.block _ (lt_of_heap HR2b.out) id).trans HR2b.out)
        clear hcl hfv hov hB hc hmap hm4
        go_upto_region 7 with fail
        obtain ⟨T, hT⟩ : ∃ T, T = w4.heap.size := ⟨_, rfl⟩
        have hT4 : (w4.alloc (.cells #[.iface fty fx, .iface oty ox, .map (some B)] 180)).heap[T]? = some (.cells #[.iface fty fx, .iface oty ox, .map (some B)] 180 (0, 0)) := by rw [hT]; exact heap_alloc_new _ _
        have hma : Mv (fun _ => False) w4 (w4.alloc (.cells #[.iface fty fx, .iface oty ox, .map (some B)] 180)) := (Mv.refl _ _).alloc _
        have HTR : Hid (T ≠ A + 1 ∧ T ≠ A + 2 ∧ A + 1 ≠ A + 2) := Lib.hid (by have := lt_of_heap HR1c.out; have := lt_of_heap HR2c.out; omega)
        rw [← hT]
        generalize w4.alloc (.cells #[.iface fty fx, .iface oty ox, .map (some B)] 180) = w5 at hT4 hma ⊢
        have HT4 := Lib.hid hT4
        have HM5 := Lib.hid (HM4.out.trans hma)
        have HFV5 := Lib.hid (HFV.out.mv hma)
        have HOV5 := Lib.hid (HOV.out.mv hma)
        have HR1d := Lib.hid ((hma.block _ (lt_of_heap HR1c.out) id).trans HR1c.out)
        have HR2d := Lib.hid ((hma.block _ (lt_of_heap HR2c.out) id).trans HR2c.out)
        have HMT : Hid (tEnd k N M old p = tEnd k N M old p) := Lib.hid rfl
        clear hT hT4 hma
        refine wp_region_noPanic ?_
        refine wp_region_held_drew (S := (fun w' => w'.heap[T]? = some (.cells #[.iface fty fx, .iface oty ox, .map (some B)] 180 (0, 0)))) (by kernel_rfl) (HT4.out) (fun hHeld => ?_)
        refine wpAnyH_take (i := 0) (oi := _) (v := .pointer (some ⟨T, 0, none⟩)) rfl (by kernel_rfl) (by kernel_rfl) (by kernel_rfl) (fun _ _ _ h => h) (Or.inl ⟨by rfl, fun _ hS => by go_simp⟩) hHeld ?_
        try simp only [Act.put, List.getElem_toArray, List.getElem_cons_succ, List.getElem_cons_zero, List.setIfInBounds_toArray, List.set_cons_zero, List.set_cons_succ]
        refine wpAnyH_take (i := 1) (oi := _) (v := .iface fty fx) rfl (by kernel_rfl) (by kernel_rfl) (by kernel_rfl) (fun _ _ _ h => h) (Or.inl ⟨by rfl, fun _ hS => by have := cell_of_heap hS 0 rfl; go_simp⟩) hHeld ?_
        try simp only [Act.put, List.getElem_toArray, List.getElem_cons_succ, List.getElem_cons_zero, List.setIfInBounds_toArray, List.set_cons_zero, List.set_cons_succ]
        refine wpAnyH_take (i := 3) (oi := _) (v := .pointer (some ⟨T, 1, none⟩)) rfl (by kernel_rfl) (by kernel_rfl) (by kernel_rfl) (fun _ _ _ h => h) (Or.inl ⟨by rfl, fun _ hS => by go_simp⟩) hHeld ?_
        try simp only [Act.put, List.getElem_toArray, List.getElem_cons_succ, List.getElem_cons_zero, List.setIfInBounds_toArray, List.set_cons_zero, List.set_cons_succ]
        refine wpAnyH_take (i := 4) (oi := _) (v := .iface oty ox) rfl (by kernel_rfl) (by kernel_rfl) (by kernel_rfl) (fun _ _ _ h => h) (Or.inl ⟨by rfl, fun _ hS => by have := cell_of_heap hS 1 rfl; go_simp⟩) hHeld ?_
        try simp only [Act.put, List.getElem_toArray, List.getElem_cons_succ, List.getElem_cons_zero, List.setIfInBounds_toArray, List.set_cons_zero, List.set_cons_succ]
        refine wpAnyH_one' (i := 2) (o := _) (by kernel_rfl) rfl (fun K' hK => ?_)
        rw [if_pos (by rfl)]
        refine wp_sum 50 rfl _ (tEnd k N M old p).fresh rfl (HFV5.out.mv (Mv.refl _ _).drew) (fun w6 hm => ?_)
        have HM6 : Hid (Mv (fun _ => False) w5 w6) := Lib.hid ((Mv.refl _ _).drew.trans hm)
        have hs6 := (hm.block T (lt_of_heap hHeld) id).trans hHeld
        clear hm
        refine hK.out _ _ hs6 (fun hHeld => ?_)
        clear hK K'
        try simp only [Act.put, List.getElem_toArray, List.getElem_cons_succ, List.getElem_cons_zero, List.setIfInBounds_toArray, List.set_cons_zero, List.set_cons_succ]
        clear hs6
        refine wpAnyH_one' (i := 5) (o := _) (by kernel_rfl) rfl (fun K' hK => ?_)
        rw [if_pos (by rfl)]
        refine wp_sum 53 rfl _ (tEnd k N M old p).old rfl (HOV5.out.mv HM6.out) (fun w7 hm => ?_)
        have HM7 : Hid (Mv (fun _ => False) w5 w7) := Lib.hid (HM6.out.trans hm)
        have hs7 := (hm.block T (lt_of_heap hHeld) id).trans hHeld
        clear hm
        refine hK.out _ _ hs7 (fun hHeld => ?_)
        clear hK K'
        try simp only [Act.put, List.getElem_toArray, List.getElem_cons_succ, List.getElem_cons_zero, List.setIfInBounds_toArray, List.set_cons_zero, List.set_cons_succ]
        clear hs7
        have HR1e := Lib.hid ((HM7.out.block _ (lt_of_heap HR1d.out) id).trans HR1d.out)
        have HR2e := Lib.hid ((HM7.out.block _ (lt_of_heap HR2d.out) id).trans HR2d.out)
        have hlf := HFV5.out.len
        have hlo := HOV5.out.len
        obtain ⟨fs, hfs⟩ : ∃ x, x = (tEnd k N M old p).fresh.sum := ⟨_, rfl⟩
        obtain ⟨os, hos⟩ : ∃ x, x = (tEnd k N M old p).old.sum := ⟨_, rfl⟩
        rw [← hfs, ← hos]
        rw [← hfs] at hlf
        rw [← hos] at hlo
        have HFS := Lib.hid hfs
        have HOS := Lib.hid hos
        obtain ⟨fc, hfc⟩ : ∃ x, x = (fs.map byteV).toArray := ⟨_, rfl⟩
        obtain ⟨oc, hoc⟩ : ∃ x, x = (os.map byteV).toArray := ⟨_, rfl⟩
        rw [show hashV fs = .agg fc by rw [hfc]; rfl, show hashV os = .agg oc by rw [hoc]; rfl]
        have hfz : fc.size = 32 := by rw [hfc]; simp [hlf]
        have hoz : oc.size = 32 := by rw [hoc]; simp [hlo]
        have HIF : Hid ((Tryz.prog.info? 34).map (·.size) = some fc.size) := Lib.hid (by rw [hfz]; exact info34)
        have HIO : Hid ((Tryz.prog.info? 34).map (·.size) = some oc.size) := Lib.hid (by rw [hoz]; exact info34)
        have HZF : Hid (Z.size = fc.size) := Lib.hid (by rw [HZS.out, hfz])
        have HZO : Hid (Z.size = oc.size) := Lib.hid (by rw [HZS.out, hoz])
        have HOF : Hid (fc.all (·.oneCell') = true) := Lib.hid (by rw [hfc]; exact hash_one fs)
        have HOO : Hid (oc.all (·.oneCell') = true) := Lib.hid (by rw [hoc]; exact hash_one os)
        have HFC := Lib.hid hfc
        have HOC := Lib.hid hoc
        clear hlf hlo hfs hos hfc hoc hfz hoz
        refine wpAnyH_one' (i := 6) (o := _) (by kernel_rfl) rfl (fun K' hK => ?_)
        rw [if_pos (by rfl)]
        refine wp_store_row 34 (.tmp 10) (.tmp 51) rfl (A + 1) fc rfl rfl 34 Z HR1e.out HIF.out HZF.out HOF.out ?_
        have hs8 : (w7.setRow (A + 1) fc).heap[T]? = some (.cells #[.iface fty fx, .iface oty ox, .map (some B)] 180 (0, 0)) := (setRow_other _ _ _ _ HTR.out.1).trans hHeld
        refine hK.out _ _ hs8 (fun hHeld => ?_)
        clear hK K'
        try simp only [Act.put, List.getElem_toArray, List.getElem_cons_succ, List.getElem_cons_zero, List.setIfInBounds_toArray, List.set_cons_zero, List.set_cons_succ]
        clear hs8
        refine wpAnyH_one' (i := 7) (o := _) (by kernel_rfl) rfl (fun K' hK => ?_)
        rw [if_pos (by rfl)]
        refine wp_store_row 34 (.tmp 11) (.tmp 54) rfl (A + 2) oc rfl rfl 34 Z ((setRow_other _ _ _ _ (Ne.symm HTR.out.2.2)).trans HR2e.out) HIO.out HZO.out HOO.out ?_
        have hs9 : ((w7.setRow (A + 1) fc).setRow (A + 2) oc).heap[T]? = some (.cells #[.iface fty fx, .iface oty ox, .map (some B)] 180 (0, 0)) := (setRow_other _ _ _ _ HTR.out.2.1).trans hHeld
        refine hK.out _ _ hs9 (fun hHeld => ?_)
        clear hK K'
        try simp only [Act.put, List.getElem_toArray, List.getElem_cons_succ, List.getElem_cons_zero, List.setIfInBounds_toArray, List.set_cons_zero, List.set_cons_succ]
        clear hs9
        refine wpAnyH_one' (i := 8) (o := _) (by kernel_rfl) rfl (fun K' hK => ?_)
        rw [if_pos (by rfl)]
        unfold Oper.wp execOp
        go_simp
        refine hK.out _ _ hHeld (fun hHeld => ?_)
        clear hK K'
        try simp only [Act.put, List.getElem_toArray, List.getElem_cons_succ, List.getElem_cons_zero, List.setIfInBounds_toArray, List.set_cons_zero, List.set_cons_succ]
        refine wpAnyH_done (by kernel_rfl) ?_ _
        refine NoPanic.normal ?_
        go_wp2_with fail
        refine bodyPost_ret (results_cct (fn := Tryz.f55) rfl _ _ (A + 1) (A + 2) 34 34 fc oc (.int .i64 0) _ _ rfl rfl rfl ((setRow_other _ _ _ _ HTR.out.2.2).trans (setRow_heap _ _ _ _ _ _ HR1e.out)) (setRow_heap _ _ _ _ _ _ ((setRow_other _ _ _ _ (Ne.symm HTR.out.2.2)).trans HR2e.out)) Tryz.underlying34 Tryz.underlying34 rfl rfl HIF.out HIO.out) rfl ?_
        refine ⟨?_, ((HM5.out.trans HM7.out).setRow (.inr (by have := HA.out; omega)) _).setRow (.inr (by have := HA.out; omega)) _⟩
        rw [climbTV_ok k N M old p (by rw [HCE.out, if_neg (by rw [HPL.out]; simp)])]
        show Ending.returned (.tuple #[.agg fc, .agg oc, .int .i64 0]) = .returned (.tuple #[hashV (tEnd k N M old p).fresh.sum, hashV (tEnd k N M old p).old.sum, .int .i64 0])
        rw [← HFS.out, ← HOS.out, HFC.out, HOC.out]
        rfl
      · have hqi : ((pl : Int) != L) = true := by simp; omega
        have hce90 : treeErr N M p = 90 := by rw [HCE.out, if_pos (by rw [← HPLL.out, ← HLL.out]; exact hq)]
        have hbad := climbTV_bad k N M old p 90 hce90 (by decide)
        have HBAD := Lib.hid hbad
        clear hce90 hbad
        go_wp2_with (first
          | (refine wpList_store_row rfl 34 _ _ rfl (A + 1) z32B rfl rfl 34 Z HR1b.out info34z (HZS.out.trans rfl) z32_oneB ?_)
          | (refine wpList_store_row rfl 34 _ _ rfl (A + 2) z32B rfl rfl 34 Z ((setRow_other _ _ _ _ (by omega)).trans HR2b.out) info34z (HZS.out.trans rfl) z32_oneB ?_))
        refine bodyPost_ret (results_cct (fn := Tryz.f55) rfl _ _ (A + 1) (A + 2) 34 34 z32B z32B (.int .i64 90) _ _ rfl rfl rfl ((setRow_other _ _ _ _ (by omega)).trans (setRow_heap _ _ _ _ _ _ HR1b.out)) (setRow_heap _ _ _ _ _ _ ((setRow_other _ _ _ _ (by omega)).trans HR2b.out)) Tryz.underlying34 Tryz.underlying34 rfl rfl info34z info34z) rfl ?_
        exact ⟨by rw [HBAD.out], (HM3.out.setRow (.inr (by have := HA.out; omega)) _).setRow (.inr (by have := HA.out; omega)) _⟩
    · have hce : treeErr n m p = 1 := by unfold treeErr; rw [if_pos (by omega)]
      rw [climbTV_bad k n m old p 1 hce (by decide)]
      by_cases hi0 : m < 1
      · clear hcs hcsz hp ho he hs hce K hi
        go_enter Tryz.func55, Tryz.ntmps55
        go_upto_region 1 with fail
        generalize hZ : (#[_, _, _, _, _, _, _, _, _, _, _, _, _, _, _, _, _, _, _, _, _, _, _, _, _, _, _, _, _, _, _, _] : Array Value) = Z
        have hZs : Z.size = 32 := by rw [← hZ]; rfl
        obtain ⟨A, hA⟩ : ∃ A, A = w.heap.size := ⟨_, rfl⟩
        have h1 : (((w.alloc (.cells cs 34)).alloc (.cells Z 34)).alloc (.cells Z 34)).heap[w.heap.size]? = some (.cells cs 34 (0, 0)) := (Below.heap_alloc _ _ _ (by simp; omega)).trans ((Below.heap_alloc _ _ _ (by simp)).trans (heap_alloc_new _ _))
        have h2 : (((w.alloc (.cells cs 34)).alloc (.cells Z 34)).alloc (.cells Z 34)).heap[w.heap.size + 1]? = some (.cells Z 34 (0, 0)) := by
          refine (Below.heap_alloc _ _ _ (by simp)).trans ?_
          rw [show w.heap.size + 1 = (w.alloc (.cells cs 34)).heap.size by simp]; exact heap_alloc_new _ _
        have h3 : (((w.alloc (.cells cs 34)).alloc (.cells Z 34)).alloc (.cells Z 34)).heap[w.heap.size + 2]? = some (.cells Z 34 (0, 0)) := by
          rw [show w.heap.size + 2 = ((w.alloc (.cells cs 34)).alloc (.cells Z 34)).heap.size by simp]; exact heap_alloc_new _ _
        have hm : Mv (fun _ => False) w (((w.alloc (.cells cs 34)).alloc (.cells Z 34)).alloc (.cells Z 34)) := (((Mv.refl _ _).alloc _).alloc _).alloc _
        generalize hW1 : ((w.alloc (.cells cs 34)).alloc (.cells Z 34)).alloc (.cells Z 34) = W1
        rw [hW1] at h1 h2 h3 hm
        rw [← hA] at h1 h2 h3 ⊢
        have H1 := Lib.hid h1
        have H2 := Lib.hid h2
        have H3 := Lib.hid h3
        have HM := Lib.hid hm
        have HA := Lib.hid hA
        have HZS := Lib.hid hZs
        clear hZ hZs hW1 h1 h2 h3 hm hA
        go_wp2_with (first
          | (go_at_call 89; refine (HK.out _).mono ?_; rintro e w1 ⟨rfl, rfl⟩)
          | (refine wpList_store_row rfl 34 _ _ rfl (A + 1) z32B rfl rfl 34 Z H2.out info34z (HZS.out.trans rfl) z32_oneB ?_)
          | (refine wpList_store_row rfl 34 _ _ rfl (A + 2) z32B rfl rfl 34 Z ((setRow_other _ _ _ _ (by omega)).trans H3.out) info34z (HZS.out.trans rfl) z32_oneB ?_))
        refine bodyPost_ret (results_cct (fn := Tryz.f55) rfl _ _ (A + 1) (A + 2) 34 34 z32B z32B (.int .i64 1) _ _ rfl rfl rfl ((setRow_other _ _ _ _ (by omega)).trans (setRow_heap _ _ _ _ _ _ H2.out)) (setRow_heap _ _ _ _ _ _ ((setRow_other _ _ _ _ (by omega)).trans H3.out)) Tryz.underlying34 Tryz.underlying34 rfl rfl info34z info34z) rfl ?_
        exact ⟨rfl, (HM.out.setRow (.inr (by have := HA.out; omega)) _).setRow (.inr (by have := HA.out; omega)) _⟩
      · have hin : n < m := by omega
        clear hcs hcsz hp ho he hs hce K hi
        go_enter Tryz.func55, Tryz.ntmps55
        go_upto_region 1 with fail
        generalize hZ : (#[_, _, _, _, _, _, _, _, _, _, _, _, _, _, _, _, _, _, _, _, _, _, _, _, _, _, _, _, _, _, _, _] : Array Value) = Z
        have hZs : Z.size = 32 := by rw [← hZ]; rfl
        obtain ⟨A, hA⟩ : ∃ A, A = w.heap.size := ⟨_, rfl⟩
        have h1 : (((w.alloc (.cells cs 34)).alloc (.cells Z 34)).alloc (.cells Z 34)).heap[w.heap.size]? = some (.cells cs 34 (0, 0)) := (Below.heap_alloc _ _ _ (by simp; omega)).trans ((Below.heap_alloc _ _ _ (by simp)).trans (heap_alloc_new _ _))
        have h2 : (((w.alloc (.cells cs 34)).alloc (.cells Z 34)).alloc (.cells Z 34)).heap[w.heap.size + 1]? = some (.cells Z 34 (0, 0)) := by
          refine (Below.heap_alloc _ _ _ (by simp)).trans ?_
          rw [show w.heap.size + 1 = (w.alloc (.cells cs 34)).heap.size by simp]; exact heap_alloc_new _ _
        have h3 : (((w.alloc (.cells cs 34)).alloc (.cells Z 34)).alloc (.cells Z 34)).heap[w.heap.size + 2]? = some (.cells Z 34 (0, 0)) := by
          rw [show w.heap.size + 2 = ((w.alloc (.cells cs 34)).alloc (.cells Z 34)).heap.size by simp]; exact heap_alloc_new _ _
        have hm : Mv (fun _ => False) w (((w.alloc (.cells cs 34)).alloc (.cells Z 34)).alloc (.cells Z 34)) := (((Mv.refl _ _).alloc _).alloc _).alloc _
        generalize hW1 : ((w.alloc (.cells cs 34)).alloc (.cells Z 34)).alloc (.cells Z 34) = W1
        rw [hW1] at h1 h2 h3 hm
        rw [← hA] at h1 h2 h3 ⊢
        have H1 := Lib.hid h1
        have H2 := Lib.hid h2
        have H3 := Lib.hid h3
        have HM := Lib.hid hm
        have HA := Lib.hid hA
        have HZS := Lib.hid hZs
        clear hZ hZs hW1 h1 h2 h3 hm hA
        go_wp2_with (first
          | (go_at_call 89; refine (HK.out _).mono ?_; rintro e w1 ⟨rfl, rfl⟩)
          | (refine wpList_store_row rfl 34 _ _ rfl (A + 1) z32B rfl rfl 34 Z H2.out info34z (HZS.out.trans rfl) z32_oneB ?_)
          | (refine wpList_store_row rfl 34 _ _ rfl (A + 2) z32B rfl rfl 34 Z ((setRow_other _ _ _ _ (by omega)).trans H3.out) info34z (HZS.out.trans rfl) z32_oneB ?_))
        refine bodyPost_ret (results_cct (fn := Tryz.f55) rfl _ _ (A + 1) (A + 2) 34 34 z32B z32B (.int .i64 1) _ _ rfl rfl rfl ((setRow_other _ _ _ _ (by omega)).trans (setRow_heap _ _ _ _ _ _ H2.out)) (setRow_heap _ _ _ _ _ _ ((setRow_other _ _ _ _ (by omega)).trans H3.out)) Tryz.underlying34 Tryz.underlying34 rfl rfl info34z info34z) rfl ?_
        exact ⟨rfl, (HM.out.setRow (.inr (by have := HA.out; omega)) _).setRow (.inr (by have := HA.out; omega)) _⟩
  · have hs0 : sizedP n = false := by simpa using hs
    have hce : treeErr n m p = 1 := by unfold treeErr; rw [if_pos (.inl hs)]
    rw [climbTV_bad k n m old p 1 hce (by decide)]
    rw [hs0] at K
    have HK := Lib.hid K
    clear hcs hcsz hp ho he hs hs0 hce K
    go_enter Tryz.func55, Tryz.ntmps55
    go_upto_region 1 with fail
    generalize hZ : (#[_, _, _, _, _, _, _, _, _, _, _, _, _, _, _, _, _, _, _, _, _, _, _, _, _, _, _, _, _, _, _, _] : Array Value) = Z
    have hZs : Z.size = 32 := by rw [← hZ]; rfl
    obtain ⟨A, hA⟩ : ∃ A, A = w.heap.size := ⟨_, rfl⟩
    have h1 : (((w.alloc (.cells cs 34)).alloc (.cells Z 34)).alloc (.cells Z 34)).heap[w.heap.size]? = some (.cells cs 34 (0, 0)) := (Below.heap_alloc _ _ _ (by simp; omega)).trans ((Below.heap_alloc _ _ _ (by simp)).trans (heap_alloc_new _ _))
    have h2 : (((w.alloc (.cells cs 34)).alloc (.cells Z 34)).alloc (.cells Z 34)).heap[w.heap.size + 1]? = some (.cells Z 34 (0, 0)) := by
      refine (Below.heap_alloc _ _ _ (by simp)).trans ?_
      rw [show w.heap.size + 1 = (w.alloc (.cells cs 34)).heap.size by simp]; exact heap_alloc_new _ _
    have h3 : (((w.alloc (.cells cs 34)).alloc (.cells Z 34)).alloc (.cells Z 34)).heap[w.heap.size + 2]? = some (.cells Z 34 (0, 0)) := by
      rw [show w.heap.size + 2 = ((w.alloc (.cells cs 34)).alloc (.cells Z 34)).heap.size by simp]; exact heap_alloc_new _ _
    have hm : Mv (fun _ => False) w (((w.alloc (.cells cs 34)).alloc (.cells Z 34)).alloc (.cells Z 34)) := (((Mv.refl _ _).alloc _).alloc _).alloc _
    generalize hW1 : ((w.alloc (.cells cs 34)).alloc (.cells Z 34)).alloc (.cells Z 34) = W1
    rw [hW1] at h1 h2 h3 hm
    rw [← hA] at h1 h2 h3 ⊢
    have H1 := Lib.hid h1
    have H2 := Lib.hid h2
    have H3 := Lib.hid h3
    have HM := Lib.hid hm
    have HA := Lib.hid hA
    have HZS := Lib.hid hZs
    clear hZ hZs hW1 h1 h2 h3 hm hA
    go_wp2_with (first
      | (go_at_call 89; refine (HK.out _).mono ?_; rintro e w1 ⟨rfl, rfl⟩)
      | (refine wpList_store_row rfl 34 _ _ rfl (A + 1) z32B rfl rfl 34 Z H2.out info34z (HZS.out.trans rfl) z32_oneB ?_)
      | (refine wpList_store_row rfl 34 _ _ rfl (A + 2) z32B rfl rfl 34 Z ((setRow_other _ _ _ _ (by omega)).trans H3.out) info34z (HZS.out.trans rfl) z32_oneB ?_))
    refine bodyPost_ret (results_cct (fn := Tryz.f55) rfl _ _ (A + 1) (A + 2) 34 34 z32B z32B (.int .i64 1) _ _ rfl rfl rfl ((setRow_other _ _ _ _ (by omega)).trans (setRow_heap _ _ _ _ _ _ H2.out)) (setRow_heap _ _ _ _ _ _ ((setRow_other _ _ _ _ (by omega)).trans H3.out)) Tryz.underlying34 Tryz.underlying34 rfl rfl info34z info34z) rfl ?_
    exact ⟨rfl, (HM.out.setRow (.inr (by have := HA.out; omega)) _).setRow (.inr (by have := HA.out; omega)) _⟩
end Go.Proofs.YtdfdikpklddnhaaGreatDoor

/- CheckTree. -/
namespace Go.Proofs.YtdfdikpklddnhaaGreatDoor
open Go.RowKit
set_option linter.unusedSimpArgs false

theorem tBeg_len (n m : Nat) (old : Bs) (p : List Bs) (w : World) (v : Value) (hp : HsIn w v p) (ho : old.length = 32) (hl : p.length = (wayTree n m).length) : (tBeg n m old p).length = 32 := by
  unfold tBeg
  split
  · rename_i hz
    rw [wayTree_pos n m hz] at hl
    obtain ⟨a, c, rfl⟩ := hp.shape
    exact (HsIn.at hp 0 (by rw [hl]; simp)).choose_spec.choose_spec.2.2.1
  · exact ho
/-- What CheckTree answers. -/
def treeAns (k n m : Int) (root old : Bs) (p : List Bs) : Int :=
  if treeErr n m p = 0 then (if (tEnd k n.toNat m.toNat old p).fresh.sum = root ∧ (tEnd k n.toNat m.toNat old p).old.sum = old then 0 else 91) else treeErr n m p
set_option maxRecDepth 100000 in
set_option maxHeartbeats 3200000 in
theorem checkTree_any (k n m : Int) (pv : Value) (p : List Bs) (root old : Bs) (w : World) (hp : HsIn w pv p) (hr : root.length = 32) (hl : old.length = 32) (he : EnvH w) :
    Calls Tryz.prog 23 #[.int .i64 k, pv, .int .i64 n, hashV root, .int .i64 m, hashV old] w fun e w' =>
      e = .returned (.int .i64 (treeAns k n m root old p)) ∧ Mv (fun _ => False) w w' := by
  obtain ⟨rs, hrs⟩ : ∃ rs, rs = (root.map byteV).toArray := ⟨_, rfl⟩
  obtain ⟨ls, hls⟩ : ∃ ls, ls = (old.map byteV).toArray := ⟨_, rfl⟩
  rw [show hashV root = .agg rs by rw [hrs]; rfl, show hashV old = .agg ls by rw [hls]; rfl]
  have HRS := Lib.hid hrs
  have HLS := Lib.hid hls
  have HIR : Hid ((Tryz.prog.info? 34).map (·.size) = some rs.size) := Lib.hid (by have hz : rs.size = 32 := (by rw [hrs]; simp [hr]); rw [hz]; exact info34)
  have HIL : Hid ((Tryz.prog.info? 34).map (·.size) = some ls.size) := Lib.hid (by have hz : ls.size = 32 := (by rw [hls]; simp [hl]); rw [hz]; exact info34)
  have HP := Lib.hid hp
  have HR := Lib.hid hr
  have HL := Lib.hid hl
  have HE := Lib.hid he
  obtain ⟨A, hA⟩ : ∃ A, A = w.heap.size := ⟨_, rfl⟩
  have h1 : ((w.alloc (.cells rs 34)).alloc (.cells ls 34)).heap[w.heap.size]? = some (.cells rs 34 (0, 0)) := (Below.heap_alloc _ _ _ (by simp)).trans (heap_alloc_new _ _)
  have h2 : ((w.alloc (.cells rs 34)).alloc (.cells ls 34)).heap[w.heap.size + 1]? = some (.cells ls 34 (0, 0)) := by
    rw [show w.heap.size + 1 = (w.alloc (.cells rs 34)).heap.size by simp]; exact heap_alloc_new _ _
  have hm : Mv (fun _ => False) w ((w.alloc (.cells rs 34)).alloc (.cells ls 34)) := ((Mv.refl _ _).alloc _).alloc _
  have HA := Lib.hid hA
  clear hrs hls hp hr hl he
  go_enter Tryz.func23, Tryz.ntmps23
  go_upto_region 1 with fail
  generalize hW1 : (w.alloc (.cells rs 34)).alloc (.cells ls 34) = W1
  rw [hW1] at h1 h2 hm
  rw [← hA] at h1 h2 ⊢
  have H1 := Lib.hid h1
  have H2 := Lib.hid h2
  have HM := Lib.hid hm
  clear hW1 h1 h2 hm hA
  go_wp2_with (first
    | (refine wpList_load_row rfl 34 _ rfl (A + 1) rfl 34 ls (0, 0) _ H2.out Tryz.underlying34 rfl HIL.out ?_))
  have hcl := climbTree_any k n m pv p old W1 (HP.out.mv HM.out (fun _ _ h => h)) HL.out (HE.out.mv HM.out (fun _ h => h.elim))
  rw [show hashV old = .agg ls by rw [HLS.out]; rfl] at hcl
  refine hcl.mono ?_
  rintro e w2 ⟨rfl, hm2⟩
  have HM2 : Hid (Mv (fun _ => False) w w2) := Lib.hid (HM.out.trans hm2)
  have ha2 : Hid (w2.heap[A]? = some (.cells rs 34 (0, 0))) := Lib.hid ((hm2.block _ (lt_of_heap H1.out) id).trans H1.out)
  have hb2 : Hid (w2.heap[A + 1]? = some (.cells ls 34 (0, 0))) := Lib.hid ((hm2.block _ (lt_of_heap H2.out) id).trans H2.out)
  clear hcl hm2
  have HF : Hid (∀ o o', ((w2.alloc o).alloc o').heap[A]? = some (.cells rs 34 (0, 0))) := Lib.hid fun o o' => (Below.heap_alloc _ _ _ (by have := lt_of_heap ha2.out; simp; omega)).trans ((Below.heap_alloc _ _ _ (lt_of_heap ha2.out)).trans ha2.out)
  have HF2 : Hid (∀ o o', ((w2.alloc o).alloc o').heap[A + 1]? = some (.cells ls 34 (0, 0))) := Lib.hid fun o o' => (Below.heap_alloc _ _ _ (by have := lt_of_heap hb2.out; simp; omega)).trans ((Below.heap_alloc _ _ _ (lt_of_heap hb2.out)).trans hb2.out)
  have HNE : Hid (A ≠ w2.heap.size ∧ A ≠ w2.heap.size + 1 ∧ A + 1 ≠ w2.heap.size ∧ A + 1 ≠ w2.heap.size + 1) := Lib.hid (by have := lt_of_heap ha2.out; have := lt_of_heap hb2.out; omega)
  have HN0 : Hid (∀ o o', ((w2.alloc o).alloc o').heap[w2.heap.size]? = some o) := Lib.hid fun o o' => (Below.heap_alloc _ _ _ (by simp)).trans (heap_alloc_new _ _)
  have HN1 : Hid (∀ o o', ((w2.alloc o).alloc o').heap[w2.heap.size + 1]? = some o') := Lib.hid fun o o' => by rw [show w2.heap.size + 1 = (w2.alloc o).heap.size by simp]; exact heap_alloc_new _ _
  obtain ⟨c, hcc⟩ : ∃ c, c = treeErr n m p := ⟨_, rfl⟩
  obtain ⟨F, hFF⟩ : ∃ F, F = (if c = 0 then (tEnd k n.toNat m.toNat old p).fresh.sum else zero32) := ⟨_, rfl⟩
  obtain ⟨O, hOO⟩ : ∃ O, O = (if c = 0 then (tEnd k n.toNat m.toNat old p).old.sum else zero32) := ⟨_, rfl⟩
  have hval : climbTV k n m old p = .tuple #[hashV F, hashV O, .int .i64 c] := by unfold climbTV; rw [hFF, hOO, hcc]
  rw [hval]
  have hz : treeAns k n m root old p = if c = 0 then (if F = root ∧ O = old then 0 else 91) else c := by
    unfold treeAns
    rw [← hcc, hFF, hOO]
    by_cases h0 : c = 0
    · rw [if_pos h0, if_pos h0, if_pos h0, if_pos h0]
    · rw [if_neg h0, if_neg h0]
  have hFl : F.length = 32 := by
    rw [hFF]; split
    · rename_i h0
      exact (tEnd_len _ _ _ _ _ (by
        have h1 : ¬ (¬ (sizedP n = true) ∨ m < 1 ∨ n < m) := fun h => by rw [hcc] at h0; unfold treeErr at h0; rw [if_pos h] at h0; cases h0
        have h2 : p.length = (wayTree n.toNat m.toNat).length := by
          rw [hcc] at h0; unfold treeErr at h0; rw [if_neg h1] at h0
          apply Classical.byContradiction; intro hx; rw [if_pos hx] at h0; cases h0
        exact tBeg_len n.toNat m.toNat old p _ _ HP.out HL.out h2)).1
    · rfl
  have hOl : O.length = 32 := by
    rw [hOO]; split
    · rename_i h0
      exact (tEnd_len _ _ _ _ _ (by
        have h1 : ¬ (¬ (sizedP n = true) ∨ m < 1 ∨ n < m) := fun h => by rw [hcc] at h0; unfold treeErr at h0; rw [if_pos h] at h0; cases h0
        have h2 : p.length = (wayTree n.toNat m.toNat).length := by
          rw [hcc] at h0; unfold treeErr at h0; rw [if_neg h1] at h0
          apply Classical.byContradiction; intro hx; rw [if_pos hx] at h0; cases h0
        exact tBeg_len n.toNat m.toNat old p _ _ HP.out HL.out h2)).2
    · rfl
  have hne1 := hash_neq F root hFl HR.out
  have hne2 := hash_neq O old hOl HL.out
  obtain ⟨fc, hfc⟩ : ∃ x, x = (F.map byteV).toArray := ⟨_, rfl⟩
  obtain ⟨oc, hoc⟩ : ∃ x, x = (O.map byteV).toArray := ⟨_, rfl⟩
  rw [← hfc, ← HRS.out] at hne1
  rw [← hoc, ← HLS.out] at hne2
  rw [show hashV F = .agg fc by rw [hfc]; rfl, show hashV O = .agg oc by rw [hoc]; rfl]
  have hfz : fc.size = 32 := by rw [hfc]; simp [hFl]
  have hoz : oc.size = 32 := by rw [hoc]; simp [hOl]
  have HIF : Hid ((Tryz.prog.info? 34).map (·.size) = some fc.size) := Lib.hid (by rw [hfz]; exact info34)
  have HIO : Hid ((Tryz.prog.info? 34).map (·.size) = some oc.size) := Lib.hid (by rw [hoz]; exact info34)
  have HZF : Hid (32 = fc.size) := Lib.hid hfz.symm
  have HZO : Hid (32 = oc.size) := Lib.hid hoz.symm
  have HOF : Hid (fc.all (·.oneCell') = true) := Lib.hid (by rw [hfc]; exact hash_one F)
  have HOO : Hid (oc.all (·.oneCell') = true) := Lib.hid (by rw [hoc]; exact hash_one O)
  have HZ := Lib.hid hz
  have HN := Lib.hid hne1
  have HN2 := Lib.hid hne2
  have HSZ : Hid (w.heap.size ≤ w2.heap.size) := Lib.hid HM2.out.size
  have HW : Hid (∀ Z Z' : Array Value, (((w2.alloc (.cells Z 34)).alloc (.cells Z' 34)).setRow w2.heap.size fc |>.setRow (w2.heap.size + 1) oc).heap[A]? = some (.cells rs 34 (0, 0)) ∧ (((w2.alloc (.cells Z 34)).alloc (.cells Z' 34)).setRow w2.heap.size fc |>.setRow (w2.heap.size + 1) oc).heap[A + 1]? = some (.cells ls 34 (0, 0)) ∧
      (((w2.alloc (.cells Z 34)).alloc (.cells Z' 34)).setRow w2.heap.size fc |>.setRow (w2.heap.size + 1) oc).heap[w2.heap.size]? = some (.cells fc 34 (0, 0)) ∧ (((w2.alloc (.cells Z 34)).alloc (.cells Z' 34)).setRow w2.heap.size fc |>.setRow (w2.heap.size + 1) oc).heap[w2.heap.size + 1]? = some (.cells oc 34 (0, 0)) ∧
      Mv (fun _ => False) w (((w2.alloc (.cells Z 34)).alloc (.cells Z' 34)).setRow w2.heap.size fc |>.setRow (w2.heap.size + 1) oc)) := Lib.hid fun Z Z' =>
    ⟨(setRow_other _ _ _ _ HNE.out.2.1).trans ((setRow_other _ _ _ _ HNE.out.1).trans (HF.out _ _)), (setRow_other _ _ _ _ HNE.out.2.2.2).trans ((setRow_other _ _ _ _ HNE.out.2.2.1).trans (HF2.out _ _)),
      (setRow_other _ _ _ _ (by omega)).trans (setRow_heap _ _ _ _ _ _ (HN0.out _ _)), setRow_heap _ _ _ _ _ _ ((setRow_other _ _ _ _ (by omega)).trans (HN1.out _ _)),
      (((HM2.out.alloc _).alloc _).setRow (.inr HM2.out.size) _).setRow (.inr (by have := HM2.out.size; omega)) _⟩
  clear hval hz hFl hOl hfc hoc hfz hoz hFF hOO hcc hne1 hne2
  go_upto_region 2 with (first
    | (refine wpList_store_row rfl 34 _ _ rfl w2.heap.size fc rfl rfl 34 _ (HN0.out _ _) HIF.out HZF.out HOF.out ?_)
    | (refine wpList_store_row rfl 34 _ _ rfl (w2.heap.size + 1) oc rfl rfl 34 _ ((setRow_other _ _ _ _ (by omega)).trans (HN1.out _ _)) HIO.out HZO.out HOO.out ?_))
  generalize hW : World.setRow _ _ _ = W
  obtain ⟨f1, f2, f3, f4, f5⟩ := HW.out _ _
  rw [hW] at f1 f2 f3 f4 f5
  obtain ⟨B, hB⟩ : ∃ B, B = w2.heap.size := ⟨_, rfl⟩
  rw [← hB] at f3 f4 ⊢
  have F1 := Lib.hid f1
  have F2 := Lib.hid f2
  have F3 := Lib.hid f3
  have F4 := Lib.hid f4
  have F5 := Lib.hid f5
  clear f1 f2 f3 f4 f5 hW hB HW HN0 HN1 HNE HF HF2
  obtain ⟨r, hr⟩ : ∃ r, r = treeAns k n m root old p := ⟨_, rfl⟩
  rw [← hr] at HZ
  have HRR := Lib.hid hr
  clear hr
  by_cases h0 : c = 0
  · subst h0
    cases hb : (F == root) with
    | true =>
      have hq : F = root := by simpa using hb
      have hne1 := HN.out
      rw [hb] at hne1
      cases hb2 : (O == old) with
      | true =>
        have hq2 : O = old := by simpa using hb2
        have hne2 := HN2.out
        rw [hb2] at hne2
        have hr0 : r = 0 := by rw [HZ.out, if_pos rfl, if_pos ⟨hq, hq2⟩]
        have HR0 := Lib.hid hr0
        clear hq hq2 hb hb2 hr0
        go_wp2_with (first
          | (refine wpList_load_rowG 34 _ rfl B rfl 34 fc (0, 0) _ F3.out Tryz.underlying34 rfl HIF.out rfl ?_)
          | (refine wpList_load_rowG 34 _ rfl A rfl 34 rs (0, 0) _ F1.out Tryz.underlying34 rfl HIR.out rfl ?_)
          | (refine wpList_load_rowG 34 _ rfl (B + 1) rfl 34 oc (0, 0) _ F4.out Tryz.underlying34 rfl HIO.out rfl ?_)
          | (refine wpList_load_rowG 34 _ rfl (A + 1) rfl 34 ls (0, 0) _ F2.out Tryz.underlying34 rfl HIL.out rfl ?_))
        go_ret
        exact ⟨by rw [← HRR.out, HR0.out]; rfl, F5.out⟩
      | false =>
        have hq2 : O ≠ old := by simpa using hb2
        have hne2 := HN2.out
        rw [hb2] at hne2
        have hr0 : r = 91 := by rw [HZ.out, if_pos rfl, if_neg (fun h => hq2 h.2)]
        have HR0 := Lib.hid hr0
        clear hq hq2 hb hb2 hr0
        go_wp2_with (first
          | (refine wpList_load_rowG 34 _ rfl B rfl 34 fc (0, 0) _ F3.out Tryz.underlying34 rfl HIF.out rfl ?_)
          | (refine wpList_load_rowG 34 _ rfl A rfl 34 rs (0, 0) _ F1.out Tryz.underlying34 rfl HIR.out rfl ?_)
          | (refine wpList_load_rowG 34 _ rfl (B + 1) rfl 34 oc (0, 0) _ F4.out Tryz.underlying34 rfl HIO.out rfl ?_)
          | (refine wpList_load_rowG 34 _ rfl (A + 1) rfl 34 ls (0, 0) _ F2.out Tryz.underlying34 rfl HIL.out rfl ?_))
        go_ret
        exact ⟨by rw [← HRR.out, HR0.out]; rfl, F5.out⟩
    | false =>
      have hq : F ≠ root := by simpa using hb
      have hne1 := HN.out
      rw [hb] at hne1
      have hr0 : r = 91 := by rw [HZ.out, if_pos rfl, if_neg (fun h => hq h.1)]
      have HR0 := Lib.hid hr0
      clear hq hb hr0
      go_wp2_with (first
        | (refine wpList_load_rowG 34 _ rfl B rfl 34 fc (0, 0) _ F3.out Tryz.underlying34 rfl HIF.out rfl ?_)
        | (refine wpList_load_rowG 34 _ rfl A rfl 34 rs (0, 0) _ F1.out Tryz.underlying34 rfl HIR.out rfl ?_))
      go_ret
      exact ⟨by rw [← HRR.out, HR0.out]; rfl, F5.out⟩
  · have hr0 : r = c := by rw [HZ.out, if_neg h0]
    have HR0 := Lib.hid hr0
    have g0 : ((c : Int) == 0) = false := by simpa using h0
    clear h0 hr0
    go_wp2_with fail
    go_ret
    exact ⟨by rw [← HRR.out, HR0.out]; rfl, F5.out⟩
end Go.Proofs.YtdfdikpklddnhaaGreatDoor
