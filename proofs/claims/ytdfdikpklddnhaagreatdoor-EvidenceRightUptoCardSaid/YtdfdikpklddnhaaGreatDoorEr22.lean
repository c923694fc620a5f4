/- proof.climbedTree. Printed by gen/gentcl.py. -/
import Derived.Test.YtdfdikpklddnhaaGreatDoorEr21
import Derived.Deep.DeepCutAuto
import Derived.BigQuiet
namespace Go.Proofs.YtdfdikpklddnhaaGreatDoor
open Go.RowKit
set_option linter.unusedSimpArgs false


set_option maxRecDepth 100000 in
set_option maxHeartbeats 3200000 in
theorem climbedTree_any (k : Int) (pv : Value) (p : List Bs) (n m : Nat) (old : Bs) (w : World) (hp : HsIn w pv p) (hn : n ≤ 281474976710656) (hm : 1 ≤ m ∧ m ≤ n) (hlen : p.length = (wayTree n m).length) (ho : old.length = 32) (he : EnvH w) :
    Calls Tryz.prog 92 #[.int .i64 k, pv, .int .i64 n, .int .i64 m, hashV old] w fun e w' => ∃ fv ov B c, e = .returned (.agg #[fv, ov, .map (some B)]) ∧ NodeAt w' fv (tEnd k n m old p).fresh ∧ NodeAt w' ov (tEnd k n m old p).old ∧
      w.heap.size ≤ B ∧ c ≤ 64 ∧ MapIs w' B c (tHashes k n m old p) ∧ Mv (fun _ => False) w w' := by
  obtain ⟨cs, hcs⟩ : ∃ cs, cs = (old.map byteV).toArray := ⟨_, rfl⟩
  rw [show hashV old = .agg cs by rw [hcs]; rfl]
  have hcsz : cs.size = 32 := by rw [hcs]; simp [ho]
  have HCS := Lib.hid hcs
  have hbg := build_given cs hcsz
  have HI34 : Hid ((Tryz.prog.info? 34).map (·.size) = some cs.size) := Lib.hid (by rw [hcsz]; exact info34)
  obtain ⟨pa, pc, hpv⟩ := hp.shape
  subst hpv
  obtain ⟨sa, hsa⟩ : ∃ x, x = (treeSeed n m).1 := ⟨_, rfl⟩
  obtain ⟨sb, hsb⟩ : ∃ x, x = (treeSeed n m).2 := ⟨_, rfl⟩
  have hb := wayDown_bound (treeStop m) (treeLeft m) 0 n 281474976710656 (by omega) hn
  have hsab : sa ≤ 281474976710656 ∧ sb ≤ 281474976710656 := ⟨by rw [hsa]; exact hb.2.1, by rw [hsb]; exact hb.2.2⟩
  have hwb : ∀ s ∈ wayUp n m, s.a ≤ 281474976710656 ∧ s.b ≤ 281474976710656 := fun s hs => hb.1 s (by unfold wayUp at hs; simpa using hs)
  have hw48 := wayUp_len n m hn
  have HP := Lib.hid hp
  have HO := Lib.hid ho
  have HE := Lib.hid he
  have HSA := Lib.hid hsa
  have HSB := Lib.hid hsb
  have HSAB := Lib.hid hsab
  have HWB := Lib.hid hwb
  have HLEN := Lib.hid hlen
  have HW48 := Lib.hid hw48
  obtain ⟨pl, hpl⟩ : ∃ pl, pl = p.length := ⟨_, rfl⟩
  rw [← hpl]
  have HPL := Lib.hid hpl
  clear hcs hp ho he hb hsab hwb hw48 hlen hsa hsb hpl
  go_enter Tryz.func92, Tryz.ntmps92
  go_wp2_with fail
  obtain ⟨A, hA⟩ : ∃ A, A = w.heap.size := ⟨_, rfl⟩
  obtain ⟨R, hR⟩ : ∃ R, R = A + 1 := ⟨_, rfl⟩
  have h1 : ((w.alloc (.cells cs 34)).alloc (.cells #[.nilIface, .nilIface, .map none] 180)).heap[A]? = some (.cells cs 34 (0, 0)) := by rw [hA]; exact (Below.heap_alloc _ _ _ (by simp)).trans (heap_alloc_new _ _)
  have h2 : ((w.alloc (.cells cs 34)).alloc (.cells #[.nilIface, .nilIface, .map none] 180)).heap[R]? = some (.cells #[.nilIface, .nilIface, .map none] 180 (0, 0)) := by
    rw [hR, hA, show w.heap.size + 1 = (w.alloc (.cells cs 34)).heap.size by simp]; exact heap_alloc_new _ _
  have hma : Mv (fun _ => False) w ((w.alloc (.cells cs 34)).alloc (.cells #[.nilIface, .nilIface, .map none] 180)) := ((Mv.refl _ _).alloc _).alloc _
  generalize hW1 : (w.alloc (.cells cs 34)).alloc (.cells #[.nilIface, .nilIface, .map none] 180) = W1
  rw [hW1] at h1 h2 hma
  rw [← hA, ← hR]
  have H1 := Lib.hid h1
  have H2 := Lib.hid h2
  have HM := Lib.hid hma
  have HAR : Hid (A = w.heap.size ∧ R = A + 1) := Lib.hid ⟨hA, hR⟩
  clear hW1 h1 h2 hma hA hR
  refine (wayFrom_any n m W1 hn hm).mono ?_
  rintro e w2 ⟨wv, rfl, hown, hm2⟩
  have hway := WayIn.of_owns hown
  obtain ⟨wa, wc, rfl⟩ := owns_shape hown
  rw [← HSA.out, ← HSB.out]
  have HWAY := Lib.hid hway
  have HM2 := Lib.hid (HM.out.trans hm2)
  have H1b := Lib.hid ((hm2.block A (lt_of_heap H1.out) id).trans H1.out)
  have H2b := Lib.hid ((hm2.block R (lt_of_heap H2.out) id).trans H2.out)
  obtain ⟨wl, hwl⟩ : ∃ wl, wl = (wayTree n m).length := ⟨_, rfl⟩
  rw [← hwl] at hway ⊢
  have HWL := Lib.hid hwl
  clear hown hway hm2 hwl
  have HF : Hid (∀ o, (w2.alloc o).heap[A]? = some (.cells cs 34 (0, 0))) := Lib.hid fun o => (Below.heap_alloc _ _ _ (lt_of_heap H1b.out)).trans H1b.out
  go_upto_if 28 with (first
    | (refine wpList_load_row rfl 34 _ rfl A rfl 34 cs (0, 0) _ (HF.out _) Tryz.underlying34 rfl HI34.out ?_))
  obtain ⟨S, hS⟩ : ∃ S, S = w2.heap.size := ⟨_, rfl⟩
  have h3 : (w2.alloc (.cells #[.int .i64 sa, .int .i64 sb] 170)).heap[S]? = some (.cells #[.int .i64 sa, .int .i64 sb] 170 (0, 0)) := by rw [hS]; exact heap_alloc_new _ _
  have h4 : (w2.alloc (.cells #[.int .i64 sa, .int .i64 sb] 170)).heap[R]? = some (.cells #[.nilIface, .nilIface, .map none] 180 (0, 0)) := (Below.heap_alloc _ _ _ (lt_of_heap H2b.out)).trans H2b.out
  have hm3 : Mv (fun _ => False) w2 (w2.alloc (.cells #[.int .i64 sa, .int .i64 sb] 170)) := (Mv.refl _ _).alloc _
  have hRS : R < w2.heap.size := lt_of_heap H2b.out
  rw [← hS] at hRS ⊢
  have HRS : Hid (R < S) := Lib.hid hRS
  generalize w2.alloc (.cells #[.int .i64 sa, .int .i64 sb] 170) = w3 at h3 h4 hm3 ⊢
  have H3 := Lib.hid h3
  have H4 := Lib.hid h4
  have HM3 := Lib.hid (HM2.out.trans hm3)
  have HM23 := Lib.hid hm3
  have HS2 : Hid (S = w2.heap.size) := Lib.hid hS
  clear h3 h4 hm3 hRS hS HF H1b H2b H1 H2
  go_cut [1, 11, 13] (fun s1 s11 s13 wx => HsIn w2 s1 (tRest n m p) ∧ WayIn w2 s11 (wayUp n m) ∧ s13 = .iface 248 (hashV (tBeg n m old p)) ∧ (tBeg n m old p).length = 32 ∧ wx.heap[S]? = some (.cells #[.int .i64 sa, .int .i64 sb] 170 (0, 0)) ∧ wx.heap[R]? = some (.cells #[.nilIface, .nilIface, .map none] 180 (0, 0)) ∧ Mv (fun _ => False) w wx ∧ Mv (fun _ => False) w2 wx)
  case first =>
    by_cases h0 : sa = 0
    · subst h0
      go_wp2_with fail
      go_meet
      have hz : (treeSeed n m).1 = 0 := HSA.out.symm
      refine ⟨?_, ?_, ?_, ?_, H3.out, H4.out, HM3.out, HM23.out⟩
      · unfold tRest; rw [if_neg (by omega)]; rw [HPL.out]; exact HP.out.mv HM2.out (fun _ _ h => h)
      · have := HWAY.out; rw [wayTree_zero n m hz] at this; rw [HWL.out, wayTree_zero n m hz]; exact this
      · unfold tBeg hashV; rw [if_neg (by omega), HCS.out]
      · unfold tBeg; rw [if_neg (by omega)]; exact HO.out
    · have hz : 0 < (treeSeed n m).1 := by rw [← HSA.out]; omega
      have g0 : decide ((0 : Int) < sa) = true := decide_eq_true (by omega)
      have hne : 0 < p.length := by rw [HLEN.out, wayTree_pos n m hz]; simp
      have hp3 := HP.out.mv HM3.out (fun _ _ h => h)
      obtain ⟨gp, op, hgp, hpc, hh32, hpcells⟩ := HsIn.at hp3 0 hne
      subst hgp
      obtain ⟨hb0, hh⟩ : ∃ hb0, hb0 = p.getD 0 [] := ⟨_, rfl⟩
      rw [← hh] at hh32 hpcells
      obtain ⟨hc, hhc⟩ : ∃ hc, hc = hb0.map byteV := ⟨_, rfl⟩
      rw [← hhc] at hpcells
      have hhl : hc.length = 32 := by rw [hhc, List.length_map]; exact hh32
      have hbg2 := build_givenL hc hhl
      have hway3 := HWAY.out
      rw [← HWL.out, wayTree_pos n m hz] at hway3
      obtain ⟨gw, ow, hgw⟩ : ∃ gw ow, wa = some ⟨gw, ow, none⟩ := by
        obtain ⟨a', c', he, _, hx⟩ := hway3
        simp only [Value.slice.injEq] at he
        obtain ⟨g, off, h1, _⟩ := hx 0 (by simp)
        exact ⟨g, off, by rw [he.1, h1]⟩
      subst hgw
      have hwc : wl ≤ wc := by
        obtain ⟨a', c', he, hx, _⟩ := hway3
        simp only [Value.slice.injEq] at he
        rw [he.2.1, he.2.2]; exact hx
      have HIL : Hid ((Tryz.prog.info? 34).map (·.size) = some hc.length) := Lib.hid (by rw [hhl]; exact info34)
      have HPC : Hid (∀ (t : Nat) u, hc[t]? = some u → w3.cell? ⟨gp, op + 0 * 32 + t, none⟩ = some u) := Lib.hid hpcells
      have HHC := Lib.hid hhc
      have HHH := Lib.hid hh
      have HH32 := Lib.hid hh32
      have hpl1 : 0 < pl := by rw [HPL.out]; exact hne
      have hwl1 : 0 < wl := by rw [HWL.out, wayTree_pos n m hz]; simp
      rw [← HPL.out] at hpc
      have q1 : (1 : Int) ≤ pl := by omega
      have q2 : (pl : Int) ≤ pc := by omega
      have q3 : (1 : Int) ≤ wl := by omega
      have q4 : (wl : Int) ≤ wc := by omega
      have HP3 := Lib.hid (HP.out.mv HM2.out (fun _ _ h => h))
      have HW3 := Lib.hid hway3
      clear hpcells hhc hh hh32 hp3 hway3 hbg hne
      go_upto_region 5 with (first
        | (refine wpList_load_cellsAt rfl 34 _ rfl gp (op + 0 * 32) (by go_simp) hc _ HPC.out Tryz.underlying34 rfl HIL.out ?_))
      go_quiet (fail)
      rename_i nq
      generalize hqa : (if pc = 1 then some (⟨gp, op, none⟩ : Addr) else some ⟨gp, op + 32, none⟩) = qa
      generalize hqb : (if wc = 1 then some (⟨gw, ow, none⟩ : Addr) else some ⟨gw, ow + 3, none⟩) = qb
      have HQA := Lib.hid hqa
      have HQB := Lib.hid hqb
      clear hqa hqb
      go_wp2_with fail
      go_meet
      have hpp : p = hb0 :: p.drop 1 := by
        rw [HHH.out]
        cases p with
        | nil => simp at HPL; rw [HPL.out] at hpl1; simp at hpl1
        | cons x xs => rfl
      have hmq : Mv (fun _ => False) w3 (w3.drewN nq) := ⟨rfl, rfl, rfl, Nat.le_refl _, fun _ _ _ => rfl⟩
      refine ⟨?_, ?_, ?_, ?_, H3.out, H4.out, HM3.out.trans hmq, HM23.out.trans hmq⟩
      · unfold tRest; rw [if_pos hz]
        have := HP3.out
        rw [← HPL.out, hpp] at this
        rw [← HQA.out]
        exact HsIn.tail this
      · rw [← HQB.out]; exact WayIn.tail HW3.out
      · unfold tBeg hashV; rw [if_pos hz, ← HHH.out, ← HHC.out]
      · unfold tBeg; rw [if_pos hz, ← HHH.out]; exact HH32.out
  case rest =>
    obtain ⟨hps, hws, rfl, hb32, hs0, hr0, hmv0, hmv2⟩ := hcut
    have HMV2 := Lib.hid hmv2
    obtain ⟨beg, hbeg⟩ : ∃ b, b = tBeg n m old p := ⟨_, rfl⟩
    rw [← hbeg] at hb32 ⊢
    have HBEG := Lib.hid hb32
    have HBG := Lib.hid hbeg
    have HPS := Lib.hid hps
    have HWS := Lib.hid hws
    have HS0 := Lib.hid hs0
    have HR0 := Lib.hid hr0
    have HMV0 := Lib.hid hmv0
    have HSWC : Hid (S < wc.heap.size) := Lib.hid (lt_of_heap hs0)
    have HMx0 : Hid (Mv (fun _ => False) wc wc.drew) := Lib.hid (Mv.refl _ _).drew
    clear hbg hps hws hs0 hr0 hmv0 hbeg hb32 hmv2
    go_upto_region 6 with fail
    obtain ⟨w4, hw4⟩ : ∃ x, x = wc := ⟨_, rfl⟩
    rw [← hw4] at HS0 HR0 HMV0 HSWC HMx0 HMV2 ⊢
    clear hw4 wc
    go_cut [14] (fun s14 wx => ∃ T B, s14 = .pointer (some ⟨T, 0, none⟩) ∧ w2.heap.size ≤ T ∧ w2.heap.size ≤ B ∧ T ≠ B ∧ T ≠ S ∧ B ≠ S ∧ T ≠ R ∧ B ≠ R ∧ TL w wx T S B R 1 ⟨.given beg, .given beg, sa, sb⟩ (mput (fun _ _ => zero32) sa sb beg) ∧ Mv (fun _ => False) w2 wx)
    case first =>
      refine wp_region_noPanic ?_
      refine wp_region_held_drew (S := (fun w' => w'.heap[S]? = some (.cells #[.int .i64 sa, .int .i64 sb] 170 (0, 0)))) (by kernel_rfl) (HS0.out) (fun hHeld => ?_)
      refine wpAnyH_take (i := 0) (oi := _) (v := .iface 248 (hashV beg)) rfl (by kernel_rfl) (by kernel_rfl) (by kernel_rfl) (fun _ _ _ h => h) (Or.inl ⟨by rfl, fun _ hS => by go_simp⟩) hHeld ?_
      try simp only [Act.put, List.getElem_toArray, List.getElem_cons_succ, List.getElem_cons_zero, List.setIfInBounds_toArray, List.set_cons_zero, List.set_cons_succ]
      refine wpAnyH_take (i := 1) (oi := _) (v := .iface 248 (hashV beg)) rfl (by kernel_rfl) (by kernel_rfl) (by kernel_rfl) (fun _ _ _ h => h) (Or.inl ⟨by rfl, fun _ hS => by go_simp⟩) hHeld ?_
      try simp only [Act.put, List.getElem_toArray, List.getElem_cons_succ, List.getElem_cons_zero, List.setIfInBounds_toArray, List.set_cons_zero, List.set_cons_succ]
      refine wpAnyH_take (i := 4) (oi := _) (v := .iface 248 (hashV beg)) rfl (by kernel_rfl) (by kernel_rfl) (by kernel_rfl) (fun _ _ _ h => h) (Or.inl ⟨by rfl, fun _ hS => by go_simp⟩) hHeld ?_
      try simp only [Act.put, List.getElem_toArray, List.getElem_cons_succ, List.getElem_cons_zero, List.setIfInBounds_toArray, List.set_cons_zero, List.set_cons_succ]
      refine wpAnyH_take (i := 3) (oi := _) (v := spanV sa sb) rfl (by kernel_rfl) (by kernel_rfl) (by kernel_rfl) (fun _ _ _ h => h) (Or.inl ⟨by rfl, fun _ hS => by have := cell_of_heap hS 0 rfl; have := cell_of_heap hS 1 rfl; unfold spanV; go_simp⟩) hHeld ?_
      try simp only [Act.put, List.getElem_toArray, List.getElem_cons_succ, List.getElem_cons_zero, List.setIfInBounds_toArray, List.set_cons_zero, List.set_cons_succ]
      refine wpAnyH_ready (rs := [2, 5, 9]) (by kernel_rfl) (by simp) (AllReadyH.cons rfl (fun K' hK => ?r1x2) (AllReadyH.cons rfl (fun K' hK => ?r1x5) (AllReadyH.cons rfl (fun K' hK => ?r1x9) AllReadyH.nil)))
      case r1x2 =>
        rw [if_pos (by rfl)]
        unfold Oper.wp execOp
        go_simp
        have hs : (w4.drew.alloc (.map #[] 0)).heap[S]? = some (.cells #[.int .i64 sa, .int .i64 sb] 170 (0, 0)) := (Below.heap_alloc _ _ _ (lt_of_heap hHeld)).trans hHeld
        refine hK.out _ (w4.drew.alloc (.map #[] 0)) hs (fun hHeld => ?_)
        clear hK K' hs
        try simp only [Act.put, List.getElem_toArray, List.getElem_cons_succ, List.getElem_cons_zero, List.setIfInBounds_toArray, List.set_cons_zero, List.set_cons_succ]
        have hm : Mv (fun _ => False) w4.drew (w4.drew.alloc (.map #[] 0)) := (Mv.refl _ _).alloc _
        have hb : MapIs (w4.drew.alloc (.map #[] 0)) w4.drew.heap.size 0 (fun _ _ => zero32) := MapIs.made _
        obtain ⟨B1, hB1⟩ : ∃ b, b = w4.drew.heap.size := ⟨_, rfl⟩
        rw [← hB1] at hb ⊢
        have HBWB1 : Hid (w4.heap.size ≤ B1) := Lib.hid (by rw [hB1]; exact HMx0.out.size)
        generalize w4.drew.alloc (.map #[] 0) = x1 at hHeld hm hb ⊢
        have HMx1 : Hid (Mv (fun _ => False) w4 x1) := Lib.hid (HMx0.out.trans hm)
        have HB1 := Lib.hid hb
        clear hm hb hB1
        refine wpAnyH_ready (rs := [5, 9]) (by kernel_rfl) (by simp) (AllReadyH.cons rfl (fun K' hK => ?r2x5) (AllReadyH.cons rfl (fun K' hK => ?r2x9) AllReadyH.nil))
        case r2x5 =>
          rw [if_pos (by rfl)]
          refine wp_sum 42 rfl _ (.given beg) rfl ⟨HBEG.out, rfl⟩ (fun x2 hm => ?_)
          have HMx2 : Hid (Mv (fun _ => False) w4 x2) := Lib.hid (HMx1.out.trans hm)
          have HB2 : Hid (MapIs x2 B1 0 (fun _ _ => zero32)) := Lib.hid (HB1.out.mv hm id)
          have hs := (hm.block S (lt_of_heap hHeld) id).trans hHeld
          clear hm
          refine hK.out _ _ hs (fun hHeld => ?_)
          clear hK K' hs
          try simp only [Act.put, List.getElem_toArray, List.getElem_cons_succ, List.getElem_cons_zero, List.setIfInBounds_toArray, List.set_cons_zero, List.set_cons_succ]
          refine wpAnyH_ready (rs := [6, 9]) (by kernel_rfl) (by simp) (AllReadyH.cons rfl (fun K' hK => ?r3x6) (AllReadyH.cons rfl (fun K' hK => ?r3x9) AllReadyH.nil))
          case r3x6 =>
            rw [if_pos (by rfl)]
            refine wp_insert (.tmp 40) (.tmp 41) (.tmp 43) (.inl rfl) sa sb beg rfl rfl rfl HB2.out (by unfold maxLen; omega) HSAB.out.1 HSAB.out.2 HBEG.out (fun x3 hmp hg => ?_)
            have HB3 : Hid (MapIs x3 B1 1 (mput (fun _ _ => zero32) sa sb beg)) := Lib.hid hmp
            have hlt := HB2.out.lt
            have hmg : Mv (fun b => b = B1) x2 x3 := (Mv.refl _ _).grown hg (fun k hk => .inl (by cases hk; rfl))
            have HMx3 : Hid (Mv (fun _ => False) w4 x3) := Lib.hid (HMx2.out.trans' hmg (fun i hi h => by have := HBWB1.out; omega))
            have hs := (hmg.block S (lt_of_heap hHeld) (by have := HBWB1.out; have := HSWC.out; omega)).trans hHeld
            clear hmp hg hmg hlt
            refine hK.out _ _ hs (fun hHeld => ?_)
            clear hK K' hs
            try simp only [Act.put, List.getElem_toArray, List.getElem_cons_succ, List.getElem_cons_zero, List.setIfInBounds_toArray, List.set_cons_zero, List.set_cons_succ]
            refine wpAnyH_take (i := 7) (oi := _) (v := .map (some B1)) rfl (by kernel_rfl) (by kernel_rfl) (by kernel_rfl) (fun _ _ _ h => h) (Or.inl ⟨by rfl, fun _ hS => by go_simp⟩) hHeld ?_
            try simp only [Act.put, List.getElem_toArray, List.getElem_cons_succ, List.getElem_cons_zero, List.setIfInBounds_toArray, List.set_cons_zero, List.set_cons_succ]
            refine wpAnyH_take (i := 8) (oi := _) (v := .agg #[.iface 248 (hashV beg), .iface 248 (hashV beg), .map (some B1)]) rfl (by kernel_rfl) (by kernel_rfl) (by kernel_rfl) (fun _ _ _ h => h) (Or.inl ⟨by rfl, fun _ hS => by go_simp⟩) hHeld ?_
            try simp only [Act.put, List.getElem_toArray, List.getElem_cons_succ, List.getElem_cons_zero, List.setIfInBounds_toArray, List.set_cons_zero, List.set_cons_succ]
            refine wpAnyH_ready (rs := [9]) (by kernel_rfl) (by simp) (AllReadyH.cons rfl (fun K' hK => ?r4x9) AllReadyH.nil)
            case r4x9 =>
              rw [if_pos (by rfl)]
              unfold Oper.wp execOp
              go_simp
              have hs : (x3.alloc (.cells #[.nilIface, .nilIface, .map none] 180)).heap[S]? = some (.cells #[.int .i64 sa, .int .i64 sb] 170 (0, 0)) := (Below.heap_alloc _ _ _ (lt_of_heap hHeld)).trans hHeld
              refine hK.out _ (x3.alloc (.cells #[.nilIface, .nilIface, .map none] 180)) hs (fun hHeld => ?_)
              clear hK K' hs
              try simp only [Act.put, List.getElem_toArray, List.getElem_cons_succ, List.getElem_cons_zero, List.setIfInBounds_toArray, List.set_cons_zero, List.set_cons_succ]
              have hm : Mv (fun _ => False) x3 (x3.alloc (.cells #[.nilIface, .nilIface, .map none] 180)) := (Mv.refl _ _).alloc _
              have hb : (x3.alloc (.cells #[.nilIface, .nilIface, .map none] 180)).heap[x3.heap.size]? = some (.cells #[.nilIface, .nilIface, .map none] 180 (0, 0)) := heap_alloc_new _ _
              obtain ⟨T4, hT4⟩ : ∃ b, b = x3.heap.size := ⟨_, rfl⟩
              rw [← hT4] at hb ⊢
              have HBWT4 : Hid (w4.heap.size ≤ T4) := Lib.hid (by rw [hT4]; exact HMx3.out.size)
              have HNE : Hid (T4 ≠ B1) := Lib.hid (by have := HB3.out.lt; omega)
              generalize x3.alloc (.cells #[.nilIface, .nilIface, .map none] 180) = x4 at hHeld hm hb ⊢
              have HMx4 : Hid (Mv (fun _ => False) w4 x4) := Lib.hid (HMx3.out.trans hm)
              have HT4 := Lib.hid hb
              have HB4 : Hid (MapIs x4 B1 1 (mput (fun _ _ => zero32) sa sb beg)) := Lib.hid (HB3.out.mv hm id)
              clear hm hb hT4
              refine wpAnyH_one' (i := 10) (o := _) (by kernel_rfl) rfl (fun K' hK => ?_)
              rw [if_pos (by rfl)]
              refine wp_store_row 180 (.tmp 14) (.tmp 45) rfl T4 #[.iface 248 (hashV beg), .iface 248 (hashV beg), .map (some B1)] rfl rfl 180 _ HT4.out (by kernel_rfl) rfl (three_one _ _ _ _ _) ?_
              have htl := TL.made (T := T4) (S := S) (B := B1) (R := R) (sa := sa) (sb := sb) (beg := beg) HMV0.out HMx4.out HT4.out hHeld ((HMx4.out.block R (by have := HSWC.out; have := HRS.out; omega) id).trans HR0.out) HB4.out HBEG.out HNE.out (by have := HBWT4.out; have := HSWC.out; omega) (by have := HBWT4.out; have := HSWC.out; have := HRS.out; omega) (by have := HBWT4.out; have := HMV0.out.size; omega)
              have HTL := Lib.hid htl
              have HMZ := Lib.hid (HMx4.out.setRow (g := T4) (.inr HBWT4.out) #[.iface 248 (hashV beg), .iface 248 (hashV beg), .map (some B1)])
              refine hK.out _ _ htl.s (fun hHeld => ?_)
              clear hK K' htl
              try simp only [Act.put, List.getElem_toArray, List.getElem_cons_succ, List.getElem_cons_zero, List.setIfInBounds_toArray, List.set_cons_zero, List.set_cons_succ]
              refine wpAnyH_done (by kernel_rfl) ?_ _
              refine NoPanic.normal ?_
              go_wp2_with fail
              go_meet
              exact ⟨T4, B1, rfl, by have := HBWT4.out; have := HMV2.out.size; omega, by have := HBWB1.out; have := HMV2.out.size; omega, HNE.out, by have := HBWT4.out; have := HSWC.out; omega, by have := HBWB1.out; have := HSWC.out; omega, by have := HBWT4.out; have := HSWC.out; have := HRS.out; omega, by have := HBWB1.out; have := HSWC.out; have := HRS.out; omega, HTL.out, HMV2.out.trans HMZ.out⟩
          case r3x9 =>
            rw [if_pos (by rfl)]
            unfold Oper.wp execOp
            go_simp
            have hs : (x2.alloc (.cells #[.nilIface, .nilIface, .map none] 180)).heap[S]? = some (.cells #[.int .i64 sa, .int .i64 sb] 170 (0, 0)) := (Below.heap_alloc _ _ _ (lt_of_heap hHeld)).trans hHeld
            refine hK.out _ (x2.alloc (.cells #[.nilIface, .nilIface, .map none] 180)) hs (fun hHeld => ?_)
            clear hK K' hs
            try simp only [Act.put, List.getElem_toArray, List.getElem_cons_succ, List.getElem_cons_zero, List.setIfInBounds_toArray, List.set_cons_zero, List.set_cons_succ]
            have hm : Mv (fun _ => False) x2 (x2.alloc (.cells #[.nilIface, .nilIface, .map none] 180)) := (Mv.refl _ _).alloc _
            have hb : (x2.alloc (.cells #[.nilIface, .nilIface, .map none] 180)).heap[x2.heap.size]? = some (.cells #[.nilIface, .nilIface, .map none] 180 (0, 0)) := heap_alloc_new _ _
            obtain ⟨T3, hT3⟩ : ∃ b, b = x2.heap.size := ⟨_, rfl⟩
            rw [← hT3] at hb ⊢
            have HBWT3 : Hid (w4.heap.size ≤ T3) := Lib.hid (by rw [hT3]; exact HMx2.out.size)
            have HNE : Hid (T3 ≠ B1) := Lib.hid (by have := HB2.out.lt; omega)
            generalize x2.alloc (.cells #[.nilIface, .nilIface, .map none] 180) = x3 at hHeld hm hb ⊢
            have HMx3 : Hid (Mv (fun _ => False) w4 x3) := Lib.hid (HMx2.out.trans hm)
            have HT3 := Lib.hid hb
            have HB3 : Hid (MapIs x3 B1 0 (fun _ _ => zero32)) := Lib.hid (HB2.out.mv hm id)
            clear hm hb hT3
            refine wpAnyH_ready (rs := [6]) (by kernel_rfl) (by simp) (AllReadyH.cons rfl (fun K' hK => ?r6x6) AllReadyH.nil)
            case r6x6 =>
              rw [if_pos (by rfl)]
              refine wp_insert (.tmp 40) (.tmp 41) (.tmp 43) (.inl rfl) sa sb beg rfl rfl rfl HB3.out (by unfold maxLen; omega) HSAB.out.1 HSAB.out.2 HBEG.out (fun x4 hmp hg => ?_)
              have HB4 : Hid (MapIs x4 B1 1 (mput (fun _ _ => zero32) sa sb beg)) := Lib.hid hmp
              have hlt := HB3.out.lt
              have hmg : Mv (fun b => b = B1) x3 x4 := (Mv.refl _ _).grown hg (fun k hk => .inl (by cases hk; rfl))
              have HMx4 : Hid (Mv (fun _ => False) w4 x4) := Lib.hid (HMx3.out.trans' hmg (fun i hi h => by have := HBWB1.out; omega))
              have HT4 : Hid (x4.heap[T3]? = some (.cells #[.nilIface, .nilIface, .map none] 180 (0, 0))) := Lib.hid ((hmg.block _ (lt_of_heap HT3.out) HNE.out).trans HT3.out)
              have hs := (hmg.block S (lt_of_heap hHeld) (by have := HBWB1.out; have := HSWC.out; omega)).trans hHeld
              clear hmp hg hmg hlt
              refine hK.out _ _ hs (fun hHeld => ?_)
              clear hK K' hs
              try simp only [Act.put, List.getElem_toArray, List.getElem_cons_succ, List.getElem_cons_zero, List.setIfInBounds_toArray, List.set_cons_zero, List.set_cons_succ]
              refine wpAnyH_take (i := 7) (oi := _) (v := .map (some B1)) rfl (by kernel_rfl) (by kernel_rfl) (by kernel_rfl) (fun _ _ _ h => h) (Or.inl ⟨by rfl, fun _ hS => by go_simp⟩) hHeld ?_
              try simp only [Act.put, List.getElem_toArray, List.getElem_cons_succ, List.getElem_cons_zero, List.setIfInBounds_toArray, List.set_cons_zero, List.set_cons_succ]
              refine wpAnyH_take (i := 8) (oi := _) (v := .agg #[.iface 248 (hashV beg), .iface 248 (hashV beg), .map (some B1)]) rfl (by kernel_rfl) (by kernel_rfl) (by kernel_rfl) (fun _ _ _ h => h) (Or.inl ⟨by rfl, fun _ hS => by go_simp⟩) hHeld ?_
              try simp only [Act.put, List.getElem_toArray, List.getElem_cons_succ, List.getElem_cons_zero, List.setIfInBounds_toArray, List.set_cons_zero, List.set_cons_succ]
              refine wpAnyH_one' (i := 10) (o := _) (by kernel_rfl) rfl (fun K' hK => ?_)
              rw [if_pos (by rfl)]
              refine wp_store_row 180 (.tmp 14) (.tmp 45) rfl T3 #[.iface 248 (hashV beg), .iface 248 (hashV beg), .map (some B1)] rfl rfl 180 _ HT4.out (by kernel_rfl) rfl (three_one _ _ _ _ _) ?_
              have htl := TL.made (T := T3) (S := S) (B := B1) (R := R) (sa := sa) (sb := sb) (beg := beg) HMV0.out HMx4.out HT4.out hHeld ((HMx4.out.block R (by have := HSWC.out; have := HRS.out; omega) id).trans HR0.out) HB4.out HBEG.out HNE.out (by have := HBWT3.out; have := HSWC.out; omega) (by have := HBWT3.out; have := HSWC.out; have := HRS.out; omega) (by have := HBWT3.out; have := HMV0.out.size; omega)
              have HTL := Lib.hid htl
              have HMZ := Lib.hid (HMx4.out.setRow (g := T3) (.inr HBWT3.out) #[.iface 248 (hashV beg), .iface 248 (hashV beg), .map (some B1)])
              refine hK.out _ _ htl.s (fun hHeld => ?_)
              clear hK K' htl
              try simp only [Act.put, List.getElem_toArray, List.getElem_cons_succ, List.getElem_cons_zero, List.setIfInBounds_toArray, List.set_cons_zero, List.set_cons_succ]
              refine wpAnyH_done (by kernel_rfl) ?_ _
              refine NoPanic.normal ?_
              go_wp2_with fail
              go_meet
              exact ⟨T3, B1, rfl, by have := HBWT3.out; have := HMV2.out.size; omega, by have := HBWB1.out; have := HMV2.out.size; omega, HNE.out, by have := HBWT3.out; have := HSWC.out; omega, by have := HBWB1.out; have := HSWC.out; omega, by have := HBWT3.out; have := HSWC.out; have := HRS.out; omega, by have := HBWB1.out; have := HSWC.out; have := HRS.out; omega, HTL.out, HMV2.out.trans HMZ.out⟩
        case r2x9 =>
          rw [if_pos (by rfl)]
          unfold Oper.wp execOp
          go_simp
          have hs : (x1.alloc (.cells #[.nilIface, .nilIface, .map none] 180)).heap[S]? = some (.cells #[.int .i64 sa, .int .i64 sb] 170 (0, 0)) := (Below.heap_alloc _ _ _ (lt_of_heap hHeld)).trans hHeld
          refine hK.out _ (x1.alloc (.cells #[.nilIface, .nilIface, .map none] 180)) hs (fun hHeld => ?_)
          clear hK K' hs
          try simp only [Act.put, List.getElem_toArray, List.getElem_cons_succ, List.getElem_cons_zero, List.setIfInBounds_toArray, List.set_cons_zero, List.set_cons_succ]
          have hm : Mv (fun _ => False) x1 (x1.alloc (.cells #[.nilIface, .nilIface, .map none] 180)) := (Mv.refl _ _).alloc _
          have hb : (x1.alloc (.cells #[.nilIface, .nilIface, .map none] 180)).heap[x1.heap.size]? = some (.cells #[.nilIface, .nilIface, .map none] 180 (0, 0)) := heap_alloc_new _ _
          obtain ⟨T2, hT2⟩ : ∃ b, b = x1.heap.size := ⟨_, rfl⟩
          rw [← hT2] at hb ⊢
          have HBWT2 : Hid (w4.heap.size ≤ T2) := Lib.hid (by rw [hT2]; exact HMx1.out.size)
          have HNE : Hid (T2 ≠ B1) := Lib.hid (by have := HB1.out.lt; omega)
          generalize x1.alloc (.cells #[.nilIface, .nilIface, .map none] 180) = x2 at hHeld hm hb ⊢
          have HMx2 : Hid (Mv (fun _ => False) w4 x2) := Lib.hid (HMx1.out.trans hm)
          have HT2 := Lib.hid hb
          have HB2 : Hid (MapIs x2 B1 0 (fun _ _ => zero32)) := Lib.hid (HB1.out.mv hm id)
          clear hm hb hT2
          refine wpAnyH_ready (rs := [5]) (by kernel_rfl) (by simp) (AllReadyH.cons rfl (fun K' hK => ?r8x5) AllReadyH.nil)
          case r8x5 =>
            rw [if_pos (by rfl)]
            refine wp_sum 42 rfl _ (.given beg) rfl ⟨HBEG.out, rfl⟩ (fun x3 hm => ?_)
            have HMx3 : Hid (Mv (fun _ => False) w4 x3) := Lib.hid (HMx2.out.trans hm)
            have HB3 : Hid (MapIs x3 B1 0 (fun _ _ => zero32)) := Lib.hid (HB2.out.mv hm id)
            have HT3 : Hid (x3.heap[T2]? = some (.cells #[.nilIface, .nilIface, .map none] 180 (0, 0))) := Lib.hid ((hm.block _ (lt_of_heap HT2.out) id).trans HT2.out)
            have hs := (hm.block S (lt_of_heap hHeld) id).trans hHeld
            clear hm
            refine hK.out _ _ hs (fun hHeld => ?_)
            clear hK K' hs
            try simp only [Act.put, List.getElem_toArray, List.getElem_cons_succ, List.getElem_cons_zero, List.setIfInBounds_toArray, List.set_cons_zero, List.set_cons_succ]
            refine wpAnyH_ready (rs := [6]) (by kernel_rfl) (by simp) (AllReadyH.cons rfl (fun K' hK => ?r9x6) AllReadyH.nil)
            case r9x6 =>
              rw [if_pos (by rfl)]
              refine wp_insert (.tmp 40) (.tmp 41) (.tmp 43) (.inl rfl) sa sb beg rfl rfl rfl HB3.out (by unfold maxLen; omega) HSAB.out.1 HSAB.out.2 HBEG.out (fun x4 hmp hg => ?_)
              have HB4 : Hid (MapIs x4 B1 1 (mput (fun _ _ => zero32) sa sb beg)) := Lib.hid hmp
              have hlt := HB3.out.lt
              have hmg : Mv (fun b => b = B1) x3 x4 := (Mv.refl _ _).grown hg (fun k hk => .inl (by cases hk; rfl))
              have HMx4 : Hid (Mv (fun _ => False) w4 x4) := Lib.hid (HMx3.out.trans' hmg (fun i hi h => by have := HBWB1.out; omega))
              have HT4 : Hid (x4.heap[T2]? = some (.cells #[.nilIface, .nilIface, .map none] 180 (0, 0))) := Lib.hid ((hmg.block _ (lt_of_heap HT3.out) HNE.out).trans HT3.out)
              have hs := (hmg.block S (lt_of_heap hHeld) (by have := HBWB1.out; have := HSWC.out; omega)).trans hHeld
              clear hmp hg hmg hlt
              refine hK.out _ _ hs (fun hHeld => ?_)
              clear hK K' hs
              try simp only [Act.put, List.getElem_toArray, List.getElem_cons_succ, List.getElem_cons_zero, List.setIfInBounds_toArray, List.set_cons_zero, List.set_cons_succ]
              refine wpAnyH_take (i := 7) (oi := _) (v := .map (some B1)) rfl (by kernel_rfl) (by kernel_rfl) (by kernel_rfl) (fun _ _ _ h => h) (Or.inl ⟨by rfl, fun _ hS => by go_simp⟩) hHeld ?_
              try simp only [Act.put, List.getElem_toArray, List.getElem_cons_succ, List.getElem_cons_zero, List.setIfInBounds_toArray, List.set_cons_zero, List.set_cons_succ]
              refine wpAnyH_take (i := 8) (oi := _) (v := .agg #[.iface 248 (hashV beg), .iface 248 (hashV beg), .map (some B1)]) rfl (by kernel_rfl) (by kernel_rfl) (by kernel_rfl) (fun _ _ _ h => h) (Or.inl ⟨by rfl, fun _ hS => by go_simp⟩) hHeld ?_
              try simp only [Act.put, List.getElem_toArray, List.getElem_cons_succ, List.getElem_cons_zero, List.setIfInBounds_toArray, List.set_cons_zero, List.set_cons_succ]
              refine wpAnyH_one' (i := 10) (o := _) (by kernel_rfl) rfl (fun K' hK => ?_)
              rw [if_pos (by rfl)]
              refine wp_store_row 180 (.tmp 14) (.tmp 45) rfl T2 #[.iface 248 (hashV beg), .iface 248 (hashV beg), .map (some B1)] rfl rfl 180 _ HT4.out (by kernel_rfl) rfl (three_one _ _ _ _ _) ?_
              have htl := TL.made (T := T2) (S := S) (B := B1) (R := R) (sa := sa) (sb := sb) (beg := beg) HMV0.out HMx4.out HT4.out hHeld ((HMx4.out.block R (by have := HSWC.out; have := HRS.out; omega) id).trans HR0.out) HB4.out HBEG.out HNE.out (by have := HBWT2.out; have := HSWC.out; omega) (by have := HBWT2.out; have := HSWC.out; have := HRS.out; omega) (by have := HBWT2.out; have := HMV0.out.size; omega)
              have HTL := Lib.hid htl
              have HMZ := Lib.hid (HMx4.out.setRow (g := T2) (.inr HBWT2.out) #[.iface 248 (hashV beg), .iface 248 (hashV beg), .map (some B1)])
              refine hK.out _ _ htl.s (fun hHeld => ?_)
              clear hK K' htl
              try simp only [Act.put, List.getElem_toArray, List.getElem_cons_succ, List.getElem_cons_zero, List.setIfInBounds_toArray, List.set_cons_zero, List.set_cons_succ]
              refine wpAnyH_done (by kernel_rfl) ?_ _
              refine NoPanic.normal ?_
              go_wp2_with fail
              go_meet
              exact ⟨T2, B1, rfl, by have := HBWT2.out; have := HMV2.out.size; omega, by have := HBWB1.out; have := HMV2.out.size; omega, HNE.out, by have := HBWT2.out; have := HSWC.out; omega, by have := HBWB1.out; have := HSWC.out; omega, by have := HBWT2.out; have := HSWC.out; have := HRS.out; omega, by have := HBWB1.out; have := HSWC.out; have := HRS.out; omega, HTL.out, HMV2.out.trans HMZ.out⟩
      case r1x5 =>
        rw [if_pos (by rfl)]
        refine wp_sum 42 rfl _ (.given beg) rfl ⟨HBEG.out, rfl⟩ (fun x1 hm => ?_)
        have HMx1 : Hid (Mv (fun _ => False) w4 x1) := Lib.hid (HMx0.out.trans hm)
        have hs := (hm.block S (lt_of_heap hHeld) id).trans hHeld
        clear hm
        refine hK.out _ _ hs (fun hHeld => ?_)
        clear hK K' hs
        try simp only [Act.put, List.getElem_toArray, List.getElem_cons_succ, List.getElem_cons_zero, List.setIfInBounds_toArray, List.set_cons_zero, List.set_cons_succ]
        refine wpAnyH_ready (rs := [2, 9]) (by kernel_rfl) (by simp) (AllReadyH.cons rfl (fun K' hK => ?r11x2) (AllReadyH.cons rfl (fun K' hK => ?r11x9) AllReadyH.nil))
        case r11x2 =>
          rw [if_pos (by rfl)]
          unfold Oper.wp execOp
          go_simp
          have hs : (x1.alloc (.map #[] 0)).heap[S]? = some (.cells #[.int .i64 sa, .int .i64 sb] 170 (0, 0)) := (Below.heap_alloc _ _ _ (lt_of_heap hHeld)).trans hHeld
          refine hK.out _ (x1.alloc (.map #[] 0)) hs (fun hHeld => ?_)
          clear hK K' hs
          try simp only [Act.put, List.getElem_toArray, List.getElem_cons_succ, List.getElem_cons_zero, List.setIfInBounds_toArray, List.set_cons_zero, List.set_cons_succ]
          have hm : Mv (fun _ => False) x1 (x1.alloc (.map #[] 0)) := (Mv.refl _ _).alloc _
          have hb : MapIs (x1.alloc (.map #[] 0)) x1.heap.size 0 (fun _ _ => zero32) := MapIs.made _
          obtain ⟨B2, hB2⟩ : ∃ b, b = x1.heap.size := ⟨_, rfl⟩
          rw [← hB2] at hb ⊢
          have HBWB2 : Hid (w4.heap.size ≤ B2) := Lib.hid (by rw [hB2]; exact HMx1.out.size)
          generalize x1.alloc (.map #[] 0) = x2 at hHeld hm hb ⊢
          have HMx2 : Hid (Mv (fun _ => False) w4 x2) := Lib.hid (HMx1.out.trans hm)
          have HB2 := Lib.hid hb
          clear hm hb hB2
          refine wpAnyH_ready (rs := [6, 9]) (by kernel_rfl) (by simp) (AllReadyH.cons rfl (fun K' hK => ?r12x6) (AllReadyH.cons rfl (fun K' hK => ?r12x9) AllReadyH.nil))
          case r12x6 =>
            rw [if_pos (by rfl)]
            refine wp_insert (.tmp 40) (.tmp 41) (.tmp 43) (.inl rfl) sa sb beg rfl rfl rfl HB2.out (by unfold maxLen; omega) HSAB.out.1 HSAB.out.2 HBEG.out (fun x3 hmp hg => ?_)
            have HB3 : Hid (MapIs x3 B2 1 (mput (fun _ _ => zero32) sa sb beg)) := Lib.hid hmp
            have hlt := HB2.out.lt
            have hmg : Mv (fun b => b = B2) x2 x3 := (Mv.refl _ _).grown hg (fun k hk => .inl (by cases hk; rfl))
            have HMx3 : Hid (Mv (fun _ => False) w4 x3) := Lib.hid (HMx2.out.trans' hmg (fun i hi h => by have := HBWB2.out; omega))
            have hs := (hmg.block S (lt_of_heap hHeld) (by have := HBWB2.out; have := HSWC.out; omega)).trans hHeld
            clear hmp hg hmg hlt
            refine hK.out _ _ hs (fun hHeld => ?_)
            clear hK K' hs
            try simp only [Act.put, List.getElem_toArray, List.getElem_cons_succ, List.getElem_cons_zero, List.setIfInBounds_toArray, List.set_cons_zero, List.set_cons_succ]
            refine wpAnyH_take (i := 7) (oi := _) (v := .map (some B2)) rfl (by kernel_rfl) (by kernel_rfl) (by kernel_rfl) (fun _ _ _ h => h) (Or.inl ⟨by rfl, fun _ hS => by go_simp⟩) hHeld ?_
            try simp only [Act.put, List.getElem_toArray, List.getElem_cons_succ, List.getElem_cons_zero, List.setIfInBounds_toArray, List.set_cons_zero, List.set_cons_succ]
            refine wpAnyH_take (i := 8) (oi := _) (v := .agg #[.iface 248 (hashV beg), .iface 248 (hashV beg), .map (some B2)]) rfl (by kernel_rfl) (by kernel_rfl) (by kernel_rfl) (fun _ _ _ h => h) (Or.inl ⟨by rfl, fun _ hS => by go_simp⟩) hHeld ?_
            try simp only [Act.put, List.getElem_toArray, List.getElem_cons_succ, List.getElem_cons_zero, List.setIfInBounds_toArray, List.set_cons_zero, List.set_cons_succ]
            refine wpAnyH_ready (rs := [9]) (by kernel_rfl) (by simp) (AllReadyH.cons rfl (fun K' hK => ?r13x9) AllReadyH.nil)
            case r13x9 =>
              rw [if_pos (by rfl)]
              unfold Oper.wp execOp
              go_simp
              have hs : (x3.alloc (.cells #[.nilIface, .nilIface, .map none] 180)).heap[S]? = some (.cells #[.int .i64 sa, .int .i64 sb] 170 (0, 0)) := (Below.heap_alloc _ _ _ (lt_of_heap hHeld)).trans hHeld
              refine hK.out _ (x3.alloc (.cells #[.nilIface, .nilIface, .map none] 180)) hs (fun hHeld => ?_)
              clear hK K' hs
              try simp only [Act.put, List.getElem_toArray, List.getElem_cons_succ, List.getElem_cons_zero, List.setIfInBounds_toArray, List.set_cons_zero, List.set_cons_succ]
              have hm : Mv (fun _ => False) x3 (x3.alloc (.cells #[.nilIface, .nilIface, .map none] 180)) := (Mv.refl _ _).alloc _
              have hb : (x3.alloc (.cells #[.nilIface, .nilIface, .map none] 180)).heap[x3.heap.size]? = some (.cells #[.nilIface, .nilIface, .map none] 180 (0, 0)) := heap_alloc_new _ _
              obtain ⟨T4, hT4⟩ : ∃ b, b = x3.heap.size := ⟨_, rfl⟩
              rw [← hT4] at hb ⊢
              have HBWT4 : Hid (w4.heap.size ≤ T4) := Lib.hid (by rw [hT4]; exact HMx3.out.size)
              have HNE : Hid (T4 ≠ B2) := Lib.hid (by have := HB3.out.lt; omega)
              generalize x3.alloc (.cells #[.nilIface, .nilIface, .map none] 180) = x4 at hHeld hm hb ⊢
              have HMx4 : Hid (Mv (fun _ => False) w4 x4) := Lib.hid (HMx3.out.trans hm)
              have HT4 := Lib.hid hb
              have HB4 : Hid (MapIs x4 B2 1 (mput (fun _ _ => zero32) sa sb beg)) := Lib.hid (HB3.out.mv hm id)
              clear hm hb hT4
              refine wpAnyH_one' (i := 10) (o := _) (by kernel_rfl) rfl (fun K' hK => ?_)
              rw [if_pos (by rfl)]
              refine wp_store_row 180 (.tmp 14) (.tmp 45) rfl T4 #[.iface 248 (hashV beg), .iface 248 (hashV beg), .map (some B2)] rfl rfl 180 _ HT4.out (by kernel_rfl) rfl (three_one _ _ _ _ _) ?_
              have htl := TL.made (T := T4) (S := S) (B := B2) (R := R) (sa := sa) (sb := sb) (beg := beg) HMV0.out HMx4.out HT4.out hHeld ((HMx4.out.block R (by have := HSWC.out; have := HRS.out; omega) id).trans HR0.out) HB4.out HBEG.out HNE.out (by have := HBWT4.out; have := HSWC.out; omega) (by have := HBWT4.out; have := HSWC.out; have := HRS.out; omega) (by have := HBWT4.out; have := HMV0.out.size; omega)
              have HTL := Lib.hid htl
              have HMZ := Lib.hid (HMx4.out.setRow (g := T4) (.inr HBWT4.out) #[.iface 248 (hashV beg), .iface 248 (hashV beg), .map (some B2)])
              refine hK.out _ _ htl.s (fun hHeld => ?_)
              clear hK K' htl
              try simp only [Act.put, List.getElem_toArray, List.getElem_cons_succ, List.getElem_cons_zero, List.setIfInBounds_toArray, List.set_cons_zero, List.set_cons_succ]
              refine wpAnyH_done (by kernel_rfl) ?_ _
              refine NoPanic.normal ?_
              go_wp2_with fail
              go_meet
              exact ⟨T4, B2, rfl, by have := HBWT4.out; have := HMV2.out.size; omega, by have := HBWB2.out; have := HMV2.out.size; omega, HNE.out, by have := HBWT4.out; have := HSWC.out; omega, by have := HBWB2.out; have := HSWC.out; omega, by have := HBWT4.out; have := HSWC.out; have := HRS.out; omega, by have := HBWB2.out; have := HSWC.out; have := HRS.out; omega, HTL.out, HMV2.out.trans HMZ.out⟩
          case r12x9 =>
            rw [if_pos (by rfl)]
            unfold Oper.wp execOp
            go_simp
            have hs : (x2.alloc (.cells #[.nilIface, .nilIface, .map none] 180)).heap[S]? = some (.cells #[.int .i64 sa, .int .i64 sb] 170 (0, 0)) := (Below.heap_alloc _ _ _ (lt_of_heap hHeld)).trans hHeld
            refine hK.out _ (x2.alloc (.cells #[.nilIface, .nilIface, .map none] 180)) hs (fun hHeld => ?_)
            clear hK K' hs
            try simp only [Act.put, List.getElem_toArray, List.getElem_cons_succ, List.getElem_cons_zero, List.setIfInBounds_toArray, List.set_cons_zero, List.set_cons_succ]
            have hm : Mv (fun _ => False) x2 (x2.alloc (.cells #[.nilIface, .nilIface, .map none] 180)) := (Mv.refl _ _).alloc _
            have hb : (x2.alloc (.cells #[.nilIface, .nilIface, .map none] 180)).heap[x2.heap.size]? = some (.cells #[.nilIface, .nilIface, .map none] 180 (0, 0)) := heap_alloc_new _ _
            obtain ⟨T3, hT3⟩ : ∃ b, b = x2.heap.size := ⟨_, rfl⟩
            rw [← hT3] at hb ⊢
            have HBWT3 : Hid (w4.heap.size ≤ T3) := Lib.hid (by rw [hT3]; exact HMx2.out.size)
            have HNE : Hid (T3 ≠ B2) := Lib.hid (by have := HB2.out.lt; omega)
            generalize x2.alloc (.cells #[.nilIface, .nilIface, .map none] 180) = x3 at hHeld hm hb ⊢
            have HMx3 : Hid (Mv (fun _ => False) w4 x3) := Lib.hid (HMx2.out.trans hm)
            have HT3 := Lib.hid hb
            have HB3 : Hid (MapIs x3 B2 0 (fun _ _ => zero32)) := Lib.hid (HB2.out.mv hm id)
            clear hm hb hT3
            refine wpAnyH_ready (rs := [6]) (by kernel_rfl) (by simp) (AllReadyH.cons rfl (fun K' hK => ?r15x6) AllReadyH.nil)
            case r15x6 =>
              rw [if_pos (by rfl)]
              refine wp_insert (.tmp 40) (.tmp 41) (.tmp 43) (.inl rfl) sa sb beg rfl rfl rfl HB3.out (by unfold maxLen; omega) HSAB.out.1 HSAB.out.2 HBEG.out (fun x4 hmp hg => ?_)
              have HB4 : Hid (MapIs x4 B2 1 (mput (fun _ _ => zero32) sa sb beg)) := Lib.hid hmp
              have hlt := HB3.out.lt
              have hmg : Mv (fun b => b = B2) x3 x4 := (Mv.refl _ _).grown hg (fun k hk => .inl (by cases hk; rfl))
              have HMx4 : Hid (Mv (fun _ => False) w4 x4) := Lib.hid (HMx3.out.trans' hmg (fun i hi h => by have := HBWB2.out; omega))
              have HT4 : Hid (x4.heap[T3]? = some (.cells #[.nilIface, .nilIface, .map none] 180 (0, 0))) := Lib.hid ((hmg.block _ (lt_of_heap HT3.out) HNE.out).trans HT3.out)
              have hs := (hmg.block S (lt_of_heap hHeld) (by have := HBWB2.out; have := HSWC.out; omega)).trans hHeld
              clear hmp hg hmg hlt
              refine hK.out _ _ hs (fun hHeld => ?_)
              clear hK K' hs
              try simp only [Act.put, List.getElem_toArray, List.getElem_cons_succ, List.getElem_cons_zero, List.setIfInBounds_toArray, List.set_cons_zero, List.set_cons_succ]
              refine wpAnyH_take (i := 7) (oi := _) (v := .map (some B2)) rfl (by kernel_rfl) (by kernel_rfl) (by kernel_rfl) (fun _ _ _ h => h) (Or.inl ⟨by rfl, fun _ hS => by go_simp⟩) hHeld ?_
              try simp only [Act.put, List.getElem_toArray, List.getElem_cons_succ, List.getElem_cons_zero, List.setIfInBounds_toArray, List.set_cons_zero, List.set_cons_succ]
              refine wpAnyH_take (i := 8) (oi := _) (v := .agg #[.iface 248 (hashV beg), .iface 248 (hashV beg), .map (some B2)]) rfl (by kernel_rfl) (by kernel_rfl) (by kernel_rfl) (fun _ _ _ h => h) (Or.inl ⟨by rfl, fun _ hS => by go_simp⟩) hHeld ?_
              try simp only [Act.put, List.getElem_toArray, List.getElem_cons_succ, List.getElem_cons_zero, List.setIfInBounds_toArray, List.set_cons_zero, List.set_cons_succ]
              refine wpAnyH_one' (i := 10) (o := _) (by kernel_rfl) rfl (fun K' hK => ?_)
              rw [if_pos (by rfl)]
              refine wp_store_row 180 (.tmp 14) (.tmp 45) rfl T3 #[.iface 248 (hashV beg), .iface 248 (hashV beg), .map (some B2)] rfl rfl 180 _ HT4.out (by kernel_rfl) rfl (three_one _ _ _ _ _) ?_
              have htl := TL.made (T := T3) (S := S) (B := B2) (R := R) (sa := sa) (sb := sb) (beg := beg) HMV0.out HMx4.out HT4.out hHeld ((HMx4.out.block R (by have := HSWC.out; have := HRS.out; omega) id).trans HR0.out) HB4.out HBEG.out HNE.out (by have := HBWT3.out; have := HSWC.out; omega) (by have := HBWT3.out; have := HSWC.out; have := HRS.out; omega) (by have := HBWT3.out; have := HMV0.out.size; omega)
              have HTL := Lib.hid htl
              have HMZ := Lib.hid (HMx4.out.setRow (g := T3) (.inr HBWT3.out) #[.iface 248 (hashV beg), .iface 248 (hashV beg), .map (some B2)])
              refine hK.out _ _ htl.s (fun hHeld => ?_)
              clear hK K' htl
              try simp only [Act.put, List.getElem_toArray, List.getElem_cons_succ, List.getElem_cons_zero, List.setIfInBounds_toArray, List.set_cons_zero, List.set_cons_succ]
              refine wpAnyH_done (by kernel_rfl) ?_ _
              refine NoPanic.normal ?_
              go_wp2_with fail
              go_meet
              exact ⟨T3, B2, rfl, by have := HBWT3.out; have := HMV2.out.size; omega, by have := HBWB2.out; have := HMV2.out.size; omega, HNE.out, by have := HBWT3.out; have := HSWC.out; omega, by have := HBWB2.out; have := HSWC.out; omega, by have := HBWT3.out; have := HSWC.out; have := HRS.out; omega, by have := HBWB2.out; have := HSWC.out; have := HRS.out; omega, HTL.out, HMV2.out.trans HMZ.out⟩
        case r11x9 =>
          rw [if_pos (by rfl)]
          unfold Oper.wp execOp
          go_simp
          have hs : (x1.alloc (.cells #[.nilIface, .nilIface, .map none] 180)).heap[S]? = some (.cells #[.int .i64 sa, .int .i64 sb] 170 (0, 0)) := (Below.heap_alloc _ _ _ (lt_of_heap hHeld)).trans hHeld
          refine hK.out _ (x1.alloc (.cells #[.nilIface, .nilIface, .map none] 180)) hs (fun hHeld => ?_)
          clear hK K' hs
          try simp only [Act.put, List.getElem_toArray, List.getElem_cons_succ, List.getElem_cons_zero, List.setIfInBounds_toArray, List.set_cons_zero, List.set_cons_succ]
          have hm : Mv (fun _ => False) x1 (x1.alloc (.cells #[.nilIface, .nilIface, .map none] 180)) := (Mv.refl _ _).alloc _
          have hb : (x1.alloc (.cells #[.nilIface, .nilIface, .map none] 180)).heap[x1.heap.size]? = some (.cells #[.nilIface, .nilIface, .map none] 180 (0, 0)) := heap_alloc_new _ _
          obtain ⟨T2, hT2⟩ : ∃ b, b = x1.heap.size := ⟨_, rfl⟩
          rw [← hT2] at hb ⊢
          have HBWT2 : Hid (w4.heap.size ≤ T2) := Lib.hid (by rw [hT2]; exact HMx1.out.size)
          generalize x1.alloc (.cells #[.nilIface, .nilIface, .map none] 180) = x2 at hHeld hm hb ⊢
          have HMx2 : Hid (Mv (fun _ => False) w4 x2) := Lib.hid (HMx1.out.trans hm)
          have HT2 := Lib.hid hb
          clear hm hb hT2
          refine wpAnyH_ready (rs := [2]) (by kernel_rfl) (by simp) (AllReadyH.cons rfl (fun K' hK => ?r17x2) AllReadyH.nil)
          case r17x2 =>
            rw [if_pos (by rfl)]
            unfold Oper.wp execOp
            go_simp
            have hs : (x2.alloc (.map #[] 0)).heap[S]? = some (.cells #[.int .i64 sa, .int .i64 sb] 170 (0, 0)) := (Below.heap_alloc _ _ _ (lt_of_heap hHeld)).trans hHeld
            refine hK.out _ (x2.alloc (.map #[] 0)) hs (fun hHeld => ?_)
            clear hK K' hs
            try simp only [Act.put, List.getElem_toArray, List.getElem_cons_succ, List.getElem_cons_zero, List.setIfInBounds_toArray, List.set_cons_zero, List.set_cons_succ]
            have hm : Mv (fun _ => False) x2 (x2.alloc (.map #[] 0)) := (Mv.refl _ _).alloc _
            have hb : MapIs (x2.alloc (.map #[] 0)) x2.heap.size 0 (fun _ _ => zero32) := MapIs.made _
            obtain ⟨B3, hB3⟩ : ∃ b, b = x2.heap.size := ⟨_, rfl⟩
            rw [← hB3] at hb ⊢
            have HBWB3 : Hid (w4.heap.size ≤ B3) := Lib.hid (by rw [hB3]; exact HMx2.out.size)
            have HNE : Hid (T2 ≠ B3) := Lib.hid (by have := lt_of_heap HT2.out; omega)
            generalize x2.alloc (.map #[] 0) = x3 at hHeld hm hb ⊢
            have HMx3 : Hid (Mv (fun _ => False) w4 x3) := Lib.hid (HMx2.out.trans hm)
            have HB3 := Lib.hid hb
            have HT3 : Hid (x3.heap[T2]? = some (.cells #[.nilIface, .nilIface, .map none] 180 (0, 0))) := Lib.hid ((hm.block _ (lt_of_heap HT2.out) id).trans HT2.out)
            clear hm hb hB3
            refine wpAnyH_ready (rs := [6]) (by kernel_rfl) (by simp) (AllReadyH.cons rfl (fun K' hK => ?r18x6) AllReadyH.nil)
            case r18x6 =>
              rw [if_pos (by rfl)]
              refine wp_insert (.tmp 40) (.tmp 41) (.tmp 43) (.inl rfl) sa sb beg rfl rfl rfl HB3.out (by unfold maxLen; omega) HSAB.out.1 HSAB.out.2 HBEG.out (fun x4 hmp hg => ?_)
              have HB4 : Hid (MapIs x4 B3 1 (mput (fun _ _ => zero32) sa sb beg)) := Lib.hid hmp
              have hlt := HB3.out.lt
              have hmg : Mv (fun b => b = B3) x3 x4 := (Mv.refl _ _).grown hg (fun k hk => .inl (by cases hk; rfl))
              have HMx4 : Hid (Mv (fun _ => False) w4 x4) := Lib.hid (HMx3.out.trans' hmg (fun i hi h => by have := HBWB3.out; omega))
              have HT4 : Hid (x4.heap[T2]? = some (.cells #[.nilIface, .nilIface, .map none] 180 (0, 0))) := Lib.hid ((hmg.block _ (lt_of_heap HT3.out) HNE.out).trans HT3.out)
              have hs := (hmg.block S (lt_of_heap hHeld) (by have := HBWB3.out; have := HSWC.out; omega)).trans hHeld
              clear hmp hg hmg hlt
              refine hK.out _ _ hs (fun hHeld => ?_)
              clear hK K' hs
              try simp only [Act.put, List.getElem_toArray, List.getElem_cons_succ, List.getElem_cons_zero, List.setIfInBounds_toArray, List.set_cons_zero, List.set_cons_succ]
              refine wpAnyH_take (i := 7) (oi := _) (v := .map (some B3)) rfl (by kernel_rfl) (by kernel_rfl) (by kernel_rfl) (fun _ _ _ h => h) (Or.inl ⟨by rfl, fun _ hS => by go_simp⟩) hHeld ?_
              try simp only [Act.put, List.getElem_toArray, List.getElem_cons_succ, List.getElem_cons_zero, List.setIfInBounds_toArray, List.set_cons_zero, List.set_cons_succ]
              refine wpAnyH_take (i := 8) (oi := _) (v := .agg #[.iface 248 (hashV beg), .iface 248 (hashV beg), .map (some B3)]) rfl (by kernel_rfl) (by kernel_rfl) (by kernel_rfl) (fun _ _ _ h => h) (Or.inl ⟨by rfl, fun _ hS => by go_simp⟩) hHeld ?_
              try simp only [Act.put, List.getElem_toArray, List.getElem_cons_succ, List.getElem_cons_zero, List.setIfInBounds_toArray, List.set_cons_zero, List.set_cons_succ]
              refine wpAnyH_one' (i := 10) (o := _) (by kernel_rfl) rfl (fun K' hK => ?_)
              rw [if_pos (by rfl)]
              refine wp_store_row 180 (.tmp 14) (.tmp 45) rfl T2 #[.iface 248 (hashV beg), .iface 248 (hashV beg), .map (some B3)] rfl rfl 180 _ HT4.out (by kernel_rfl) rfl (three_one _ _ _ _ _) ?_
              have htl := TL.made (T := T2) (S := S) (B := B3) (R := R) (sa := sa) (sb := sb) (beg := beg) HMV0.out HMx4.out HT4.out hHeld ((HMx4.out.block R (by have := HSWC.out; have := HRS.out; omega) id).trans HR0.out) HB4.out HBEG.out HNE.out (by have := HBWT2.out; have := HSWC.out; omega) (by have := HBWT2.out; have := HSWC.out; have := HRS.out; omega) (by have := HBWT2.out; have := HMV0.out.size; omega)
              have HTL := Lib.hid htl
              have HMZ := Lib.hid (HMx4.out.setRow (g := T2) (.inr HBWT2.out) #[.iface 248 (hashV beg), .iface 248 (hashV beg), .map (some B3)])
              refine hK.out _ _ htl.s (fun hHeld => ?_)
              clear hK K' htl
              try simp only [Act.put, List.getElem_toArray, List.getElem_cons_succ, List.getElem_cons_zero, List.setIfInBounds_toArray, List.set_cons_zero, List.set_cons_succ]
              refine wpAnyH_done (by kernel_rfl) ?_ _
              refine NoPanic.normal ?_
              go_wp2_with fail
              go_meet
              exact ⟨T2, B3, rfl, by have := HBWT2.out; have := HMV2.out.size; omega, by have := HBWB3.out; have := HMV2.out.size; omega, HNE.out, by have := HBWT2.out; have := HSWC.out; omega, by have := HBWB3.out; have := HSWC.out; omega, by have := HBWT2.out; have := HSWC.out; have := HRS.out; omega, by have := HBWB3.out; have := HSWC.out; have := HRS.out; omega, HTL.out, HMV2.out.trans HMZ.out⟩
      case r1x9 =>
        rw [if_pos (by rfl)]
        unfold Oper.wp execOp
        go_simp
        have hs : (w4.drew.alloc (.cells #[.nilIface, .nilIface, .map none] 180)).heap[S]? = some (.cells #[.int .i64 sa, .int .i64 sb] 170 (0, 0)) := (Below.heap_alloc _ _ _ (lt_of_heap hHeld)).trans hHeld
        refine hK.out _ (w4.drew.alloc (.cells #[.nilIface, .nilIface, .map none] 180)) hs (fun hHeld => ?_)
        clear hK K' hs
        try simp only [Act.put, List.getElem_toArray, List.getElem_cons_succ, List.getElem_cons_zero, List.setIfInBounds_toArray, List.set_cons_zero, List.set_cons_succ]
        have hm : Mv (fun _ => False) w4.drew (w4.drew.alloc (.cells #[.nilIface, .nilIface, .map none] 180)) := (Mv.refl _ _).alloc _
        have hb : (w4.drew.alloc (.cells #[.nilIface, .nilIface, .map none] 180)).heap[w4.heap.size]? = some (.cells #[.nilIface, .nilIface, .map none] 180 (0, 0)) := heap_alloc_new _ _
        obtain ⟨T1, hT1⟩ : ∃ b, b = w4.heap.size := ⟨_, rfl⟩
        rw [← hT1] at hb ⊢
        have HBWT1 : Hid (w4.heap.size ≤ T1) := Lib.hid (by rw [hT1]; exact HMx0.out.size)
        generalize w4.drew.alloc (.cells #[.nilIface, .nilIface, .map none] 180) = x1 at hHeld hm hb ⊢
        have HMx1 : Hid (Mv (fun _ => False) w4 x1) := Lib.hid (HMx0.out.trans hm)
        have HT1 := Lib.hid hb
        clear hm hb hT1
        refine wpAnyH_ready (rs := [2, 5]) (by kernel_rfl) (by simp) (AllReadyH.cons rfl (fun K' hK => ?r20x2) (AllReadyH.cons rfl (fun K' hK => ?r20x5) AllReadyH.nil))
        case r20x2 =>
          rw [if_pos (by rfl)]
          unfold Oper.wp execOp
          go_simp
          have hs : (x1.alloc (.map #[] 0)).heap[S]? = some (.cells #[.int .i64 sa, .int .i64 sb] 170 (0, 0)) := (Below.heap_alloc _ _ _ (lt_of_heap hHeld)).trans hHeld
          refine hK.out _ (x1.alloc (.map #[] 0)) hs (fun hHeld => ?_)
          clear hK K' hs
          try simp only [Act.put, List.getElem_toArray, List.getElem_cons_succ, List.getElem_cons_zero, List.setIfInBounds_toArray, List.set_cons_zero, List.set_cons_succ]
          have hm : Mv (fun _ => False) x1 (x1.alloc (.map #[] 0)) := (Mv.refl _ _).alloc _
          have hb : MapIs (x1.alloc (.map #[] 0)) x1.heap.size 0 (fun _ _ => zero32) := MapIs.made _
          obtain ⟨B2, hB2⟩ : ∃ b, b = x1.heap.size := ⟨_, rfl⟩
          rw [← hB2] at hb ⊢
          have HBWB2 : Hid (w4.heap.size ≤ B2) := Lib.hid (by rw [hB2]; exact HMx1.out.size)
          have HNE : Hid (T1 ≠ B2) := Lib.hid (by have := lt_of_heap HT1.out; omega)
          generalize x1.alloc (.map #[] 0) = x2 at hHeld hm hb ⊢
          have HMx2 : Hid (Mv (fun _ => False) w4 x2) := Lib.hid (HMx1.out.trans hm)
          have HB2 := Lib.hid hb
          have HT2 : Hid (x2.heap[T1]? = some (.cells #[.nilIface, .nilIface, .map none] 180 (0, 0))) := Lib.hid ((hm.block _ (lt_of_heap HT1.out) id).trans HT1.out)
          clear hm hb hB2
          refine wpAnyH_ready (rs := [5]) (by kernel_rfl) (by simp) (AllReadyH.cons rfl (fun K' hK => ?r21x5) AllReadyH.nil)
          case r21x5 =>
            rw [if_pos (by rfl)]
            refine wp_sum 42 rfl _ (.given beg) rfl ⟨HBEG.out, rfl⟩ (fun x3 hm => ?_)
            have HMx3 : Hid (Mv (fun _ => False) w4 x3) := Lib.hid (HMx2.out.trans hm)
            have HB3 : Hid (MapIs x3 B2 0 (fun _ _ => zero32)) := Lib.hid (HB2.out.mv hm id)
            have HT3 : Hid (x3.heap[T1]? = some (.cells #[.nilIface, .nilIface, .map none] 180 (0, 0))) := Lib.hid ((hm.block _ (lt_of_heap HT2.out) id).trans HT2.out)
            have hs := (hm.block S (lt_of_heap hHeld) id).trans hHeld
            clear hm
            refine hK.out _ _ hs (fun hHeld => ?_)
            clear hK K' hs
            try simp only [Act.put, List.getElem_toArray, List.getElem_cons_succ, List.getElem_cons_zero, List.setIfInBounds_toArray, List.set_cons_zero, List.set_cons_succ]
            refine wpAnyH_ready (rs := [6]) (by kernel_rfl) (by simp) (AllReadyH.cons rfl (fun K' hK => ?r22x6) AllReadyH.nil)
            case r22x6 =>
              rw [if_pos (by rfl)]
              refine wp_insert (.tmp 40) (.tmp 41) (.tmp 43) (.inl rfl) sa sb beg rfl rfl rfl HB3.out (by unfold maxLen; omega) HSAB.out.1 HSAB.out.2 HBEG.out (fun x4 hmp hg => ?_)
              have HB4 : Hid (MapIs x4 B2 1 (mput (fun _ _ => zero32) sa sb beg)) := Lib.hid hmp
              have hlt := HB3.out.lt
              have hmg : Mv (fun b => b = B2) x3 x4 := (Mv.refl _ _).grown hg (fun k hk => .inl (by cases hk; rfl))
              have HMx4 : Hid (Mv (fun _ => False) w4 x4) := Lib.hid (HMx3.out.trans' hmg (fun i hi h => by have := HBWB2.out; omega))
              have HT4 : Hid (x4.heap[T1]? = some (.cells #[.nilIface, .nilIface, .map none] 180 (0, 0))) := Lib.hid ((hmg.block _ (lt_of_heap HT3.out) HNE.out).trans HT3.out)
              have hs := (hmg.block S (lt_of_heap hHeld) (by have := HBWB2.out; have := HSWC.out; omega)).trans hHeld
              clear hmp hg hmg hlt
              refine hK.out _ _ hs (fun hHeld => ?_)
              clear hK K' hs
              try simp only [Act.put, List.getElem_toArray, List.getElem_cons_succ, List.getElem_cons_zero, List.setIfInBounds_toArray, List.set_cons_zero, List.set_cons_succ]
              refine wpAnyH_take (i := 7) (oi := _) (v := .map (some B2)) rfl (by kernel_rfl) (by kernel_rfl) (by kernel_rfl) (fun _ _ _ h => h) (Or.inl ⟨by rfl, fun _ hS => by go_simp⟩) hHeld ?_
              try simp only [Act.put, List.getElem_toArray, List.getElem_cons_succ, List.getElem_cons_zero, List.setIfInBounds_toArray, List.set_cons_zero, List.set_cons_succ]
              refine wpAnyH_take (i := 8) (oi := _) (v := .agg #[.iface 248 (hashV beg), .iface 248 (hashV beg), .map (some B2)]) rfl (by kernel_rfl) (by kernel_rfl) (by kernel_rfl) (fun _ _ _ h => h) (Or.inl ⟨by rfl, fun _ hS => by go_simp⟩) hHeld ?_
              try simp only [Act.put, List.getElem_toArray, List.getElem_cons_succ, List.getElem_cons_zero, List.setIfInBounds_toArray, List.set_cons_zero, List.set_cons_succ]
              refine wpAnyH_one' (i := 10) (o := _) (by kernel_rfl) rfl (fun K' hK => ?_)
              rw [if_pos (by rfl)]
              refine wp_store_row 180 (.tmp 14) (.tmp 45) rfl T1 #[.iface 248 (hashV beg), .iface 248 (hashV beg), .map (some B2)] rfl rfl 180 _ HT4.out (by kernel_rfl) rfl (three_one _ _ _ _ _) ?_
              have htl := TL.made (T := T1) (S := S) (B := B2) (R := R) (sa := sa) (sb := sb) (beg := beg) HMV0.out HMx4.out HT4.out hHeld ((HMx4.out.block R (by have := HSWC.out; have := HRS.out; omega) id).trans HR0.out) HB4.out HBEG.out HNE.out (by have := HBWT1.out; have := HSWC.out; omega) (by have := HBWT1.out; have := HSWC.out; have := HRS.out; omega) (by have := HBWT1.out; have := HMV0.out.size; omega)
              have HTL := Lib.hid htl
              have HMZ := Lib.hid (HMx4.out.setRow (g := T1) (.inr HBWT1.out) #[.iface 248 (hashV beg), .iface 248 (hashV beg), .map (some B2)])
              refine hK.out _ _ htl.s (fun hHeld => ?_)
              clear hK K' htl
              try simp only [Act.put, List.getElem_toArray, List.getElem_cons_succ, List.getElem_cons_zero, List.setIfInBounds_toArray, List.set_cons_zero, List.set_cons_succ]
              refine wpAnyH_done (by kernel_rfl) ?_ _
              refine NoPanic.normal ?_
              go_wp2_with fail
              go_meet
              exact ⟨T1, B2, rfl, by have := HBWT1.out; have := HMV2.out.size; omega, by have := HBWB2.out; have := HMV2.out.size; omega, HNE.out, by have := HBWT1.out; have := HSWC.out; omega, by have := HBWB2.out; have := HSWC.out; omega, by have := HBWT1.out; have := HSWC.out; have := HRS.out; omega, by have := HBWB2.out; have := HSWC.out; have := HRS.out; omega, HTL.out, HMV2.out.trans HMZ.out⟩
        case r20x5 =>
          rw [if_pos (by rfl)]
          refine wp_sum 42 rfl _ (.given beg) rfl ⟨HBEG.out, rfl⟩ (fun x2 hm => ?_)
          have HMx2 : Hid (Mv (fun _ => False) w4 x2) := Lib.hid (HMx1.out.trans hm)
          have HT2 : Hid (x2.heap[T1]? = some (.cells #[.nilIface, .nilIface, .map none] 180 (0, 0))) := Lib.hid ((hm.block _ (lt_of_heap HT1.out) id).trans HT1.out)
          have hs := (hm.block S (lt_of_heap hHeld) id).trans hHeld
          clear hm
          refine hK.out _ _ hs (fun hHeld => ?_)
          clear hK K' hs
          try simp only [Act.put, List.getElem_toArray, List.getElem_cons_succ, List.getElem_cons_zero, List.setIfInBounds_toArray, List.set_cons_zero, List.set_cons_succ]
          refine wpAnyH_ready (rs := [2]) (by kernel_rfl) (by simp) (AllReadyH.cons rfl (fun K' hK => ?r24x2) AllReadyH.nil)
          case r24x2 =>
            rw [if_pos (by rfl)]
            unfold Oper.wp execOp
            go_simp
            have hs : (x2.alloc (.map #[] 0)).heap[S]? = some (.cells #[.int .i64 sa, .int .i64 sb] 170 (0, 0)) := (Below.heap_alloc _ _ _ (lt_of_heap hHeld)).trans hHeld
            refine hK.out _ (x2.alloc (.map #[] 0)) hs (fun hHeld => ?_)
            clear hK K' hs
            try simp only [Act.put, List.getElem_toArray, List.getElem_cons_succ, List.getElem_cons_zero, List.setIfInBounds_toArray, List.set_cons_zero, List.set_cons_succ]
            have hm : Mv (fun _ => False) x2 (x2.alloc (.map #[] 0)) := (Mv.refl _ _).alloc _
            have hb : MapIs (x2.alloc (.map #[] 0)) x2.heap.size 0 (fun _ _ => zero32) := MapIs.made _
            obtain ⟨B3, hB3⟩ : ∃ b, b = x2.heap.size := ⟨_, rfl⟩
            rw [← hB3] at hb ⊢
            have HBWB3 : Hid (w4.heap.size ≤ B3) := Lib.hid (by rw [hB3]; exact HMx2.out.size)
            have HNE : Hid (T1 ≠ B3) := Lib.hid (by have := lt_of_heap HT2.out; omega)
            generalize x2.alloc (.map #[] 0) = x3 at hHeld hm hb ⊢
            have HMx3 : Hid (Mv (fun _ => False) w4 x3) := Lib.hid (HMx2.out.trans hm)
            have HB3 := Lib.hid hb
            have HT3 : Hid (x3.heap[T1]? = some (.cells #[.nilIface, .nilIface, .map none] 180 (0, 0))) := Lib.hid ((hm.block _ (lt_of_heap HT2.out) id).trans HT2.out)
            clear hm hb hB3
            refine wpAnyH_ready (rs := [6]) (by kernel_rfl) (by simp) (AllReadyH.cons rfl (fun K' hK => ?r25x6) AllReadyH.nil)
            case r25x6 =>
              rw [if_pos (by rfl)]
              refine wp_insert (.tmp 40) (.tmp 41) (.tmp 43) (.inl rfl) sa sb beg rfl rfl rfl HB3.out (by unfold maxLen; omega) HSAB.out.1 HSAB.out.2 HBEG.out (fun x4 hmp hg => ?_)
              have HB4 : Hid (MapIs x4 B3 1 (mput (fun _ _ => zero32) sa sb beg)) := Lib.hid hmp
              have hlt := HB3.out.lt
              have hmg : Mv (fun b => b = B3) x3 x4 := (Mv.refl _ _).grown hg (fun k hk => .inl (by cases hk; rfl))
              have HMx4 : Hid (Mv (fun _ => False) w4 x4) := Lib.hid (HMx3.out.trans' hmg (fun i hi h => by have := HBWB3.out; omega))
              have HT4 : Hid (x4.heap[T1]? = some (.cells #[.nilIface, .nilIface, .map none] 180 (0, 0))) := Lib.hid ((hmg.block _ (lt_of_heap HT3.out) HNE.out).trans HT3.out)
              have hs := (hmg.block S (lt_of_heap hHeld) (by have := HBWB3.out; have := HSWC.out; omega)).trans hHeld
              clear hmp hg hmg hlt
              refine hK.out _ _ hs (fun hHeld => ?_)
              clear hK K' hs
              try simp only [Act.put, List.getElem_toArray, List.getElem_cons_succ, List.getElem_cons_zero, List.setIfInBounds_toArray, List.set_cons_zero, List.set_cons_succ]
              refine wpAnyH_take (i := 7) (oi := _) (v := .map (some B3)) rfl (by kernel_rfl) (by kernel_rfl) (by kernel_rfl) (fun _ _ _ h => h) (Or.inl ⟨by rfl, fun _ hS => by go_simp⟩) hHeld ?_
              try simp only [Act.put, List.getElem_toArray, List.getElem_cons_succ, List.getElem_cons_zero, List.setIfInBounds_toArray, List.set_cons_zero, List.set_cons_succ]
              refine wpAnyH_take (i := 8) (oi := _) (v := .agg #[.iface 248 (hashV beg), .iface 248 (hashV beg), .map (some B3)]) rfl (by kernel_rfl) (by kernel_rfl) (by kernel_rfl) (fun _ _ _ h => h) (Or.inl ⟨by rfl, fun _ hS => by go_simp⟩) hHeld ?_
              try simp only [Act.put, List.getElem_toArray, List.getElem_cons_succ, List.getElem_cons_zero, List.setIfInBounds_toArray, List.set_cons_zero, List.set_cons_succ]
              refine wpAnyH_one' (i := 10) (o := _) (by kernel_rfl) rfl (fun K' hK => ?_)
              rw [if_pos (by rfl)]
              refine wp_store_row 180 (.tmp 14) (.tmp 45) rfl T1 #[.iface 248 (hashV beg), .iface 248 (hashV beg), .map (some B3)] rfl rfl 180 _ HT4.out (by kernel_rfl) rfl (three_one _ _ _ _ _) ?_
              have htl := TL.made (T := T1) (S := S) (B := B3) (R := R) (sa := sa) (sb := sb) (beg := beg) HMV0.out HMx4.out HT4.out hHeld ((HMx4.out.block R (by have := HSWC.out; have := HRS.out; omega) id).trans HR0.out) HB4.out HBEG.out HNE.out (by have := HBWT1.out; have := HSWC.out; omega) (by have := HBWT1.out; have := HSWC.out; have := HRS.out; omega) (by have := HBWT1.out; have := HMV0.out.size; omega)
              have HTL := Lib.hid htl
              have HMZ := Lib.hid (HMx4.out.setRow (g := T1) (.inr HBWT1.out) #[.iface 248 (hashV beg), .iface 248 (hashV beg), .map (some B3)])
              refine hK.out _ _ htl.s (fun hHeld => ?_)
              clear hK K' htl
              try simp only [Act.put, List.getElem_toArray, List.getElem_cons_succ, List.getElem_cons_zero, List.setIfInBounds_toArray, List.set_cons_zero, List.set_cons_succ]
              refine wpAnyH_done (by kernel_rfl) ?_ _
              refine NoPanic.normal ?_
              go_wp2_with fail
              go_meet
              exact ⟨T1, B3, rfl, by have := HBWT1.out; have := HMV2.out.size; omega, by have := HBWB3.out; have := HMV2.out.size; omega, HNE.out, by have := HBWT1.out; have := HSWC.out; omega, by have := HBWB3.out; have := HSWC.out; omega, by have := HBWT1.out; have := HSWC.out; have := HRS.out; omega, by have := HBWB3.out; have := HSWC.out; have := HRS.out; omega, HTL.out, HMV2.out.trans HMZ.out⟩

    case rest =>
      obtain ⟨T, B, rfl, hT, hB, hTB, hTS, hBS, hTR, hBR, htl, hm4⟩ := hcut
      have HNE : Hid (w2.heap.size ≤ T ∧ w2.heap.size ≤ B ∧ T ≠ B ∧ T ≠ S ∧ B ≠ S ∧ T ≠ R ∧ B ≠ R) := Lib.hid ⟨hT, hB, hTB, hTS, hBS, hTR, hBR⟩
      obtain ⟨st0, hst0⟩ : ∃ x, x = tStart n m old p := ⟨_, rfl⟩
      obtain ⟨way, hway⟩ : ∃ x, x = wayUp n m := ⟨_, rfl⟩
      obtain ⟨q, hq⟩ : ∃ x, x = tRest n m p := ⟨_, rfl⟩
      obtain ⟨L, hL⟩ : ∃ x, x = way.length := ⟨_, rfl⟩
      have hql : q.length = L := by
        rw [hL, hq, hway]
        have h1 := HLEN.out
        unfold tRest
        by_cases hz : 0 < (treeSeed n m).1
        · rw [if_pos hz]; rw [wayTree_pos n m hz] at h1; rw [List.length_drop, h1]; simp
        · rw [if_neg hz]; rw [wayTree_zero n m (by omega)] at h1; exact h1
      have hsteq : (⟨.given beg, .given beg, sa, sb⟩ : TSt) = st0 := by rw [hst0]; unfold tStart; rw [← HBG.out, ← HSA.out, ← HSB.out]
      have hmapeq : mput (fun _ _ => zero32) sa sb beg = tMap k st0 way q 0 := by rw [← hsteq]; rfl
      rw [hsteq, hmapeq] at htl
      have hend : tEnd k n m old p = tRun k st0 way q L := by unfold tEnd; rw [hL, hst0, hway, hq]
      have hhsh : tHashes k n m old p = tMap k st0 way q L := by unfold tHashes; rw [hL, hst0, hway, hq]
      have hlen0 : st0.fresh.sum.length = 32 ∧ st0.old.sum.length = 32 := by rw [← hsteq]; exact ⟨HBEG.out, HBEG.out⟩
      have hrl := tRun_len k st0 way q hlen0.1 hlen0.2
      have hrb := tRun_bound k st0 way q 281474976710656 (by rw [← hsteq]; exact HSAB.out.1) (by rw [← hsteq]; exact HSAB.out.2) (by rw [hway]; exact HWB.out)
      have HRL := Lib.hid hrl
      have HRB := Lib.hid hrb
      have HEND := Lib.hid hend
      have HHSH := Lib.hid hhsh
      have HL := Lib.hid hL
      have hL48 : L ≤ 48 := by rw [hL, hway]; exact HW48.out
      have HQL := Lib.hid hql
      have hps := HPS.out
      have hws := HWS.out
      rw [← hq] at hps
      rw [← hway] at hws
      obtain ⟨pa', pc', rfl⟩ := hps.shape
      obtain ⟨wa', wc', rfl, hwc'⟩ : ∃ a c, u11 = .slice a way.length c ∧ way.length ≤ c := by
        obtain ⟨a, c, h1, h2, _⟩ := hws
        exact ⟨a, c, h1, h2⟩
      have HPQ := Lib.hid hps
      have HWQ := Lib.hid hws
      have HTL := Lib.hid htl
      have HM4 := Lib.hid hm4
      rw [hql, ← hL]
      clear hT hB hTB hTS hBS hTR hBR htl hm4 hst0 hsteq hmapeq hend hhsh hlen0 hrl hrb hL hql hps hws hq hway HPS HWS HS0 HR0 HMx0
      go_wp2_with fail
      go_loopw [48] (fun i wr => ∃ (j : Nat), j ≤ L ∧ i = .int .i64 j ∧ TL w wr T S B R (j + 1) (tRun k st0 way q j) (tMap k st0 way q j) ∧ Mv (fun _ => False) w2 wr) (fun i _ => L - (intOf i).toNat)
      case atStart => exact ⟨0, by omega, rfl, HTL.out, HM4.out⟩
      case round =>
        obtain ⟨j, hj, rfl, htl, hmv⟩ := hrel
        have HTLJ := Lib.hid htl
        have HMV := Lib.hid hmv
        by_cases hjn : j < L
        · obtain ⟨gw, ow, hgw, c0, c1, c2⟩ := (by obtain ⟨a, c, he, _, hx⟩ := HWQ.out.mv hmv; simp only [Value.slice.injEq] at he; obtain ⟨g, off, h1, h2⟩ := hx j (by rw [← HL.out]; exact hjn); exact ⟨g, off, by rw [he.1, h1], h2⟩ : ∃ g off, wa' = some ⟨g, off, none⟩ ∧ wr.cell? ⟨g, off + j * 3, none⟩ = some (.int .i64 (way.getD j ⟨0, 0, false⟩).a) ∧ wr.cell? ⟨g, off + j * 3 + 1, none⟩ = some (.int .i64 (way.getD j ⟨0, 0, false⟩).b) ∧ wr.cell? ⟨g, off + j * 3 + 2, none⟩ = some (.bool (way.getD j ⟨0, 0, false⟩).right))
          obtain ⟨gp, op, hgp, hpc, hh32, hpcells⟩ := HsIn.at (HPQ.out.mv hmv (fun _ _ h => h)) j (by rw [HQL.out]; exact hjn)
          subst hgw hgp
          obtain ⟨s, hs⟩ : ∃ s, s = way.getD j ⟨0, 0, false⟩ := ⟨_, rfl⟩
          rw [← hs] at c0 c1 c2
          obtain ⟨hb0, hh⟩ : ∃ hb0, hb0 = q.getD j [] := ⟨_, rfl⟩
          rw [← hh] at hh32 hpcells
          have hstep : tRun k st0 way q (j + 1) = tStep k (tRun k st0 way q j) s hb0 := by rw [hs, hh]; rfl
          have hmstep : tMap k st0 way q (j + 1) = mput (tMap k st0 way q j) (tRun k st0 way q (j + 1)).sa (tRun k st0 way q (j + 1)).sb (tRun k st0 way q (j + 1)).fresh.sum := rfl
          have HSTEP := Lib.hid hstep
          have HMSTEP := Lib.hid hmstep
          obtain ⟨st, hst⟩ : ∃ x, x = tRun k st0 way q j := ⟨_, rfl⟩
          obtain ⟨f, hf⟩ : ∃ x, x = tMap k st0 way q j := ⟨_, rfl⟩
          rw [← hst] at HSTEP
          rw [← hf] at HMSTEP
          rw [← hst, ← hf] at HTLJ
          have HS := Lib.hid hs
          obtain ⟨hc, hhc⟩ : ∃ hc, hc = hb0.map byteV := ⟨_, rfl⟩
          rw [← hhc] at hpcells
          have hhl : hc.length = 32 := by rw [hhc, List.length_map]; exact hh32
          have HHC := Lib.hid hhc
          have HH32 := Lib.hid hh32
          have HPC := Lib.hid hpcells
          have HIL : Hid ((Tryz.prog.info? 34).map (·.size) = some hc.length) := Lib.hid (by rw [hhl]; exact info34)
          have HST := Lib.hid hst
          have HFF := Lib.hid hf
          have hpj : (j : Int) < L := by omega
          have hLpc : L ≤ pc' := by rw [← HQL.out]; exact hpc
          have HHL := Lib.hid hhl
          clear htl hmv hs hh hstep hmstep hst hf hhc hh32 hpcells hhl hpc
          go_upto_if 54 with fail
          obtain ⟨X, hX⟩ : ∃ X, X = wr.heap.size := ⟨_, rfl⟩
          have hx0 : (wr.alloc (.cells #[.int .i64 s.a, .int .i64 s.b, .bool s.right] 174)).heap[X]? = some (.cells #[.int .i64 s.a, .int .i64 s.b, .bool s.right] 174 (0, 0)) := by rw [hX]; exact heap_alloc_new _ _
          have hmx : Mv (fun _ => False) wr (wr.alloc (.cells #[.int .i64 s.a, .int .i64 s.b, .bool s.right] 174)) := (Mv.refl _ _).alloc _
          have HPX : Hid (∀ (o : Obj) (t : Nat) u, hc[t]? = some u → (wr.alloc o).cell? ⟨gp, op + j * 32 + t, none⟩ = some u) := Lib.hid fun o t u hu =>
            (World.cell?_of_block (Below.heap_alloc _ _ _ (World.block_lt_of_cell? _ _ (HPC.out t u hu)))).trans (HPC.out t u hu)
          have hpx := HPX.out (.cells #[.int .i64 s.a, .int .i64 s.b, .bool s.right] 174)
          have htx := HTLJ.out.still hmx
          have HXS : Hid (T ≠ X ∧ S ≠ X ∧ X ≠ T ∧ X ≠ S) := Lib.hid (by
            obtain ⟨_, _, h1, _, _⟩ := HTLJ.out.nodes
            have := lt_of_heap h1
            have := lt_of_heap HTLJ.out.s
            omega)
          rw [← hX]
          generalize wr.alloc (.cells #[.int .i64 s.a, .int .i64 s.b, .bool s.right] 174) = w5 at hx0 hmx hpx htx ⊢
          have HX0 := Lib.hid hx0
          have HM5 := Lib.hid (HMV.out.trans hmx)
          have HPX5 := Lib.hid hpx
          have HTX := Lib.hid htx
          clear HPX hx0 hmx hpx htx hX HPC HTLJ HMV c0 c1 c2
          go_cut [] (fun wx => TL w wx T S B R (j + 1) (tStep k st s hb0) f ∧ Mv (fun _ => False) w2 wx)
          case first =>
            obtain ⟨fv, ov, hT5, hfv, hov⟩ := HTX.out.nodes
            have HT5 := Lib.hid hT5
            have HFV := Lib.hid hfv
            have HOV := Lib.hid hov
            obtain ⟨fty, fx, hfx⟩ := hfv.iface
            obtain ⟨oty, ox, hox⟩ := hov.iface
            subst hfx hox
            clear hT5 hfv hov
            have hbg2 := build_givenL hc HHL.out
            have hq0 : q ≠ [] := by intro e; have := HQL.out; rw [e] at this; simp at this; omega
            have hgpT : gp ≠ T := by
              have h2 := HNE.out.1
              rcases HPQ.out with ⟨he, _⟩ | ⟨g, off, cap, he, _, _, hlt⟩
              · cases he
              · simp only [Value.slice.injEq, Option.some.injEq, Addr.mk.injEq] at he
                have := hlt hq0
                omega
            have HGP := Lib.hid hgpT
            have HMV2W : Hid (w.heap.size ≤ w2.heap.size) := Lib.hid HM2.out.size
            clear hq0 hgpT
            cases hsr : s.right with
            | true =>
              rw [hsr] at HX0
              have HSR := Lib.hid hsr
              clear hsr
              go_upto_region 11 with fail
              refine wp_region_noPanic ?_
              refine wp_region_held_drew (S := (fun w' => ∀ (t : Nat) u, hc[t]? = some u → w'.cell? ⟨gp, op + j * 32 + t, none⟩ = some u)) (by kernel_rfl) (HPX5.out) (fun hHeld => ?_)
              refine wpAnyH_take (i := 0) (oi := _) (v := .int .i64 k) rfl (by kernel_rfl) (by kernel_rfl) (by kernel_rfl) (fun _ _ _ h => h) (Or.inl ⟨by rfl, fun _ hS => by go_simp⟩) hHeld ?_
              try simp only [Act.put, List.getElem_toArray, List.getElem_cons_succ, List.getElem_cons_zero, List.setIfInBounds_toArray, List.set_cons_zero, List.set_cons_succ]
              refine wpAnyH_take (i := 1) (oi := _) (v := .pointer (some ⟨T, 0, none⟩)) rfl (by kernel_rfl) (by kernel_rfl) (by kernel_rfl) (fun _ _ _ h => h) (Or.inl ⟨by rfl, fun _ hS => by go_simp⟩) hHeld ?_
              try simp only [Act.put, List.getElem_toArray, List.getElem_cons_succ, List.getElem_cons_zero, List.setIfInBounds_toArray, List.set_cons_zero, List.set_cons_succ]
              refine wpAnyH_take (i := 3) (oi := _) (v := .slice (some ⟨gp, op, none⟩) L pc') rfl (by kernel_rfl) (by kernel_rfl) (by kernel_rfl) (fun _ _ _ h => h) (Or.inl ⟨by rfl, fun _ hS => by go_simp⟩) hHeld ?_
              try simp only [Act.put, List.getElem_toArray, List.getElem_cons_succ, List.getElem_cons_zero, List.setIfInBounds_toArray, List.set_cons_zero, List.set_cons_succ]
              refine wpAnyH_take (i := 4) (oi := _) (v := .int .i64 j) rfl (by kernel_rfl) (by kernel_rfl) (by kernel_rfl) (fun _ _ _ h => h) (Or.inl ⟨by rfl, fun _ hS => by go_simp⟩) hHeld ?_
              try simp only [Act.put, List.getElem_toArray, List.getElem_cons_succ, List.getElem_cons_zero, List.setIfInBounds_toArray, List.set_cons_zero, List.set_cons_succ]
              refine wpAnyH_take (i := 5) (oi := _) (v := .pointer (some ⟨gp, op + j * 32, none⟩)) rfl (by kernel_rfl) (by kernel_rfl) (by kernel_rfl) (fun _ _ _ h => h) (Or.inl ⟨by rfl, fun _ hS => by go_simp⟩) hHeld ?_
              try simp only [Act.put, List.getElem_toArray, List.getElem_cons_succ, List.getElem_cons_zero, List.setIfInBounds_toArray, List.set_cons_zero, List.set_cons_succ]
              refine wpAnyH_take (i := 6) (oi := _) (v := .agg hc.toArray) rfl (by kernel_rfl) (by kernel_rfl) (by kernel_rfl) (fun _ _ _ h => h) (yieldsIf_load_mid (by rfl) 34 _ rfl gp (op + j * 32) rfl hc _ (fun _ h => h) Tryz.underlying34 rfl HIL.out) hHeld ?_
              try simp only [Act.put, List.getElem_toArray, List.getElem_cons_succ, List.getElem_cons_zero, List.setIfInBounds_toArray, List.set_cons_zero, List.set_cons_succ]
              refine wpAnyH_take (i := 7) (oi := _) (v := .agg hc.toArray) rfl (by kernel_rfl) (by kernel_rfl) (by kernel_rfl) (fun _ _ _ h => h) (Or.inl ⟨by rfl, fun _ hS => by have := HHL.out; go_simp⟩) hHeld ?_
              try simp only [Act.put, List.getElem_toArray, List.getElem_cons_succ, List.getElem_cons_zero, List.setIfInBounds_toArray, List.set_cons_zero, List.set_cons_succ]
              refine wpAnyH_take (i := 8) (oi := _) (v := .iface 248 (.agg hc.toArray)) rfl (by kernel_rfl) (by kernel_rfl) (by kernel_rfl) (fun _ _ _ h => h) (Or.inl ⟨by rfl, fun _ hS => by go_simp⟩) hHeld ?_
              try simp only [Act.put, List.getElem_toArray, List.getElem_cons_succ, List.getElem_cons_zero, List.setIfInBounds_toArray, List.set_cons_zero, List.set_cons_succ]
              refine wpAnyH_one' (i := 2) (o := _) (by kernel_rfl) rfl (fun K' hK => ?_)
              rw [if_pos (by rfl)]
              have cT : w5.drew.cell? ⟨T, 0, none⟩ = some (.iface fty fx) := cell_of_heap HT5.out 0 rfl
              unfold Oper.wp execOp
              go_simp
              clear cT
              refine hK.out _ _ hHeld (fun hHeld => ?_)
              clear hK K'
              try simp only [Act.put, List.getElem_toArray, List.getElem_cons_succ, List.getElem_cons_zero, List.setIfInBounds_toArray, List.set_cons_zero, List.set_cons_succ]
              refine wpAnyH_one' (i := 9) (o := _) (by kernel_rfl) rfl (fun K' hK => ?_)
              rw [if_pos (by rfl)]
              unfold Oper.wp execOp
              go_simp
              have hj := join_any k (.iface fty fx) (.iface 248 (hashV hb0)) st.fresh (.given hb0) w5.drew (HFV.out.mv (Mv.refl _ _).drew) ⟨HH32.out, rfl⟩ (HE.out.mv (HM2.out.trans HM5.out).drew (fun _ h => h.elim))
              rw [show hashV hb0 = .agg hc.toArray by rw [HHC.out]; rfl] at hj
              refine hj.mono ?_
              rintro e w6 ⟨v5, rfl, hv5, hm6⟩
              obtain ⟨ty5, x5, hx5⟩ := hv5.iface
              subst hx5
              have HV5 := Lib.hid hv5
              have HJ5 : Hid (Mv (fun _ => False) w5 w6) := Lib.hid ((Mv.refl _ _).drew.trans hm6)
              have hs6 : ∀ (t : Nat) u, hc[t]? = some u → w6.cell? ⟨gp, op + j * 32 + t, none⟩ = some u := fun t u hu => (hm6.cell (p := ⟨gp, op + j * 32 + t, none⟩) (World.block_lt_of_cell? _ _ (hHeld t u hu)) id).trans (hHeld t u hu)
              have hT6 : w6.heap[T]? = some (.cells #[.iface fty fx, .iface oty ox, .map (some B)] 180 (0, 0)) := (HJ5.out.block T (lt_of_heap HT5.out) id).trans HT5.out
              have HT65 := Lib.hid hT6
              clear hj hv5 hm6 hT6
              refine hK.out _ _ hs6 (fun hHeld => ?_)
              clear hK K'
              try simp only [Act.put, List.getElem_toArray, List.getElem_cons_succ, List.getElem_cons_zero, List.setIfInBounds_toArray, List.set_cons_zero, List.set_cons_succ]
              clear hs6
              refine wpAnyH_take (i := 10) (oi := _) (v := .pointer (some ⟨T, 0, none⟩)) rfl (by kernel_rfl) (by kernel_rfl) (by kernel_rfl) (fun _ _ _ h => h) (Or.inl ⟨by rfl, fun _ hS => by go_simp⟩) hHeld ?_
              try simp only [Act.put, List.getElem_toArray, List.getElem_cons_succ, List.getElem_cons_zero, List.setIfInBounds_toArray, List.set_cons_zero, List.set_cons_succ]
              refine wpAnyH_one' (i := 11) (o := _) (by kernel_rfl) rfl (fun K' hK => ?_)
              rw [if_pos (by rfl)]
              have cT := cell_of_heap HT65.out 0 rfl
              have zT := free_of_heap HT65.out 0
              unfold Oper.wp execOp
              go_simp
              have hs7 : ∀ (t : Nat) u, hc[t]? = some u → (w6.setCell ⟨T, 0, none⟩ (.iface ty5 x5)).cell? ⟨gp, op + j * 32 + t, none⟩ = some u := fun t u hu => (World.cell?_setCell_far _ _ _ _ (Ne.symm HGP.out)).trans (hHeld t u hu)
              have hT7 : (w6.setCell ⟨T, 0, none⟩ (.iface ty5 x5)).heap[T]? = some (.cells #[.iface ty5 x5, .iface oty ox, .map (some B)] 180 (0, 0)) := heap_setCell_same HT65.out _
              have hm7 : Mv (fun _ => False) w2 (w6.setCell ⟨T, 0, none⟩ (.iface ty5 x5)) := (HM5.out.trans HJ5.out).setCell (.inr HNE.out.1) _
              have hp7 := hs7
              clear cT zT
              refine hK.out _ _ hs7 (fun hHeld => ?_)
              clear hK K'
              try simp only [Act.put, List.getElem_toArray, List.getElem_cons_succ, List.getElem_cons_zero, List.setIfInBounds_toArray, List.set_cons_zero, List.set_cons_succ]
              clear hs7 hHeld
              refine wpAnyH_done (by kernel_rfl) ?_ _
              refine NoPanic.normal ?_
              have HTw7 := Lib.hid hT7
              have HMw7 := Lib.hid hm7
              have HPXw7 := Lib.hid hp7
              have htl7 := TL.fresh HTX.out HJ5.out HV5.out (Nat.le_trans HMV2W.out HNE.out.1) HNE.out.2.2.1 HNE.out.2.2.2.1 HNE.out.2.2.2.2.2.1
              have hx7 : (w6.setCell ⟨T, 0, none⟩ (.iface ty5 x5)).heap[X]? = some (.cells #[.int .i64 s.a, .int .i64 s.b, .bool true] 174 (0, 0)) := (heap_setCell_other HXS.out.2.2.1 _).trans ((HJ5.out.block X (lt_of_heap HX0.out) id).trans HX0.out)
              generalize w6.setCell ⟨T, 0, none⟩ (.iface ty5 x5) = w7 at HTw7 HMw7 HPXw7 htl7 hx7 ⊢
              have HTL7 := Lib.hid htl7
              have HX0 := Lib.hid hx7
              clear hT7 hm7 hp7 hx7
              clear htl7
              have d0 := cell_of_heap HX0.out 1 rfl
              have d1 := cell_of_heap HTL7.out.s 1 rfl
              have d2 := free_of_heap HTL7.out.s 1
              go_wp2_with fail
              go_meet
              refine ⟨?_, HMw7.out.setCell (p := ⟨S, 1, none⟩) (.inr (by have := HS2.out; show w2.heap.size ≤ S; omega)) _⟩
              have := TL.setB HTL7.out s.b (by have := HMV2W.out; have := HS2.out; omega) HNE.out.2.2.2.2.1 HNE.out.2.2.2.1 (by have := HRS.out; omega)
              unfold tStep; rw [if_pos HSR.out]; exact this
            | false =>
              rw [hsr] at HX0
              have HSR := Lib.hid hsr
              clear hsr
              go_upto_region 13 with fail
              refine wp_region_noPanic ?_
              refine wp_region_held_drew (S := (fun w' => ∀ (t : Nat) u, hc[t]? = some u → w'.cell? ⟨gp, op + j * 32 + t, none⟩ = some u)) (by kernel_rfl) (HPX5.out) (fun hHeld => ?_)
              refine wpAnyH_take (i := 0) (oi := _) (v := .int .i64 k) rfl (by kernel_rfl) (by kernel_rfl) (by kernel_rfl) (fun _ _ _ h => h) (Or.inl ⟨by rfl, fun _ hS => by go_simp⟩) hHeld ?_
              try simp only [Act.put, List.getElem_toArray, List.getElem_cons_succ, List.getElem_cons_zero, List.setIfInBounds_toArray, List.set_cons_zero, List.set_cons_succ]
              refine wpAnyH_take (i := 1) (oi := _) (v := .slice (some ⟨gp, op, none⟩) L pc') rfl (by kernel_rfl) (by kernel_rfl) (by kernel_rfl) (fun _ _ _ h => h) (Or.inl ⟨by rfl, fun _ hS => by go_simp⟩) hHeld ?_
              try simp only [Act.put, List.getElem_toArray, List.getElem_cons_succ, List.getElem_cons_zero, List.setIfInBounds_toArray, List.set_cons_zero, List.set_cons_succ]
              refine wpAnyH_take (i := 2) (oi := _) (v := .int .i64 j) rfl (by kernel_rfl) (by kernel_rfl) (by kernel_rfl) (fun _ _ _ h => h) (Or.inl ⟨by rfl, fun _ hS => by go_simp⟩) hHeld ?_
              try simp only [Act.put, List.getElem_toArray, List.getElem_cons_succ, List.getElem_cons_zero, List.setIfInBounds_toArray, List.set_cons_zero, List.set_cons_succ]
              refine wpAnyH_take (i := 3) (oi := _) (v := .pointer (some ⟨gp, op + j * 32, none⟩)) rfl (by kernel_rfl) (by kernel_rfl) (by kernel_rfl) (fun _ _ _ h => h) (Or.inl ⟨by rfl, fun _ hS => by go_simp⟩) hHeld ?_
              try simp only [Act.put, List.getElem_toArray, List.getElem_cons_succ, List.getElem_cons_zero, List.setIfInBounds_toArray, List.set_cons_zero, List.set_cons_succ]
              refine wpAnyH_take (i := 4) (oi := _) (v := .agg hc.toArray) rfl (by kernel_rfl) (by kernel_rfl) (by kernel_rfl) (fun _ _ _ h => h) (yieldsIf_load_mid (by rfl) 34 _ rfl gp (op + j * 32) rfl hc _ (fun _ h => h) Tryz.underlying34 rfl HIL.out) hHeld ?_
              try simp only [Act.put, List.getElem_toArray, List.getElem_cons_succ, List.getElem_cons_zero, List.setIfInBounds_toArray, List.set_cons_zero, List.set_cons_succ]
              refine wpAnyH_take (i := 5) (oi := _) (v := .agg hc.toArray) rfl (by kernel_rfl) (by kernel_rfl) (by kernel_rfl) (fun _ _ _ h => h) (Or.inl ⟨by rfl, fun _ hS => by have := HHL.out; go_simp⟩) hHeld ?_
              try simp only [Act.put, List.getElem_toArray, List.getElem_cons_succ, List.getElem_cons_zero, List.setIfInBounds_toArray, List.set_cons_zero, List.set_cons_succ]
              refine wpAnyH_take (i := 6) (oi := _) (v := .iface 248 (.agg hc.toArray)) rfl (by kernel_rfl) (by kernel_rfl) (by kernel_rfl) (fun _ _ _ h => h) (Or.inl ⟨by rfl, fun _ hS => by go_simp⟩) hHeld ?_
              try simp only [Act.put, List.getElem_toArray, List.getElem_cons_succ, List.getElem_cons_zero, List.setIfInBounds_toArray, List.set_cons_zero, List.set_cons_succ]
              refine wpAnyH_take (i := 7) (oi := _) (v := .pointer (some ⟨T, 0, none⟩)) rfl (by kernel_rfl) (by kernel_rfl) (by kernel_rfl) (fun _ _ _ h => h) (Or.inl ⟨by rfl, fun _ hS => by go_simp⟩) hHeld ?_
              try simp only [Act.put, List.getElem_toArray, List.getElem_cons_succ, List.getElem_cons_zero, List.setIfInBounds_toArray, List.set_cons_zero, List.set_cons_succ]
              refine wpAnyH_one' (i := 8) (o := _) (by kernel_rfl) rfl (fun K' hK => ?_)
              rw [if_pos (by rfl)]
              have cT : w5.drew.cell? ⟨T, 0, none⟩ = some (.iface fty fx) := cell_of_heap HT5.out 0 rfl
              unfold Oper.wp execOp
              go_simp
              clear cT
              refine hK.out _ _ hHeld (fun hHeld => ?_)
              clear hK K'
              try simp only [Act.put, List.getElem_toArray, List.getElem_cons_succ, List.getElem_cons_zero, List.setIfInBounds_toArray, List.set_cons_zero, List.set_cons_succ]
              refine wpAnyH_one' (i := 9) (o := _) (by kernel_rfl) rfl (fun K' hK => ?_)
              rw [if_pos (by rfl)]
              unfold Oper.wp execOp
              go_simp
              have hj := join_any k (.iface 248 (hashV hb0)) (.iface fty fx) (.given hb0) st.fresh w5.drew ⟨HH32.out, rfl⟩ (HFV.out.mv (Mv.refl _ _).drew) (HE.out.mv (HM2.out.trans HM5.out).drew (fun _ h => h.elim))
              rw [show hashV hb0 = .agg hc.toArray by rw [HHC.out]; rfl] at hj
              refine hj.mono ?_
              rintro e w6 ⟨v5, rfl, hv5, hm6⟩
              obtain ⟨ty5, x5, hx5⟩ := hv5.iface
              subst hx5
              have HV5 := Lib.hid hv5
              have HJ5 : Hid (Mv (fun _ => False) w5 w6) := Lib.hid ((Mv.refl _ _).drew.trans hm6)
              have hs6 : ∀ (t : Nat) u, hc[t]? = some u → w6.cell? ⟨gp, op + j * 32 + t, none⟩ = some u := fun t u hu => (hm6.cell (p := ⟨gp, op + j * 32 + t, none⟩) (World.block_lt_of_cell? _ _ (hHeld t u hu)) id).trans (hHeld t u hu)
              have hT6 : w6.heap[T]? = some (.cells #[.iface fty fx, .iface oty ox, .map (some B)] 180 (0, 0)) := (HJ5.out.block T (lt_of_heap HT5.out) id).trans HT5.out
              have HT65 := Lib.hid hT6
              clear hj hv5 hm6 hT6
              refine hK.out _ _ hs6 (fun hHeld => ?_)
              clear hK K'
              try simp only [Act.put, List.getElem_toArray, List.getElem_cons_succ, List.getElem_cons_zero, List.setIfInBounds_toArray, List.set_cons_zero, List.set_cons_succ]
              clear hs6
              refine wpAnyH_take (i := 10) (oi := _) (v := .pointer (some ⟨T, 0, none⟩)) rfl (by kernel_rfl) (by kernel_rfl) (by kernel_rfl) (fun _ _ _ h => h) (Or.inl ⟨by rfl, fun _ hS => by go_simp⟩) hHeld ?_
              try simp only [Act.put, List.getElem_toArray, List.getElem_cons_succ, List.getElem_cons_zero, List.setIfInBounds_toArray, List.set_cons_zero, List.set_cons_succ]
              refine wpAnyH_one' (i := 11) (o := _) (by kernel_rfl) rfl (fun K' hK => ?_)
              rw [if_pos (by rfl)]
              have cT := cell_of_heap HT65.out 0 rfl
              have zT := free_of_heap HT65.out 0
              unfold Oper.wp execOp
              go_simp
              have hs7 : ∀ (t : Nat) u, hc[t]? = some u → (w6.setCell ⟨T, 0, none⟩ (.iface ty5 x5)).cell? ⟨gp, op + j * 32 + t, none⟩ = some u := fun t u hu => (World.cell?_setCell_far _ _ _ _ (Ne.symm HGP.out)).trans (hHeld t u hu)
              have hT7 : (w6.setCell ⟨T, 0, none⟩ (.iface ty5 x5)).heap[T]? = some (.cells #[.iface ty5 x5, .iface oty ox, .map (some B)] 180 (0, 0)) := heap_setCell_same HT65.out _
              have hm7 : Mv (fun _ => False) w2 (w6.setCell ⟨T, 0, none⟩ (.iface ty5 x5)) := (HM5.out.trans HJ5.out).setCell (.inr HNE.out.1) _
              have hp7 := hs7
              clear cT zT
              refine hK.out _ _ hs7 (fun hHeld => ?_)
              clear hK K'
              try simp only [Act.put, List.getElem_toArray, List.getElem_cons_succ, List.getElem_cons_zero, List.setIfInBounds_toArray, List.set_cons_zero, List.set_cons_succ]
              clear hs7 hHeld
              refine wpAnyH_done (by kernel_rfl) ?_ _
              refine NoPanic.normal ?_
              have HTw7 := Lib.hid hT7
              have HMw7 := Lib.hid hm7
              have HPXw7 := Lib.hid hp7
              have htl7 := TL.fresh HTX.out HJ5.out HV5.out (Nat.le_trans HMV2W.out HNE.out.1) HNE.out.2.2.1 HNE.out.2.2.2.1 HNE.out.2.2.2.2.2.1
              have hx7 : (w6.setCell ⟨T, 0, none⟩ (.iface ty5 x5)).heap[X]? = some (.cells #[.int .i64 s.a, .int .i64 s.b, .bool false] 174 (0, 0)) := (heap_setCell_other HXS.out.2.2.1 _).trans ((HJ5.out.block X (lt_of_heap HX0.out) id).trans HX0.out)
              have hov7 : NodeAt (w6.setCell ⟨T, 0, none⟩ (.iface ty5 x5)) (.iface oty ox) st.old := (HOV.out.mv HJ5.out).setCell HT65.out (by decide) _
              generalize w6.setCell ⟨T, 0, none⟩ (.iface ty5 x5) = w7 at HTw7 HMw7 HPXw7 htl7 hx7 hov7 ⊢
              have HTL7 := Lib.hid htl7
              have HX0 := Lib.hid hx7
              clear hT7 hm7 hp7 hx7
              have HOV7 := Lib.hid hov7
              have HT7 := HTw7
              have HM7 := HMw7
              have HPX7 := HPXw7
              clear hov7 htl7
              go_upto_region 14 with fail
              refine wp_region_noPanic ?_
              refine wp_region_held_drew (S := (fun w' => ∀ (t : Nat) u, hc[t]? = some u → w'.cell? ⟨gp, op + j * 32 + t, none⟩ = some u)) (by kernel_rfl) (HPX7.out) (fun hHeld => ?_)
              refine wpAnyH_take (i := 0) (oi := _) (v := .int .i64 k) rfl (by kernel_rfl) (by kernel_rfl) (by kernel_rfl) (fun _ _ _ h => h) (Or.inl ⟨by rfl, fun _ hS => by go_simp⟩) hHeld ?_
              try simp only [Act.put, List.getElem_toArray, List.getElem_cons_succ, List.getElem_cons_zero, List.setIfInBounds_toArray, List.set_cons_zero, List.set_cons_succ]
              refine wpAnyH_take (i := 1) (oi := _) (v := .slice (some ⟨gp, op, none⟩) L pc') rfl (by kernel_rfl) (by kernel_rfl) (by kernel_rfl) (fun _ _ _ h => h) (Or.inl ⟨by rfl, fun _ hS => by go_simp⟩) hHeld ?_
              try simp only [Act.put, List.getElem_toArray, List.getElem_cons_succ, List.getElem_cons_zero, List.setIfInBounds_toArray, List.set_cons_zero, List.set_cons_succ]
              refine wpAnyH_take (i := 2) (oi := _) (v := .int .i64 j) rfl (by kernel_rfl) (by kernel_rfl) (by kernel_rfl) (fun _ _ _ h => h) (Or.inl ⟨by rfl, fun _ hS => by go_simp⟩) hHeld ?_
              try simp only [Act.put, List.getElem_toArray, List.getElem_cons_succ, List.getElem_cons_zero, List.setIfInBounds_toArray, List.set_cons_zero, List.set_cons_succ]
              refine wpAnyH_take (i := 3) (oi := _) (v := .pointer (some ⟨gp, op + j * 32, none⟩)) rfl (by kernel_rfl) (by kernel_rfl) (by kernel_rfl) (fun _ _ _ h => h) (Or.inl ⟨by rfl, fun _ hS => by go_simp⟩) hHeld ?_
              try simp only [Act.put, List.getElem_toArray, List.getElem_cons_succ, List.getElem_cons_zero, List.setIfInBounds_toArray, List.set_cons_zero, List.set_cons_succ]
              refine wpAnyH_take (i := 4) (oi := _) (v := .agg hc.toArray) rfl (by kernel_rfl) (by kernel_rfl) (by kernel_rfl) (fun _ _ _ h => h) (yieldsIf_load_mid (by rfl) 34 _ rfl gp (op + j * 32) rfl hc _ (fun _ h => h) Tryz.underlying34 rfl HIL.out) hHeld ?_
              try simp only [Act.put, List.getElem_toArray, List.getElem_cons_succ, List.getElem_cons_zero, List.setIfInBounds_toArray, List.set_cons_zero, List.set_cons_succ]
              refine wpAnyH_take (i := 5) (oi := _) (v := .agg hc.toArray) rfl (by kernel_rfl) (by kernel_rfl) (by kernel_rfl) (fun _ _ _ h => h) (Or.inl ⟨by rfl, fun _ hS => by have := HHL.out; go_simp⟩) hHeld ?_
              try simp only [Act.put, List.getElem_toArray, List.getElem_cons_succ, List.getElem_cons_zero, List.setIfInBounds_toArray, List.set_cons_zero, List.set_cons_succ]
              refine wpAnyH_take (i := 6) (oi := _) (v := .iface 248 (.agg hc.toArray)) rfl (by kernel_rfl) (by kernel_rfl) (by kernel_rfl) (fun _ _ _ h => h) (Or.inl ⟨by rfl, fun _ hS => by go_simp⟩) hHeld ?_
              try simp only [Act.put, List.getElem_toArray, List.getElem_cons_succ, List.getElem_cons_zero, List.setIfInBounds_toArray, List.set_cons_zero, List.set_cons_succ]
              refine wpAnyH_take (i := 7) (oi := _) (v := .pointer (some ⟨T, 1, none⟩)) rfl (by kernel_rfl) (by kernel_rfl) (by kernel_rfl) (fun _ _ _ h => h) (Or.inl ⟨by rfl, fun _ hS => by go_simp⟩) hHeld ?_
              try simp only [Act.put, List.getElem_toArray, List.getElem_cons_succ, List.getElem_cons_zero, List.setIfInBounds_toArray, List.set_cons_zero, List.set_cons_succ]
              refine wpAnyH_one' (i := 8) (o := _) (by kernel_rfl) rfl (fun K' hK => ?_)
              rw [if_pos (by rfl)]
              have cT : w7.drew.cell? ⟨T, 1, none⟩ = some (.iface oty ox) := cell_of_heap HT7.out 1 rfl
              unfold Oper.wp execOp
              go_simp
              clear cT
              refine hK.out _ _ hHeld (fun hHeld => ?_)
              clear hK K'
              try simp only [Act.put, List.getElem_toArray, List.getElem_cons_succ, List.getElem_cons_zero, List.setIfInBounds_toArray, List.set_cons_zero, List.set_cons_succ]
              refine wpAnyH_one' (i := 9) (o := _) (by kernel_rfl) rfl (fun K' hK => ?_)
              rw [if_pos (by rfl)]
              unfold Oper.wp execOp
              go_simp
              have hj := join_any k (.iface 248 (hashV hb0)) (.iface oty ox) (.given hb0) st.old w7.drew ⟨HH32.out, rfl⟩ (HOV7.out.mv (Mv.refl _ _).drew) (HE.out.mv (HM2.out.trans HM7.out).drew (fun _ h => h.elim))
              rw [show hashV hb0 = .agg hc.toArray by rw [HHC.out]; rfl] at hj
              refine hj.mono ?_
              rintro e w8 ⟨v7, rfl, hv5, hm6⟩
              obtain ⟨ty7, x7, hx5⟩ := hv5.iface
              subst hx5
              have HV7 := Lib.hid hv5
              have HJ7 : Hid (Mv (fun _ => False) w7 w8) := Lib.hid ((Mv.refl _ _).drew.trans hm6)
              have hs6 : ∀ (t : Nat) u, hc[t]? = some u → w8.cell? ⟨gp, op + j * 32 + t, none⟩ = some u := fun t u hu => (hm6.cell (p := ⟨gp, op + j * 32 + t, none⟩) (World.block_lt_of_cell? _ _ (hHeld t u hu)) id).trans (hHeld t u hu)
              have hT6 : w8.heap[T]? = some (.cells #[.iface ty5 x5, .iface oty ox, .map (some B)] 180 (0, 0)) := (HJ7.out.block T (lt_of_heap HT7.out) id).trans HT7.out
              have HT67 := Lib.hid hT6
              clear hj hv5 hm6 hT6
              refine hK.out _ _ hs6 (fun hHeld => ?_)
              clear hK K'
              try simp only [Act.put, List.getElem_toArray, List.getElem_cons_succ, List.getElem_cons_zero, List.setIfInBounds_toArray, List.set_cons_zero, List.set_cons_succ]
              clear hs6
              refine wpAnyH_take (i := 10) (oi := _) (v := .pointer (some ⟨T, 1, none⟩)) rfl (by kernel_rfl) (by kernel_rfl) (by kernel_rfl) (fun _ _ _ h => h) (Or.inl ⟨by rfl, fun _ hS => by go_simp⟩) hHeld ?_
              try simp only [Act.put, List.getElem_toArray, List.getElem_cons_succ, List.getElem_cons_zero, List.setIfInBounds_toArray, List.set_cons_zero, List.set_cons_succ]
              refine wpAnyH_one' (i := 11) (o := _) (by kernel_rfl) rfl (fun K' hK => ?_)
              rw [if_pos (by rfl)]
              have cT := cell_of_heap HT67.out 1 rfl
              have zT := free_of_heap HT67.out 1
              unfold Oper.wp execOp
              go_simp
              have hs7 : ∀ (t : Nat) u, hc[t]? = some u → (w8.setCell ⟨T, 1, none⟩ (.iface ty7 x7)).cell? ⟨gp, op + j * 32 + t, none⟩ = some u := fun t u hu => (World.cell?_setCell_far _ _ _ _ (Ne.symm HGP.out)).trans (hHeld t u hu)
              have hT7 : (w8.setCell ⟨T, 1, none⟩ (.iface ty7 x7)).heap[T]? = some (.cells #[.iface ty5 x5, .iface ty7 x7, .map (some B)] 180 (0, 0)) := heap_setCell_same HT67.out _
              have hm7 : Mv (fun _ => False) w2 (w8.setCell ⟨T, 1, none⟩ (.iface ty7 x7)) := (HM7.out.trans HJ7.out).setCell (.inr HNE.out.1) _
              have hp7 := hs7
              clear cT zT
              refine hK.out _ _ hs7 (fun hHeld => ?_)
              clear hK K'
              try simp only [Act.put, List.getElem_toArray, List.getElem_cons_succ, List.getElem_cons_zero, List.setIfInBounds_toArray, List.set_cons_zero, List.set_cons_succ]
              clear hs7 hHeld
              refine wpAnyH_done (by kernel_rfl) ?_ _
              refine NoPanic.normal ?_
              have HTw9 := Lib.hid hT7
              have HMw9 := Lib.hid hm7
              have HPXw9 := Lib.hid hp7
              have htl7 := TL.older HTL7.out HJ7.out HV7.out (Nat.le_trans HMV2W.out HNE.out.1) HNE.out.2.2.1 HNE.out.2.2.2.1 HNE.out.2.2.2.2.2.1
              have hx7 : (w8.setCell ⟨T, 1, none⟩ (.iface ty7 x7)).heap[X]? = some (.cells #[.int .i64 s.a, .int .i64 s.b, .bool false] 174 (0, 0)) := (heap_setCell_other HXS.out.2.2.1 _).trans ((HJ7.out.block X (lt_of_heap HX0.out) id).trans HX0.out)
              generalize w8.setCell ⟨T, 1, none⟩ (.iface ty7 x7) = w9 at HTw9 HMw9 HPXw9 htl7 hx7 ⊢
              have HTL9 := Lib.hid htl7
              have HX0 := Lib.hid hx7
              clear hT7 hm7 hp7 hx7
              clear htl7
              have d0 := cell_of_heap HX0.out 0 rfl
              have d1 := cell_of_heap HTL9.out.s 0 rfl
              have d2 := free_of_heap HTL9.out.s 0
              go_wp2_with fail
              go_meet
              refine ⟨?_, HMw9.out.setCell (p := ⟨S, 0, none⟩) (.inr (by have := HS2.out; show w2.heap.size ≤ S; omega)) _⟩
              have := TL.setA HTL9.out s.a (by have := HMV2W.out; have := HS2.out; omega) HNE.out.2.2.2.2.1 HNE.out.2.2.2.1 (by have := HRS.out; omega)
              unfold tStep; rw [if_neg (by rw [HSR.out]; simp)]; exact this
          case rest =>
            obtain ⟨htl, hm2⟩ := hcut
            obtain ⟨st1, hst1⟩ : ∃ x, x = tStep k st s hb0 := ⟨_, rfl⟩
            rw [← hst1] at htl HSTEP
            have hb1 := HRB.out (j + 1) (by rw [← HL.out]; omega)
            have hl1 := (HRL.out (j + 1)).1
            rw [HSTEP.out] at hb1 hl1 HMSTEP
            obtain ⟨fv, ov, hT5, hfv, hov⟩ := htl.nodes
            obtain ⟨fty, fx, hfx⟩ := hfv.iface
            subst hfx
            have HT5 := Lib.hid hT5
            have HFV := Lib.hid hfv
            have HB1 := Lib.hid hb1
            have HL1 := Lib.hid hl1
            have HTL1 := Lib.hid htl
            have HMW := Lib.hid hm2
            clear hst1 htl hm2 hb1 hl1 hT5 hfv hov HX0 HM5 HPX5 HTX HXS hLpc
            go_upto_region 16 with fail
            refine wp_region_noPanic ?_
            refine wp_region_held_drew (S := (fun w' => w'.heap[T]? = some (.cells #[.iface fty fx, ov, .map (some B)] 180 (0, 0)) ∧ w'.heap[S]? = some (.cells #[.int .i64 st1.sa, .int .i64 st1.sb] 170 (0, 0)))) (by kernel_rfl) (⟨HT5.out, HTL1.out.s⟩) (fun hHeld => ?_)
            refine wpAnyH_take (i := 0) (oi := _) (v := .pointer (some ⟨T, 2, none⟩)) rfl (by kernel_rfl) (by kernel_rfl) (by kernel_rfl) (fun _ _ _ h => h) (Or.inl ⟨by rfl, fun _ hS => by go_simp⟩) hHeld ?_
            try simp only [Act.put, List.getElem_toArray, List.getElem_cons_succ, List.getElem_cons_zero, List.setIfInBounds_toArray, List.set_cons_zero, List.set_cons_succ]
            refine wpAnyH_take (i := 1) (oi := _) (v := .map (some B)) rfl (by kernel_rfl) (by kernel_rfl) (by kernel_rfl) (fun _ _ _ h => h) (Or.inl ⟨by rfl, fun _ hS => by have := cell_of_heap hS.1 2 rfl; go_simp⟩) hHeld ?_
            try simp only [Act.put, List.getElem_toArray, List.getElem_cons_succ, List.getElem_cons_zero, List.setIfInBounds_toArray, List.set_cons_zero, List.set_cons_succ]
            refine wpAnyH_take (i := 2) (oi := _) (v := spanV st1.sa st1.sb) rfl (by kernel_rfl) (by kernel_rfl) (by kernel_rfl) (fun _ _ _ h => h) (Or.inl ⟨by rfl, fun _ hS => by have := cell_of_heap hS.2 0 rfl; have := cell_of_heap hS.2 1 rfl; unfold spanV; go_simp⟩) hHeld ?_
            try simp only [Act.put, List.getElem_toArray, List.getElem_cons_succ, List.getElem_cons_zero, List.setIfInBounds_toArray, List.set_cons_zero, List.set_cons_succ]
            refine wpAnyH_take (i := 3) (oi := _) (v := .pointer (some ⟨T, 0, none⟩)) rfl (by kernel_rfl) (by kernel_rfl) (by kernel_rfl) (fun _ _ _ h => h) (Or.inl ⟨by rfl, fun _ hS => by go_simp⟩) hHeld ?_
            try simp only [Act.put, List.getElem_toArray, List.getElem_cons_succ, List.getElem_cons_zero, List.setIfInBounds_toArray, List.set_cons_zero, List.set_cons_succ]
            refine wpAnyH_take (i := 4) (oi := _) (v := .iface fty fx) rfl (by kernel_rfl) (by kernel_rfl) (by kernel_rfl) (fun _ _ _ h => h) (Or.inl ⟨by rfl, fun _ hS => by have := cell_of_heap hS.1 0 rfl; go_simp⟩) hHeld ?_
            try simp only [Act.put, List.getElem_toArray, List.getElem_cons_succ, List.getElem_cons_zero, List.setIfInBounds_toArray, List.set_cons_zero, List.set_cons_succ]
            refine wpAnyH_one' (i := 5) (o := _) (by kernel_rfl) rfl (fun K' hK => ?_)
            rw [if_pos (by rfl)]
            refine wp_sum 100 rfl _ st1.fresh rfl (HFV.out.mv (Mv.refl _ _).drew) (fun w6 hm => ?_)
            have HJ : Hid (Mv (fun _ => False) wc w6) := Lib.hid ((Mv.refl _ _).drew.trans hm)
            have hs6 := And.intro ((hm.block T (lt_of_heap hHeld.1) id).trans hHeld.1) ((hm.block S (lt_of_heap hHeld.2) id).trans hHeld.2)
            clear hm
            refine hK.out _ _ hs6 (fun hHeld => ?_)
            clear hK K'
            try simp only [Act.put, List.getElem_toArray, List.getElem_cons_succ, List.getElem_cons_zero, List.setIfInBounds_toArray, List.set_cons_zero, List.set_cons_succ]
            clear hs6
            refine wpAnyH_one' (i := 6) (o := _) (by kernel_rfl) rfl (fun K' hK => ?_)
            rw [if_pos (by rfl)]
            have htl6 := HTL1.out.still HJ.out
            refine wp_insert (.tmp 97) (.tmp 98) (.tmp 101) (.inr rfl) st1.sa st1.sb st1.fresh.sum rfl rfl rfl htl6.m (by unfold maxLen; omega) HB1.out.1 HB1.out.2 HL1.out (fun w7 hmp hg => ?_)
            have htl7 := TL.put htl6 hmp hg (by have := HNE.out.2.1; have := HM2.out.size; omega) HNE.out.2.2.1 HNE.out.2.2.2.2.1 HNE.out.2.2.2.2.2.2
            have hmg : Mv (fun b => b = B) w6 w7 := (Mv.refl _ _).grown hg (fun k hk => .inl (by cases hk; rfl))
            have HM7 : Hid (Mv (fun _ => False) w2 w7) := Lib.hid ((HMW.out.trans HJ.out).trans' hmg (fun i hi h => by have := HNE.out.2.1; omega))
            have HTL7 := Lib.hid htl7
            have hs7 := And.intro ((hmg.block T (lt_of_heap hHeld.1) HNE.out.2.2.1).trans hHeld.1) ((hmg.block S (lt_of_heap hHeld.2) (Ne.symm HNE.out.2.2.2.2.1)).trans hHeld.2)
            clear hmp hg hmg htl6 htl7
            refine hK.out _ _ hs7 (fun hHeld => ?_)
            clear hK K'
            try simp only [Act.put, List.getElem_toArray, List.getElem_cons_succ, List.getElem_cons_zero, List.setIfInBounds_toArray, List.set_cons_zero, List.set_cons_succ]
            clear hs7 hHeld
            refine wpAnyH_done (by kernel_rfl) ?_ _
            refine NoPanic.normal ?_
            go_wp2_with fail
            go_roundw
            case rel => exact ⟨j + 1, by omega, by go_num, by rw [HMSTEP.out, HSTEP.out]; exact HTL7.out, HM7.out⟩
            case measure => simp [intOf]; omega
        · have hjn2 : j = L := by omega
          subst hjn2
          obtain ⟨fv, ov, hT5, hfv, hov⟩ := HTLJ.out.nodes
          have hne : R ≠ T := Ne.symm HNE.out.2.2.2.2.2.1
          obtain ⟨fty, fx, hfx⟩ := hfv.iface
          obtain ⟨oty, ox, hox⟩ := hov.iface
          subst hfx hox
          have HT5 := Lib.hid hT5
          have HFV := Lib.hid hfv
          have HOV := Lib.hid hov
          clear hT5 hfv hov htl hmv
          go_wp2_with (first
            | (refine wpList_load_row rfl 180 _ rfl T rfl 180 _ (0, 0) _ HT5.out Tryz.underlying180 rfl (by kernel_rfl) ?_)
            | (refine wpList_store_row rfl 180 _ _ rfl R #[.iface fty fx, .iface oty ox, .map (some B)] rfl rfl 180 _ HTLJ.out.r (by kernel_rfl) rfl (three_one _ _ _ _ _) ?_))
          refine bodyPost_ret (results_cell_row (fn := Tryz.f92) rfl _ _ R 180 #[.iface fty fx, .iface oty ox, .map (some B)] (0, 0) _ rfl (setRow_heap _ _ _ _ _ _ HTLJ.out.r) Tryz.underlying180 rfl (by kernel_rfl)) rfl ?_
          have hmr : Mv (fun b => b = R) wr (wr.setRow R #[.iface fty fx, .iface oty ox, .map (some B)]) := (Mv.refl (fun b => b = R) _).setRow (.inl rfl) _
          have hn9 : ∀ b, b = R → ∀ c, wr.heap[b]? ≠ some (.cells c 309 (0, 0)) := fun b e c he => by subst e; rw [HTLJ.out.r] at he; simp at he
          refine ⟨_, _, B, j + 1, rfl, ?_, ?_, ?_, by omega, ?_, ?_⟩
          · rw [HEND.out]; exact NodeAt.mvT hmr hn9 HFV.out
          · rw [HEND.out]; exact NodeAt.mvT hmr hn9 HOV.out
          · have := HNE.out.2.1; have := HM2.out.size; omega
          · rw [HHSH.out]; exact HTLJ.out.m.mv hmr HNE.out.2.2.2.2.2.2
          · exact HTLJ.out.mv.setRow (.inr (by have := HAR.out; omega)) _
end Go.Proofs.YtdfdikpklddnhaaGreatDoor
