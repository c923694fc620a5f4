/- EvidenceRight, walked. Printed by gen/genlrt.py. -/
import Derived.Test.YtdfdikpklddnhaaGreatDoorEr44
import Derived.Test.YtdfdikpklddnhaaGreatDoorEr45
import Derived.Deep.DeepCutAuto
import Derived.Deep.QuietTactic
import Derived.BigQuiet
namespace Go.Proofs.YtdfdikpklddnhaaGreatDoor
open Go.RowKit
set_option linter.unusedSimpArgs false

def caseC (k : Int) (av bv : Value) (p q : ByteArray) (lv : Value) : Array Value := #[.int .i64 k, av, bv, .string p, .string q, lv]
theorem finalE_bad (k : Int) (L : List FactP) (h : followE k L ≠ 0) : finalE k L = 180 := by unfold finalE; rw [if_neg h]
theorem findE_bad (k : Int) (L : List FactP) (p q : ByteArray) (h : followE k L ≠ 0) : findE k L p q = 180 := by unfold findE; rw [if_pos h]
theorem follow_good (k : Int) (L : List FactP) (h : followE k L = 0) : L.length ≤ 1024 ∧ followP k L (headE k) true = some (followH k L) ∧ finalE k L = 0 ∧ finalH k L = followH k L := by
  have h0 := h
  unfold followE at h
  by_cases hb : 1024 < L.length
  · rw [if_pos hb] at h; cases h
  · rw [if_neg hb] at h
    cases hf : followP k L (headE k) true with
    | none => rw [hf] at h; cases h
    | some x =>
      refine ⟨by omega, ?_, by unfold finalE; rw [if_pos h0], by unfold finalH; rw [if_pos h0]⟩
      unfold followH
      rw [if_neg hb, hf]; rfl
/-- What the law's want says behind j facts. -/
def WantAt (p q : ByteArray) (L : List FactP) (j : Nat) (want : Int) : Prop := (want = -1 ∧ firstP p q L = firstFrom p q j (L.drop j)) ∨ (0 ≤ want ∧ want < j ∧ firstP p q L = want)
theorem WantAt.skip {p q : ByteArray} {L : List FactP} {j : Nat} {want : Int} {f : FactP} (h : WantAt p q L j want) (hf : L[j]? = some f) (hk : want < 0 → keyB p q f = false) : WantAt p q L (j + 1) want := by
  rcases h with ⟨h1, h2⟩ | ⟨h1, h2, h3⟩
  · refine .inl ⟨h1, ?_⟩
    rw [h2, firstFrom_cons p q L j f hf j, if_neg (by rw [hk (by omega)]; simp)]
  · exact .inr ⟨h1, by omega, h3⟩
theorem WantAt.hit {p q : ByteArray} {L : List FactP} {j : Nat} {want : Int} {f : FactP} (h : WantAt p q L j want) (hf : L[j]? = some f) (hw : want < 0) (hk : keyB p q f = true) : WantAt p q L (j + 1) j := by
  rcases h with ⟨h1, h2⟩ | ⟨h1, h2, h3⟩
  · refine .inr ⟨by omega, by omega, ?_⟩
    rw [h2, firstFrom_cons p q L j f hf j, if_pos hk]
  · omega
theorem root_cells {W : World} {X o : Nat} {h : HeadP} (hl : ∀ (j : Nat) v, h.V[j]? = some v → W.cell? ⟨X, o + j, none⟩ = some v) : ∀ (t : Nat) u, (h.root.map byteV)[t]? = some u → W.cell? ⟨X, o + 2 + t, none⟩ = some u := fun t u hu => by
  have := hl (t + 1 + 1) u hu
  rw [show o + 2 + t = o + (t + 1 + 1) by omega]
  exact this
theorem quiet_load36 {P : Program} {w : World} {a : Act} {o : Oper} {K : Act → Prop} (x : Operand) (ho : o.op = .load 36 x) (p : Addr) (hx : a.eval x = .pointer (some p)) (v : Value) (hl : ∀ n, (loadVar 36 p).run P (w.drewN n) = .ok v (w.drewN n)) (h : K (a.put o.dst v)) : o.quiet P a (fun w' => ∃ n, w' = w.drewN n) K := ⟨v, by
  rintro _ ⟨n, rfl⟩
  unfold Oper.quietAt execOp
  simp only [ho, hx, Instr.loadAt, Instr.sureAddr, Sem.run_bind, Sem.run_pure, Result.andThen_ok, hl n]
  exact ⟨rfl, rfl⟩, h⟩
set_option maxRecDepth 100000 in
set_option maxHeartbeats 6400000 in
theorem right_walk (k : Int) (av bv lv : Value) (p q : ByteArray) (L : List FactP) (w : World) (hA : FactsArg w av L) (hb : L.length ≤ 1048576) (hn : ∀ f ∈ L, f.note.length ≤ 1048576) (hx : ∀ f ∈ L, ∀ x ∈ f.proof, x.length = 32) (he : EnvH w) (henv : EnvP w) :
    Calls Tryz.prog 4 #[.agg (caseC k av bv p q lv)] w fun e w' => e = .returned (.bool true) ∧ Mv (fun _ => False) w w' := by
  have HE := Lib.hid he
  have HENV := Lib.hid henv
  have HA := Lib.hid hA
  have HB := Lib.hid hb
  have HN := Lib.hid hn
  have HX := Lib.hid hx
  have HOKS : Hid (∀ f ∈ L, f.Ok ∧ f.Small ∧ ∀ x ∈ f.proof, x.length = 32) := Lib.hid fun f hf => by
    obtain ⟨a, c, _, _, h3⟩ := hA
    obtain ⟨j, hj⟩ := List.mem_iff_getElem?.1 hf
    obtain ⟨g, off, _, hfi⟩ := h3 j f hj
    exact ⟨hfi.1, hfi.2.1, hx f hf⟩
  obtain ⟨aa, ac, hav, _, _⟩ := hA
  obtain ⟨cc, hcc⟩ : ∃ x, x = caseC k av bv p q lv := ⟨_, rfl⟩
  rw [← hcc]
  have HCC := Lib.hid hcc
  obtain ⟨E, hE⟩ : ∃ E, E = followE k L := ⟨_, rfl⟩
  have HFE := Lib.hid hE
  clear hb hn hx he henv hcc hE hav
  go_enter Tryz.func4, Tryz.ntmps4
  go_upto_region 1 with fail
  obtain ⟨C, hC⟩ : ∃ C, C = w.heap.size := ⟨_, rfl⟩
  have h1 : (w.alloc (.cells cc 25)).heap[C]? = some (.cells cc 25 (0, 0)) := by rw [hC]; exact heap_alloc_new _ _
  have m1 : Mv (fun _ => False) w (w.alloc (.cells cc 25)) := (Mv.refl _ _).alloc _
  rw [← hC]
  generalize w.alloc (.cells cc 25) = w1 at h1 m1 ⊢
  have C1 := Lib.hid h1
  have M1 := Lib.hid m1
  have HRC : Hid (∀ W : World, W.heap[C]? = some (.cells cc 25 (0, 0)) → W.cell? ⟨C, 0, none⟩ = some (.int .i64 k) ∧ W.cell? ⟨C, 1, none⟩ = some av ∧ W.cell? ⟨C, 3, none⟩ = some (.string p) ∧ W.cell? ⟨C, 4, none⟩ = some (.string q)) := Lib.hid fun W hW => by
    rw [HCC.out] at hW
    exact ⟨cell_of_heap hW 0 rfl, cell_of_heap hW 1 rfl, cell_of_heap hW 3 rfl, cell_of_heap hW 4 rfl⟩
  obtain ⟨k0, k1, k2, k3⟩ := HRC.out _ h1
  clear hC h1 m1
  go_upto_region 3 with (first
    | (go_at_call 17; refine (lawStart_any k w1 (HE.out.mv M1.out (fun _ h => h.elim)) (HENV.out.mv M1.out)).mono ?_; rintro e w2 ⟨rfl, hm2⟩; have M2 := Lib.hid (M1.out.trans hm2); have C2 := Lib.hid ((hm2.block _ (lt_of_heap C1.out) id).trans C1.out); clear hm2))
  clear k0 k1 k2 k3
  obtain ⟨k0, k1, k2, k3⟩ := HRC.out _ C2.out
  go_upto_region 4 with (first
    | (go_at_call 18; refine (facts_any av L w2 (HA.out.mv M2.out) HB.out HN.out).mono ?_; rintro e w3 ⟨fv, ps, rfl, hown, hm3⟩; have M3 := Lib.hid (M2.out.trans hm3); have C3 := Lib.hid ((hm3.block _ (lt_of_heap C2.out) id).trans C2.out); have F3 := Lib.hid (hown.in HOKS.out); clear hm3 hown))
  clear k0 k1 k2 k3
  obtain ⟨k0, k1, k2, k3⟩ := HRC.out _ C3.out
  obtain ⟨fa, fcap, hfv, hfc, _⟩ := F3.out
  subst hfv
  obtain ⟨n, hnn⟩ : ∃ n, n = L.length := ⟨_, rfl⟩
  rw [← hnn] at hfc ⊢
  have HNN := Lib.hid hnn
  have F3n : Hid (FactsIn w3 (.slice fa n fcap) L) := Lib.hid (by rw [hnn]; exact F3.out)
  clear hnn F3
  go_upto_if 27 with (first
    | (go_at_call 19; have hch := check_any2 k (.slice fa n fcap) L w3 F3n.out (HE.out.mv M3.out (fun _ h => h.elim)) (HENV.out.mv M3.out); rw [← HFE.out] at hch; refine hch.mono ?_; rintro e w4 ⟨rfl, hm4⟩; have M4 := Lib.hid (M3.out.trans hm4); have C4 := Lib.hid ((hm4.block _ (lt_of_heap C3.out) id).trans C3.out); have F4 := Lib.hid (F3n.out.mv hm4); clear hch hm4))
  clear k0 k1 k2 k3
  obtain ⟨k0, k1, k2, k3⟩ := HRC.out _ C4.out
  by_cases hE0 : E = 0
  · subst hE0
    obtain ⟨hle, hfp, hfe0, hfh0⟩ := follow_good k L HFE.out.symm
    have HFP := Lib.hid hfp
    have HFE0 := Lib.hid hfe0
    have HFH0 := Lib.hid hfh0
    have hn1024 : n ≤ 1024 := by rw [HNN.out]; exact hle
    have hnb : ¬ ((1024 : Int) < n) := by omega
    obtain ⟨ec, hec⟩ : ∃ x, x = ((emptyP k).map byteV).toArray := ⟨_, rfl⟩
    have hecz : ec.size = 32 := by rw [hec]; simp [emptyP_length]
    have HEC := Lib.hid hec
    have hbj := build_joined (.string ⟨#[]⟩) (.int .i64 0) ec hecz
    obtain ⟨hv, hhv⟩ : ∃ x, x = (headE k).V.toArray := ⟨_, rfl⟩
    have hhv2 : hv = #[.string ⟨#[]⟩, .int .i64 0] ++ ec := by rw [hhv, headE_build, hec]
    rw [← hhv2] at hbj
    have HHV := Lib.hid hhv
    have HIV : Hid ((Tryz.prog.info? 36).map (·.size) = some hv.size) := Lib.hid (by rw [hhv, List.size_toArray, HeadP.V_len _ (emptyP_length k)]; exact info36)
    have HVZ : Hid (34 = hv.size) := Lib.hid (by rw [hhv, List.size_toArray, HeadP.V_len _ (emptyP_length k)])
    have HVO : Hid (hv.all (·.oneCell') = true) := Lib.hid (by rw [hhv]; exact head_one _)
    clear hec hhv hhv2 hle hfp hfe0 hfh0
    go_upto_region 11 with (first
      | (go_at_call 22; have hem := emptyHash_any k w4 (HE.out.mv M4.out (fun _ h => h.elim)); rw [show hashV (emptyP k) = .agg ec by rw [HEC.out]; rfl] at hem; refine hem.mono ?_; rintro e w5 ⟨rfl, hm5⟩; have M5 := Lib.hid (M4.out.trans hm5); have C5 := Lib.hid ((hm5.block _ (lt_of_heap C4.out) id).trans C4.out); have F5 := Lib.hid (F4.out.mv hm5); clear hem hm5)
      | (refine wpList_store_row rfl 36 (.tmp 8) _ rfl w5.heap.size hv rfl rfl 36 _ (heap_alloc_new _ _) HIV.out HVZ.out HVO.out ?_))
    obtain ⟨H, hH⟩ : ∃ H, H = w5.heap.size := ⟨_, rfl⟩
    have HHW : Hid (H = w5.heap.size ∧ C < H) := Lib.hid ⟨hH, by rw [hH]; exact lt_of_heap C5.out⟩
    have HW : Hid (∀ Z : Array Value, ((w5.alloc (.cells Z 36)).setRow w5.heap.size hv).heap[H]? = some (.cells hv 36 (0, 0)) ∧ ((w5.alloc (.cells Z 36)).setRow w5.heap.size hv).heap[C]? = some (.cells cc 25 (0, 0)) ∧ Mv (fun _ => False) w5 ((w5.alloc (.cells Z 36)).setRow w5.heap.size hv)) := Lib.hid fun Z =>
      ⟨by rw [hH]; exact setRow_heap _ _ _ _ _ _ (heap_alloc_new _ _), (setRow_other _ _ _ _ (by have := lt_of_heap C5.out; omega)).trans ((Below.heap_alloc _ _ _ (lt_of_heap C5.out)).trans C5.out), ((Mv.refl _ _).alloc _).setRow (.inr (Nat.le_refl _)) _⟩
    rw [← hH]
    generalize hW : World.setRow _ _ _ = w6
    obtain ⟨h6, c6, m6⟩ := HW.out _
    rw [← hH, hW] at h6
    rw [← hH, hW] at c6 m6
    have H6 := Lib.hid h6
    have C6 := Lib.hid c6
    have M6 := Lib.hid m6
    clear hW hH h6 c6 m6 HW k0 k1 k2 k3 hbj
    go_wp2_with fail
    go_loopw [9, 10] (fun s9 i wr => ∃ (j : Nat) (h : HeadP) (b : Bool) (want : Int), j ≤ n ∧ i = .int .i64 j ∧ s9 = .int .i64 want ∧ wr.heap[H]? = some (.cells h.V.toArray 36 (0, 0)) ∧ h.root.length = 32 ∧ wr.heap[C]? = some (.cells cc 25 (0, 0)) ∧ Mv (fun _ => False) w5 wr ∧
      followP k (L.drop j) h b = some (followH k L) ∧ (j = 0 → h = headE k ∧ b = true) ∧ (j ≠ 0 → b = false) ∧ WantAt p q L j want) (fun _ i _ => n - (intOf i).toNat)
    case atStart => exact ⟨0, headE k, true, -1, by omega, rfl, rfl, by rw [← HHV.out]; exact H6.out, emptyP_length k, C6.out, M6.out, HFP.out, fun _ => ⟨rfl, rfl⟩, fun h => absurd rfl h, .inl ⟨rfl, rfl⟩⟩
    case round =>
      obtain ⟨j, h, b, want, hj, rfl, rfl, hh, hr32, hcr, hmv, hfol, hz, hnz, hwant⟩ := hrel
      have HHJ := Lib.hid hh
      have HR32 := Lib.hid hr32
      have CR := Lib.hid hcr
      have HMV := Lib.hid hmv
      have HFOL := Lib.hid hfol
      have HZ := Lib.hid hz
      have HNZ := Lib.hid hnz
      have HWANT := Lib.hid hwant
      have FR := Lib.hid (F5.out.mv hmv)
      obtain ⟨k0, k1, k2, k3⟩ := HRC.out _ hcr
      clear hh hr32 hcr hmv hfol hz hnz hwant
      by_cases hjn : j < n
      · obtain ⟨f, hf⟩ : ∃ f, L[j]? = some f := ⟨L[j]'(by rw [← HNN.out]; exact hjn), List.getElem?_eq_getElem _⟩
        obtain ⟨g1, off, ha, hok, hsm, pv, nv, hat, hps, hns⟩ := (by
          obtain ⟨a9, c9, he9, _, h9⟩ := F5.out
          simp only [Value.slice.injEq] at he9
          obtain ⟨g, o, e1, h2⟩ := h9 j f hf
          exact ⟨g, o, by rw [he9.1, e1], h2⟩ : ∃ g off, fa = some ⟨g, off, none⟩ ∧ FactIn w5 g (off + j * 75) f)
        have hat := hat.mv HMV.out id
        obtain ⟨pa, pc, hpv⟩ := hps.shape
        obtain ⟨na, nc, hnv⟩ := hns.shape
        subst ha
        have hfold := followP_cons k L j f hf h b
        rw [HFOL.out] at hfold
        have hrt : rightP k f h b = true := by
          cases hr : rightP k f h b with
          | true => rfl
          | false => rw [hr] at hfold; cases hfold
        rw [if_pos hrt] at hfold
        have HFOLD := Lib.hid hfold
        have HRT := Lib.hid hrt
        obtain ⟨fl, hfl⟩ : ∃ x, x = f.cells pv nv := ⟨_, rfl⟩
        obtain ⟨fc, hfc⟩ : ∃ x, x = (f.cells pv nv).toArray := ⟨_, rfl⟩
        have hflc : fl.toArray = fc := by rw [hfl, hfc]
        have hfz : fc.size = 75 := by rw [hfc, List.size_toArray, FactP.cells_len _ _ _ hok]
        have HC : Hid (∀ (t : Nat) u, fl[t]? = some u → wr.cell? ⟨g1, off + j * 75 + t, none⟩ = some u) := Lib.hid fun t u hu => hat t u (by rw [← hfl]; exact hu)
        have HCX : Hid (∀ (o : Obj) (t : Nat) u, fl[t]? = some u → (wr.alloc o).cell? ⟨g1, off + j * 75 + t, none⟩ = some u) := Lib.hid fun o t u hu => (World.cell?_of_block (Below.heap_alloc _ _ _ (World.block_lt_of_cell? _ _ (HC.out t u hu)))).trans (HC.out t u hu)
        have HI75L : Hid ((Tryz.prog.info? 61).map (·.size) = some fl.length) := Lib.hid (by rw [hfl, FactP.cells_len _ _ _ hok]; exact info61)
        have HI75 : Hid ((Tryz.prog.info? 61).map (·.size) = some fc.size) := Lib.hid (by rw [hfz]; exact info61)
        have HZ75 : Hid (75 = fc.size) := Lib.hid hfz.symm
        have HONE : Hid (fc.all (·.oneCell') = true) := Lib.hid (by rw [hfc, hpv, hnv]; exact fact_one f _ _ _ _ _ _)
        have HFLC := Lib.hid hflc
        have HFC := Lib.hid hfc
        have HOK := Lib.hid hok
        have HSM := Lib.hid hsm
        have HPS := Lib.hid hps
        have HF := Lib.hid hf
        have hjc : (j : Int) < n := by omega
        clear hf hok hsm hat hps hns hpv hnv hfold hrt hfl hfc hflc hfz
        go_upto_region 16 with (first
          | (refine wpList_load_cellsAt rfl 61 (.tmp 67) rfl g1 (off + j * 75) rfl fl _ (HCX.out _) Tryz.underlying61 rfl HI75L.out ?_; rw [HFLC.out])
          | (refine wpList_load_cellsAt rfl 61 (.tmp 67) rfl g1 (off + j * 75) rfl fl _ HC.out Tryz.underlying61 rfl HI75L.out ?_; rw [HFLC.out])
          | (refine wpList_store_row rfl 61 (.tmp 11) (.tmp 68) rfl wr.heap.size fc rfl rfl 61 _ (heap_alloc_new _ _) HI75.out HZ75.out HONE.out ?_))
        obtain ⟨X, hX⟩ : ∃ X, X = wr.heap.size := ⟨_, rfl⟩
        have HXN : Hid (X ≠ H ∧ X ≠ C ∧ H ≠ C ∧ w5.heap.size ≤ X ∧ w5.heap.size ≤ H) := Lib.hid (by have := lt_of_heap HHJ.out; have := lt_of_heap CR.out; have := HHW.out; have := HMV.out.size; omega)
        have HW : Hid (∀ Z : Array Value, ((wr.alloc (.cells Z 61)).setRow wr.heap.size fc).heap[X]? = some (.cells fc 61 (0, 0)) ∧ ((wr.alloc (.cells Z 61)).setRow wr.heap.size fc).heap[H]? = some (.cells h.V.toArray 36 (0, 0)) ∧ ((wr.alloc (.cells Z 61)).setRow wr.heap.size fc).heap[C]? = some (.cells cc 25 (0, 0)) ∧ Mv (fun _ => False) w5 ((wr.alloc (.cells Z 61)).setRow wr.heap.size fc)) := Lib.hid fun Z =>
          ⟨by rw [hX]; exact setRow_heap _ _ _ _ _ _ (heap_alloc_new _ _), (setRow_other _ _ _ _ (by have := lt_of_heap HHJ.out; omega)).trans ((Below.heap_alloc _ _ _ (lt_of_heap HHJ.out)).trans HHJ.out), (setRow_other _ _ _ _ (by have := lt_of_heap CR.out; omega)).trans ((Below.heap_alloc _ _ _ (lt_of_heap CR.out)).trans CR.out), (HMV.out.alloc _).setRow (.inr HMV.out.size) _⟩
        rw [← hX]
        generalize hW : World.setRow _ _ _ = w7
        obtain ⟨x7, h7, c7, m7⟩ := HW.out _
        rw [← hX, hW] at x7 h7 c7 m7
        have X7 := Lib.hid x7
        have H7 := Lib.hid h7
        have C7 := Lib.hid c7
        have M7 := Lib.hid m7
        have HRX : Hid (∀ W : World, W.heap[X]? = some (.cells fc 61 (0, 0)) → FactAt W X 0 f pv nv) := Lib.hid fun W hW => FactAt.of_block (by rw [← HFC.out]; exact hW)
        have HRK : Hid (∀ W : World, W.heap[X]? = some (.cells fc 61 (0, 0)) → W.cell? ⟨X, 0, none⟩ = some (.int .i64 f.kind) ∧ W.cell? ⟨X, 1, none⟩ = some (.string f.path) ∧ W.cell? ⟨X, 2, none⟩ = some (.string f.ver) ∧ W.cell? ⟨X, 3, none⟩ = some (.int .i64 f.id) ∧ W.cell? ⟨X, 4, none⟩ = some (.string f.rcd)) := Lib.hid fun W hW => by
          have h := HRX.out W hW
          have e : ∀ (j : Nat) v, (f.cells pv nv)[j]? = some v → W.cell? ⟨X, j, none⟩ = some v := fun j v hj => by have := h j v hj; rw [Nat.zero_add] at this; exact this
          exact ⟨e 0 _ (f.c0 pv nv), e 1 _ (f.c1 pv nv), e 2 _ (f.c2 pv nv), e 3 _ (f.c3 pv nv), e 4 _ (f.c4 pv nv)⟩
        clear hW hX x7 h7 c7 m7 HW k0 k1 k2 k3
        have heg := eqg36
        obtain ⟨fh, hfh⟩ : ∃ x, x = f.head.V := ⟨_, rfl⟩
        obtain ⟨fo, hfo⟩ : ∃ x, x = f.old.V := ⟨_, rfl⟩
        have HFH := Lib.hid hfh
        have HFO := Lib.hid hfo
        have HIFH : Hid ((Tryz.prog.info? 36).map (·.size) = some fh.length) := Lib.hid (by rw [hfh, HeadP.V_len _ HOK.out.h]; exact info36)
        have HIFO : Hid ((Tryz.prog.info? 36).map (·.size) = some fo.length) := Lib.hid (by rw [hfo, HeadP.V_len _ HOK.out.o]; exact info36)
        clear hfh hfo
        by_cases e2 : f.kind = 2
        · obtain ⟨y0, y1, y2, y3, y4⟩ := HRK.out _ X7.out
          rw [e2] at y0
          have hm : movedP k f h b = true := by have := HRT.out; unfold rightP at this; rw [if_neg (by omega), if_pos e2] at this; exact this
          obtain ⟨g, hg⟩ : ∃ g, g = HeadP.behind k f h b := ⟨_, rfl⟩
          have hm2 : (bareP f && f.old.eq g && f.head.o.toList == g.o.toList && decide (g.n < f.head.n) && decide (f.head.n ≤ 281474976710656) && (if g.n = 0 then f.proof.length == 0 else goesP k f.proof f.head g)) = true := by rw [hg]; exact hm
          simp only [Bool.and_eq_true, decide_eq_true_eq] at hm2
          obtain ⟨⟨⟨⟨⟨n1, n2⟩, n3⟩, n4⟩, n5⟩, n6⟩ := hm2
          have hgr : g.root.length = 32 := by rw [hg]; unfold HeadP.behind; split; exact emptyP_length k; exact HR32.out
          have HG := Lib.hid hg
          have HGR := Lib.hid hgr
          have HN2 := Lib.hid n2
          have HN3 := Lib.hid n3
          have HN4 := Lib.hid n4
          have HN6 := Lib.hid n6
          have HE2 := Lib.hid e2
          obtain ⟨_, _, x39, x40, _, _, _, _⟩ := (HRX.out _ X7.out).reads HOK.out
          have zH := free_of_heap H7.out 0
          have cH := cell_of_heap H7.out 0 (show h.V.toArray[0]? = some (.string h.o) from rfl)
          clear hm hg hgr n1 n2 n3 n4 n5 n6 e2
          go_upto_if 74 with fail
          go_cut [] (fun wx => wx.heap[H]? = some (.cells g.V.toArray 36 (0, 0)) ∧ wx.heap[X]? = some (.cells fc 61 (0, 0)) ∧ wx.heap[C]? = some (.cells cc 25 (0, 0)) ∧ Mv (fun _ => False) w5 wx)
          case first =>
            by_cases hj0 : j = 0
            · subst hj0
              obtain ⟨q1, q2⟩ := HZ.out rfl
              go_wp2_with fail
              go_meet
              refine ⟨?_, (heap_setCell_other HXN.out.1 _).trans X7.out, (heap_setCell_other (Ne.symm HXN.out.2.2.1) _).trans C7.out, M7.out.setCell (p := ⟨H, 0, none⟩) (.inr HXN.out.2.2.2.2) _⟩
              rw [heap_setCell_same H7.out, HG.out, q1, q2]
              simp [HeadP.behind, headE, HeadP.V, headV]
            · have q2 := HNZ.out hj0
              have hj1 : ((j : Int) == 0) = false := by simp; omega
              go_wp2_with fail
              go_meet
              have : g = h := by rw [HG.out, q2]; rfl
              rw [this]
              exact ⟨H7.out, X7.out, C7.out, M7.out⟩
          case rest =>
            obtain ⟨h8, x8, c8, m8⟩ := hcut
            have X8 := Lib.hid x8
            have C8 := Lib.hid c8
            have M8 := Lib.hid m8
            obtain ⟨x5, x6, x39, x40, x73, _, l39, l5⟩ := (HRX.out _ x8).reads HOK.out
            obtain ⟨d0, d1, d2⟩ := head_cells h8
            obtain ⟨k0, k1, k2, k3⟩ := HRC.out _ c8
            have hfr := root_cells l39
            obtain ⟨fr, hfr0⟩ : ∃ x, x = f.head.root.map byteV := ⟨_, rfl⟩
            obtain ⟨gr, hgr0⟩ : ∃ x, x = g.root.map byteV := ⟨_, rfl⟩
            rw [← hfr0] at hfr
            rw [← hgr0] at d2
            have HFR : Hid (∀ (t : Nat) u, fr[t]? = some u → wc.cell? ⟨X, 41 + t, none⟩ = some u) := Lib.hid hfr
            have HGC := Lib.hid d2
            have HFR0 := Lib.hid hfr0
            have HGR0 := Lib.hid hgr0
            have HIFR : Hid ((Tryz.prog.info? 34).map (·.size) = some fr.length) := Lib.hid (by rw [hfr0, List.length_map, HOK.out.h]; exact info34)
            have HIGR : Hid ((Tryz.prog.info? 34).map (·.size) = some gr.length) := Lib.hid (by rw [hgr0, List.length_map, HGR.out]; exact info34)
            rw [← HFH.out] at l39
            rw [← HFO.out] at l5
            have HLH := Lib.hid l39
            have HLO := Lib.hid l5
            obtain ⟨gv, hgv⟩ : ∃ x, x = g.V.toArray := ⟨_, rfl⟩
            rw [← hgv] at h8
            have H8 := Lib.hid h8
            have HGV := Lib.hid hgv
            have HIG : Hid ((Tryz.prog.info? 36).map (·.size) = some gv.size) := Lib.hid (by rw [hgv, List.size_toArray, HeadP.V_len _ HGR.out]; exact info36)
            have hneo := head_neq f.old g HOK.out.o HGR.out
            rw [HN2.out, ← HFO.out, ← hgv] at hneo
            have g3 := HN3.out
            have e4 : ¬ (f.head.n ≤ g.n) := by have := HN4.out; omega
            have HIFH2 : Hid ((Tryz.prog.info? 36).map (·.size) = some fh.toArray.size) := Lib.hid (by rw [HFH.out, List.size_toArray, HeadP.V_len _ HOK.out.h]; exact info36)
            have HFHO : Hid (fh.toArray.all (·.oneCell') = true) := Lib.hid (by rw [HFH.out]; exact head_one _)
            have HFHZ : Hid (gv.size = fh.toArray.size) := Lib.hid (by rw [hgv, HFH.out, List.size_toArray, List.size_toArray, HeadP.V_len _ HGR.out, HeadP.V_len _ HOK.out.h])
            have HWS : Hid (WantAt p q L (j + 1) want) := Lib.hid (HWANT.out.skip HF.out (fun _ => by unfold keyB; rw [HE2.out]; rfl))
            have HFS : Hid (followP k (L.drop (j + 1)) f.head false = some (followH k L)) := Lib.hid (by have := HFOLD.out; unfold stepHead stepNone at this; rw [if_pos HE2.out, if_pos HE2.out] at this; exact this.symm)
            clear h8 x8 c8 m8 hfr hfr0 hgr0 d2 l39 l5 hgv x5 x6
            by_cases hg0 : 0 < g.n
            · have ht0 : treeAns k f.head.n g.n f.head.root g.root f.proof = 0 := by
                have := HN6.out
                rw [if_neg (by omega)] at this
                simpa [goesP] using this
              have HT0 := Lib.hid ht0
              clear ht0
              go_wp2_with (((with_reducible refine wpList_load_cellsAt ?_ 36 (.tmp 79) ?_ X 5 ?_ fo _ HLO.out Tryz.underlying36 ?_ HIFO.out ?_); rfl; rfl; rfl; rfl); go_wp2_with (((with_reducible refine wpList_load_row ?_ 36 (.tmp 8) ?_ H ?_ 36 gv (0, 0) _ H8.out Tryz.underlying36 ?_ HIG.out ?_); rfl; rfl; rfl; rfl); go_wp2_with (((with_reducible refine wpList_load_cellsAtG 34 (.tmp 111) ?_ X 41 ?_ fr _ HFR.out Tryz.underlying34 ?_ HIFR.out ?_ ?_); rfl; rfl; rfl; rfl); go_wp2_with (((with_reducible refine wpList_load_cellsAtG 34 (.tmp 115) ?_ H 2 ?_ gr _ HGC.out Tryz.underlying34 ?_ HIGR.out ?_ ?_); rfl; rfl; rfl; rfl); go_wp2_with ((go_at_call 23; have hck := checkTree_any k f.head.n g.n pv f.proof f.head.root g.root wc (HPS.out.mv M8.out (fun _ _ h => h)) HOK.out.h HGR.out (HE.out.mv (M5.out.trans M8.out) (fun _ h => h.elim)); rw [show hashV f.head.root = .agg fr.toArray by rw [HFR0.out]; rfl, show hashV g.root = .agg gr.toArray by rw [HGR0.out]; rfl, HT0.out] at hck; refine hck.mono ?_; rintro e w9 ⟨rfl, hm9⟩; have M9 := Lib.hid (M8.out.trans hm9); have H9 := Lib.hid ((hm9.block _ (lt_of_heap H8.out) id).trans H8.out); have C9 := Lib.hid ((hm9.block _ (lt_of_heap C8.out) id).trans C8.out); have HLH9 : Hid (∀ (t : Nat) u, fh[t]? = some u → w9.cell? ⟨X, 39 + t, none⟩ = some u) := Lib.hid (fun t u hu => (hm9.cell (p := ⟨X, 39 + t, none⟩) (World.block_lt_of_cell? _ _ (HLH.out t u hu)) id).trans (HLH.out t u hu)); clear hck hm9); go_wp2_with (((with_reducible refine wpList_load_cellsAt ?_ 36 (.tmp 120) ?_ X 39 ?_ fh _ HLH9.out Tryz.underlying36 ?_ HIFH.out ?_); rfl; rfl; rfl; rfl); go_wp2_with (((with_reducible refine wpList_store_row ?_ 36 (.tmp 8) (.tmp 121) ?_ H fh.toArray ?_ ?_ 36 gv H9.out HIFH2.out HFHZ.out HFHO.out ?_); rfl; rfl; rfl; rfl); go_wp2_with fail)))))))
              go_roundw
              case rel => exact ⟨j + 1, f.head, false, want, by omega, by go_num, rfl, by rw [← HFH.out]; exact setRow_heap _ _ _ _ _ _ H9.out, HOK.out.h, (setRow_other _ _ _ _ (Ne.symm HXN.out.2.2.1)).trans C9.out, M9.out.setRow (.inr HXN.out.2.2.2.2) _, HFS.out, fun h => by omega, fun _ => rfl, HWS.out⟩
              case measure => simp [intOf]; omega
            · have hg1 : g.n ≤ 0 := by omega
              go_wp2_with (((with_reducible refine wpList_load_cellsAt ?_ 36 (.tmp 79) ?_ X 5 ?_ fo _ HLO.out Tryz.underlying36 ?_ HIFO.out ?_); rfl; rfl; rfl; rfl); go_wp2_with (((with_reducible refine wpList_load_row ?_ 36 (.tmp 8) ?_ H ?_ 36 gv (0, 0) _ H8.out Tryz.underlying36 ?_ HIG.out ?_); rfl; rfl; rfl; rfl); go_wp2_with (((with_reducible refine wpList_load_cellsAt ?_ 36 (.tmp 120) ?_ X 39 ?_ fh _ HLH.out Tryz.underlying36 ?_ HIFH.out ?_); rfl; rfl; rfl; rfl); go_wp2_with (((with_reducible refine wpList_store_row ?_ 36 (.tmp 8) (.tmp 121) ?_ H fh.toArray ?_ ?_ 36 gv H8.out HIFH2.out HFHZ.out HFHO.out ?_); rfl; rfl; rfl; rfl); go_wp2_with fail))))
              go_roundw
              case rel => exact ⟨j + 1, f.head, false, want, by omega, by go_num, rfl, by rw [← HFH.out]; exact setRow_heap _ _ _ _ _ _ H8.out, HOK.out.h, (setRow_other _ _ _ _ (Ne.symm HXN.out.2.2.1)).trans C8.out, M8.out.setRow (.inr HXN.out.2.2.2.2) _, HFS.out, fun h => by omega, fun _ => rfl, HWS.out⟩
              case measure => simp [intOf]; omega
        · by_cases e3 : f.kind = 3
          · obtain ⟨y0, y1, y2, y3, y4⟩ := HRK.out _ X7.out
            rw [e3] at y0
            have hm : agreedP k f h b = true := by have := HRT.out; unfold rightP at this; rw [if_neg (by omega), if_neg (by omega), if_pos e3] at this; exact this
            unfold agreedP at hm
            simp only [Bool.and_eq_true, decide_eq_true_eq] at hm
            obtain ⟨⟨⟨⟨⟨⟨n0, n1⟩, n2⟩, n3⟩, n4⟩, n5⟩, n6⟩ := hm
            have hfe := (HeadP.eq_iff _ _).1 n2
            have hb0 : b = false := by simpa using n0
            have ht0 : treeAns k h.n f.old.n h.root f.old.root f.proof = 0 := by
              rw [hfe] at n6
              simpa [goesP] using n6
            have HT0 := Lib.hid ht0
            have hneh := head_neq f.head h HOK.out.h HR32.out
            rw [n2, ← HFH.out] at hneh
            have HWS : Hid (WantAt p q L (j + 1) want) := Lib.hid (HWANT.out.skip HF.out (fun _ => by unfold keyB; rw [e3]; rfl))
            have HFS : Hid (followP k (L.drop (j + 1)) h b = some (followH k L)) := Lib.hid (by have := HFOLD.out; unfold stepHead stepNone at this; rw [if_neg e2, if_neg e2] at this; exact this.symm)
            have HB0 := Lib.hid hb0
            obtain ⟨x5, x6, _, _, x73, _, l39, l5⟩ := (HRX.out _ X7.out).reads HOK.out
            obtain ⟨d0, d1, d2⟩ := head_cells H7.out
            obtain ⟨k0, k1, k2, k3⟩ := HRC.out _ C7.out
            have hor := root_cells l5
            obtain ⟨orr, hor0⟩ : ∃ x, x = f.old.root.map byteV := ⟨_, rfl⟩
            obtain ⟨hr, hhr0⟩ : ∃ x, x = h.root.map byteV := ⟨_, rfl⟩
            rw [← hor0] at hor
            rw [← hhr0] at d2
            have HOR : Hid (∀ (t : Nat) u, orr[t]? = some u → w7.cell? ⟨X, 7 + t, none⟩ = some u) := Lib.hid hor
            have HHR := Lib.hid d2
            have HOR0 := Lib.hid hor0
            have HHR0 := Lib.hid hhr0
            have HIOR : Hid ((Tryz.prog.info? 34).map (·.size) = some orr.length) := Lib.hid (by rw [hor0, List.length_map, HOK.out.o]; exact info34)
            have HIHR : Hid ((Tryz.prog.info? 34).map (·.size) = some hr.length) := Lib.hid (by rw [hhr0, List.length_map, HR32.out]; exact info34)
            rw [← HFH.out] at l39
            have HLH := Lib.hid l39
            obtain ⟨hv7, hhv7⟩ : ∃ x, x = h.V.toArray := ⟨_, rfl⟩
            rw [← hhv7] at hneh
            have H8 : Hid (w7.heap[H]? = some (.cells hv7 36 (0, 0))) := Lib.hid (by rw [hhv7]; exact H7.out)
            have HHV7 := Lib.hid hhv7
            have HIG : Hid ((Tryz.prog.info? 36).map (·.size) = some hv7.size) := Lib.hid (by rw [hhv7, List.size_toArray, HeadP.V_len _ HR32.out]; exact info36)
            have e4 : ¬ (f.old.n < 1) := by omega
            have e5 : ¬ (h.n ≤ f.old.n) := by omega
            clear n0 n1 n2 n3 n4 n5 n6 hfe hb0 ht0 l39 l5 hor d2 hor0 hhr0 hhv7 e2 e3 x5
            go_wp2_with (((with_reducible refine wpList_load_cellsAt ?_ 36 (.tmp 124) ?_ X 39 ?_ fh _ HLH.out Tryz.underlying36 ?_ HIFH.out ?_); rfl; rfl; rfl; rfl); go_wp2_with (((with_reducible refine wpList_load_row ?_ 36 (.tmp 8) ?_ H ?_ 36 hv7 (0, 0) _ H8.out Tryz.underlying36 ?_ HIG.out ?_); rfl; rfl; rfl; rfl); go_wp2_with (((with_reducible refine wpList_load_cellsAtG 34 (.tmp 149) ?_ H 2 ?_ hr _ HHR.out Tryz.underlying34 ?_ HIHR.out ?_ ?_); rfl; rfl; rfl; rfl); go_wp2_with (((with_reducible refine wpList_load_cellsAtG 34 (.tmp 155) ?_ X 7 ?_ orr _ HOR.out Tryz.underlying34 ?_ HIOR.out ?_ ?_); rfl; rfl; rfl; rfl); go_wp2_with ((go_at_call 23; have hck := checkTree_any k h.n f.old.n pv f.proof h.root f.old.root w7 (HPS.out.mv M7.out (fun _ _ h => h)) HR32.out HOK.out.o (HE.out.mv (M5.out.trans M7.out) (fun _ h => h.elim)); rw [show hashV h.root = .agg hr.toArray by rw [HHR0.out]; rfl, show hashV f.old.root = .agg orr.toArray by rw [HOR0.out]; rfl, HT0.out] at hck; refine hck.mono ?_; rintro e w9 ⟨rfl, hm9⟩; have M9 := Lib.hid (M7.out.trans hm9); have H9 := Lib.hid ((hm9.block _ (lt_of_heap H8.out) id).trans H8.out); have C9 := Lib.hid ((hm9.block _ (lt_of_heap C7.out) id).trans C7.out); clear hck hm9); go_wp2_with fail)))))
            go_roundw
            case rel => exact ⟨j + 1, h, b, want, by omega, by go_num, rfl, by rw [← HHV7.out]; exact H9.out, HR32.out, C9.out, M9.out, HFS.out, fun h => by omega, fun _ => HB0.out, HWS.out⟩
            case measure => simp [intOf]; omega
          · by_cases e1 : f.kind = 1
            · obtain ⟨y0, y1, y2, y3, y4⟩ := HRK.out _ X7.out
              rw [e1] at y0
              have hm : acceptedP k f h b = true := by have := HRT.out; unfold rightP at this; rw [if_pos e1] at this; exact this
              unfold acceptedP at hm
              simp only [Bool.and_eq_true] at hm
              obtain ⟨⟨⟨⟨⟨n0, n1⟩, n2⟩, n3⟩, n4⟩, n5⟩ := hm
              have hb0 : b = false := by simpa using n0
              have hneh := head_neq f.head h HOK.out.h HR32.out
              rw [n1, ← HFH.out] at hneh
              have N4 := Lib.hid n4
              have N5 := Lib.hid n5
              have HB0 := Lib.hid hb0
              have E1 := Lib.hid e1
              have HFS : Hid (followP k (L.drop (j + 1)) h b = some (followH k L)) := Lib.hid (by have := HFOLD.out; unfold stepHead stepNone at this; rw [if_neg e2, if_neg e2] at this; exact this.symm)
              obtain ⟨_, _, _, _, x73, _, l39, _⟩ := (HRX.out _ X7.out).reads HOK.out
              obtain ⟨k0, k1, k2, k3⟩ := HRC.out _ C7.out
              rw [← HFH.out] at l39
              have HLH := Lib.hid l39
              obtain ⟨hv7, hhv7⟩ : ∃ x, x = h.V.toArray := ⟨_, rfl⟩
              rw [← hhv7] at hneh
              have H8 : Hid (w7.heap[H]? = some (.cells hv7 36 (0, 0))) := Lib.hid (by rw [hhv7]; exact H7.out)
              have HHV7 := Lib.hid hhv7
              have HIG : Hid ((Tryz.prog.info? 36).map (·.size) = some hv7.size) := Lib.hid (by rw [hhv7, List.size_toArray, HeadP.V_len _ HR32.out]; exact info36)
              clear n0 n1 n2 n3 n4 n5 hb0 l39 hhv7 e2 e1
              go_upto_region 32 with (first
                | ((with_reducible refine wpList_load_cellsAt ?_ 36 (.tmp 162) ?_ X 39 ?_ fh _ HLH.out Tryz.underlying36 ?_ HIFH.out ?_); rfl; rfl; rfl; rfl)
                | ((with_reducible refine wpList_load_row ?_ 36 (.tmp 8) ?_ H ?_ 36 hv7 (0, 0) _ H8.out Tryz.underlying36 ?_ HIG.out ?_); rfl; rfl; rfl; rfl)
                | ((with_reducible refine wpList_load_rowG 36 (.tmp 8) ?_ H ?_ 36 hv7 (0, 0) _ HR8.out Tryz.underlying36 ?_ HIG.out ?_ ?_); rfl; rfl; rfl; rfl)
                | ((with_reducible refine wpList_load_row ?_ 36 (.tmp 8) ?_ H ?_ 36 hv7 (0, 0) _ HR8.out Tryz.underlying36 ?_ HIG.out ?_); rfl; rfl; rfl; rfl)
                | (go_at_call 24; have hck := of24_any f.rcd f.path f.ver w7 (HENV.out.mv (M5.out.trans M7.out)) HSM.out.r; rw [N4.out] at hck; refine hck.mono ?_; rintro e w8 ⟨rfl, hb8⟩; have hm8 := Mv.of_below hb8; have M8 := Lib.hid (M7.out.trans hm8); have HR8 := Lib.hid ((hm8.block _ (lt_of_heap H8.out) id).trans H8.out); have C8 := Lib.hid ((hm8.block _ (lt_of_heap C7.out) id).trans C7.out); have X8 := Lib.hid ((hm8.block _ (lt_of_heap X7.out) id).trans X7.out); clear hck hm8 hb8 y0 y1 y2 y3 y4 x73 k0 k1 k2 k3; obtain ⟨y0, y1, y2, y3, y4⟩ := HRK.out _ X8.out; obtain ⟨k0, k1, k2, k3⟩ := HRC.out _ C8.out; obtain ⟨_, _, _, _, x73, _, _, _⟩ := (HRX.out _ X8.out).reads HOK.out)
                | (go_at_call 25; have hck := within_any k pv f.proof h.o h.n h.root f.id f.rcd w8 (HPS.out.mv M8.out (fun _ _ h => h)) HR32.out (Nat.le_trans HSM.out.p (by decide)) (Nat.le_trans HSM.out.r (by decide)) (HE.out.mv (M5.out.trans M8.out) (fun _ h => h.elim)); rw [show headV h.o h.n h.root = h.V from rfl, ← HHV7.out, N5.out] at hck; refine hck.mono ?_; rintro e w9 ⟨rfl, hm9⟩; have M9 := Lib.hid (M8.out.trans hm9); have H9 := Lib.hid ((hm9.block _ (lt_of_heap HR8.out) id).trans HR8.out); have C9 := Lib.hid ((hm9.block _ (lt_of_heap C8.out) id).trans C8.out); have X9 := Lib.hid ((hm9.block _ (lt_of_heap X8.out) id).trans X8.out); clear hck hm9))
              clear k0 k1 k2 k3 y0 y1 y2 y3 y4 x73 hneh
              obtain ⟨y0, y1, y2, y3, y4⟩ := HRK.out _ X9.out
              obtain ⟨k0, k1, k2, k3⟩ := HRC.out _ C9.out
              obtain ⟨b1, hb1⟩ : ∃ b, b = (f.path.toList == p.toList) := ⟨_, rfl⟩
              obtain ⟨b2, hb2⟩ : ∃ b, b = (f.ver.toList == q.toList) := ⟨_, rfl⟩
              have hkey : keyB p q f = (b1 && b2) := by unfold keyB; rw [E1.out, ← hb1, ← hb2]; simp
              have HK := Lib.hid hkey
              have g1 := hb1.symm
              have g2 := hb2.symm
              clear hkey hb1 hb2
              by_cases hw : want < 0
              · have HWN := Lib.hid hw
                cases b1 <;> cases b2
                case true.true =>
                  go_wp2_with fail
                  go_roundw
                  case rel => exact ⟨j + 1, h, b, j, by omega, by go_num, rfl, by rw [← HHV7.out]; exact H9.out, HR32.out, C9.out, M9.out, HFS.out, fun h => by omega, fun _ => HB0.out, HWANT.out.hit HF.out HWN.out HK.out⟩
                  case measure => simp [intOf]; omega
                all_goals
                  go_wp2_with fail
                  go_roundw
                  case rel => exact ⟨j + 1, h, b, want, by omega, by go_num, rfl, by rw [← HHV7.out]; exact H9.out, HR32.out, C9.out, M9.out, HFS.out, fun h => by omega, fun _ => HB0.out, HWANT.out.skip HF.out (fun _ => HK.out)⟩
                  case measure => simp [intOf]; omega
              · have HWN := Lib.hid hw
                go_wp2_with fail
                go_roundw
                case rel => exact ⟨j + 1, h, b, want, by omega, by go_num, rfl, by rw [← HHV7.out]; exact H9.out, HR32.out, C9.out, M9.out, HFS.out, fun h => by omega, fun _ => HB0.out, HWANT.out.skip HF.out (fun hh => absurd hh HWN.out)⟩
                case measure => simp [intOf]; omega
            · exfalso
              have := HRT.out
              unfold rightP at this
              rw [if_neg e1, if_neg e2, if_neg e3] at this
              cases this
      · have hjn2 : j = n := by omega
        subst hjn2
        have hh0 : h = followH k L := by
          have := HFOL.out
          rw [List.drop_of_length_le (by rw [HNN.out]; exact Nat.le_refl _)] at this
          exact Option.some.inj this
        have HH0 := Lib.hid hh0
        obtain ⟨fe, hfe⟩ : ∃ x, x = findE k L p q := ⟨_, rfl⟩
        have HFI := Lib.hid hfe
        obtain ⟨hv7, hhv7⟩ : ∃ x, x = h.V.toArray := ⟨_, rfl⟩
        have HR : Hid (wr.heap[H]? = some (.cells hv7 36 (0, 0))) := Lib.hid (by rw [hhv7]; exact HHJ.out)
        have HHV7 := Lib.hid hhv7
        have HIG : Hid ((Tryz.prog.info? 36).map (·.size) = some hv7.size) := Lib.hid (by rw [hhv7, List.size_toArray, HeadP.V_len _ HR32.out]; exact info36)
        have HGZ : Hid (34 = hv7.size) := Lib.hid (by rw [hhv7, List.size_toArray, HeadP.V_len _ HR32.out])
        have HGO : Hid (hv7.all (·.oneCell') = true) := Lib.hid (by rw [hhv7]; exact head_one _)
        have heg := eqg36
        have heq := head_eql h h HR32.out HR32.out
        rw [(HeadP.eq_iff _ _).2 rfl] at heq
        have HEQ := Lib.hid heq
        clear hh0 hfe hhv7 hj heq
        go_upto_region 35 with (first
          | (go_at_call 20; have hfi := final_any k (.slice fa j fcap) L wr FR.out (HE.out.mv (M5.out.trans HMV.out) (fun _ h => h.elim)) (HENV.out.mv (M5.out.trans HMV.out)); rw [HFE0.out, HFH0.out, ← HH0.out, ← HHV7.out] at hfi; refine hfi.mono ?_; rintro e w7 ⟨rfl, hm7⟩; have M7 := Lib.hid (HMV.out.trans hm7); have C7 := Lib.hid ((hm7.block _ (lt_of_heap CR.out) id).trans CR.out); have H7 := Lib.hid ((hm7.block _ (lt_of_heap HR.out) id).trans HR.out); clear hfi hm7)
          | (refine wpList_store_row rfl 36 (.tmp 12) _ rfl w7.heap.size hv7 rfl rfl 36 _ (heap_alloc_new _ _) HIG.out HGZ.out HGO.out ?_))
        obtain ⟨T, hT⟩ : ∃ T, T = w7.heap.size := ⟨_, rfl⟩
        have HW : Hid (∀ Z : Array Value, ((w7.alloc (.cells Z 36)).setRow w7.heap.size hv7).heap[T]? = some (.cells hv7 36 (0, 0)) ∧ ((w7.alloc (.cells Z 36)).setRow w7.heap.size hv7).heap[H]? = some (.cells hv7 36 (0, 0)) ∧ ((w7.alloc (.cells Z 36)).setRow w7.heap.size hv7).heap[C]? = some (.cells cc 25 (0, 0)) ∧ Mv (fun _ => False) w5 ((w7.alloc (.cells Z 36)).setRow w7.heap.size hv7)) := Lib.hid fun Z =>
          ⟨by rw [hT]; exact setRow_heap _ _ _ _ _ _ (heap_alloc_new _ _), (setRow_other _ _ _ _ (by have := lt_of_heap H7.out; omega)).trans ((Below.heap_alloc _ _ _ (lt_of_heap H7.out)).trans H7.out), (setRow_other _ _ _ _ (by have := lt_of_heap C7.out; omega)).trans ((Below.heap_alloc _ _ _ (lt_of_heap C7.out)).trans C7.out), (M7.out.alloc _).setRow (.inr M7.out.size) _⟩
        rw [← hT]
        generalize hW : World.setRow _ _ _ = w8
        obtain ⟨t8, h8, c8, m8⟩ := HW.out _
        rw [← hT, hW] at t8 h8 c8 m8
        have T8 := Lib.hid t8
        have H8 := Lib.hid h8
        have C8 := Lib.hid c8
        have M8 := Lib.hid m8
        have F8 := Lib.hid (F5.out.mv m8)
        clear hW hT t8 h8 c8 m8 HW k0 k1 k2 k3
        obtain ⟨k0, k1, k2, k3⟩ := HRC.out _ C8.out
        go_upto_region 36 with (first
          | (go_at_call 21; have hfi := find_any k (.slice fa j fcap) L p q w8 F8.out HB.out HN.out (HE.out.mv (M5.out.trans M8.out) (fun _ h => h.elim)) (HENV.out.mv (M5.out.trans M8.out)); rw [← HFI.out] at hfi; refine hfi.mono ?_; rintro e w9 ⟨fcs, rfl, hfound, hm9⟩; have M9 := Lib.hid (M8.out.trans hm9); have FZ : Hid ((Tryz.prog.info? 61).map (·.size) = some fcs.size) := Lib.hid (by rw [hfound.1]; exact info61); have FZ2 : Hid (75 = fcs.size) := Lib.hid hfound.1.symm; have FO := Lib.hid hfound.2.1; have FND := Lib.hid hfound.2.2.2; have H9 := Lib.hid ((hm9.block _ (lt_of_heap H8.out) id).trans H8.out); have T9 := Lib.hid ((hm9.block _ (lt_of_heap T8.out) id).trans T8.out); clear hfi hfound hm9)
          | (refine wpList_store_row rfl 61 (.tmp 14) _ rfl w9.heap.size fcs rfl rfl 61 _ (heap_alloc_new _ _) FZ.out FZ2.out FO.out ?_))
        obtain ⟨G, hG⟩ : ∃ G, G = w9.heap.size := ⟨_, rfl⟩
        have HW : Hid (∀ Z : Array Value, ((w9.alloc (.cells Z 61)).setRow w9.heap.size fcs).heap[G]? = some (.cells fcs 61 (0, 0)) ∧ ((w9.alloc (.cells Z 61)).setRow w9.heap.size fcs).heap[H]? = some (.cells hv7 36 (0, 0)) ∧ ((w9.alloc (.cells Z 61)).setRow w9.heap.size fcs).heap[T]? = some (.cells hv7 36 (0, 0)) ∧ Mv (fun _ => False) w5 ((w9.alloc (.cells Z 61)).setRow w9.heap.size fcs)) := Lib.hid fun Z =>
          ⟨by rw [hG]; exact setRow_heap _ _ _ _ _ _ (heap_alloc_new _ _), (setRow_other _ _ _ _ (by have := lt_of_heap H9.out; omega)).trans ((Below.heap_alloc _ _ _ (lt_of_heap H9.out)).trans H9.out), (setRow_other _ _ _ _ (by have := lt_of_heap T9.out; omega)).trans ((Below.heap_alloc _ _ _ (lt_of_heap T9.out)).trans T9.out), (M9.out.alloc _).setRow (.inr M9.out.size) _⟩
        rw [← hG]
        generalize hW : World.setRow _ _ _ = w10
        obtain ⟨g10, h10, t10, m10⟩ := HW.out _
        rw [← hG, hW] at g10 h10 t10 m10
        have GX := Lib.hid g10
        have HX10 := Lib.hid h10
        have TX := Lib.hid t10
        have MX := Lib.hid m10
        have FX := Lib.hid (F5.out.mv m10)
        clear hW hG g10 h10 t10 m10 HW k0 k1 k2 k3
        have heq := HEQ.out
        rw [← HHV7.out] at heq
        by_cases hw : want < 0
        · have hfi : fe = 121 := by
            rw [HFI.out]
            unfold findE
            rw [if_neg (by rw [← HFE.out]; simp)]
            rcases HWANT.out with ⟨h1, h2⟩ | ⟨h1, _, _⟩
            · rw [h2, List.drop_of_length_le (by rw [HNN.out]; exact Nat.le_refl _)]
              rfl
            · omega
          subst hfi
          go_wp2_with (((with_reducible refine wpList_load_rowG 36 (.tmp 12) ?_ T ?_ 36 hv7 (0, 0) _ TX.out Tryz.underlying36 ?_ HIG.out ?_ ?_); rfl; rfl; rfl; rfl); go_wp2_with (((with_reducible refine wpList_load_rowG 36 (.tmp 8) ?_ H ?_ 36 hv7 (0, 0) _ HX10.out Tryz.underlying36 ?_ HIG.out ?_ ?_); rfl; rfl; rfl; rfl); go_wp2_with fail))
          go_ret
          exact ⟨rfl, M5.out.trans MX.out⟩
        · obtain ⟨h1, h2, h3⟩ : 0 ≤ want ∧ want < j ∧ firstP p q L = want := by
            rcases HWANT.out with ⟨h1, _⟩ | h
            · omega
            · exact h
          have hfi : fe = 0 := by
            rw [HFI.out]
            unfold findE
            rw [if_neg (by rw [← HFE.out]; simp), h3, if_neg hw]
          subst hfi
          obtain ⟨i, f, pv, nv, e1, hf, e2, _, _⟩ := FND.out HFI.out.symm
          have e3 : want = i := by rw [← h3, e1]
          subst e3
          obtain ⟨g1, off, ha, hok, hsm, pv2, nv2, hat, _, _⟩ := (by
            obtain ⟨a9, c9, he9, _, h9⟩ := FX.out
            simp only [Value.slice.injEq] at he9
            obtain ⟨g, o, e1, h2⟩ := h9 i f hf
            exact ⟨g, o, by rw [he9.1, e1], h2⟩ : ∃ g off, fa = some ⟨g, off, none⟩ ∧ FactIn w10 g (off + i * 75) f)
          subst ha
          have hgat : FactAt w10 G 0 f pv nv := FactAt.of_block (by rw [← e2]; exact GX.out)
          obtain ⟨_, _, _, _, _, _, l39, _⟩ := hgat.reads hok
          have y3 : w10.cell? ⟨G, 3, none⟩ = some (.int .i64 f.id) := by have := hgat 3 _ (f.c3 pv nv); rwa [Nat.zero_add] at this
          have y4 : w10.cell? ⟨G, 4, none⟩ = some (.string f.rcd) := by have := hgat 4 _ (f.c4 pv nv); rwa [Nat.zero_add] at this
          have z3 : w10.cell? ⟨g1, off + i * 75 + 3, none⟩ = some (.int .i64 f.id) := hat 3 _ (f.c3 pv2 nv2)
          have z4 : w10.cell? ⟨g1, off + i * 75 + 4, none⟩ = some (.string f.rcd) := hat 4 _ (f.c4 pv2 nv2)
          have m39 : ∀ (t : Nat) u, f.head.V[t]? = some u → w10.cell? ⟨g1, off + i * 75 + 39 + t, none⟩ = some u := fun t u hu => by have := hat (39 + t) u (f.chead pv2 nv2 hok t u hu); rwa [← Nat.add_assoc] at this
          have heqf := head_eql f.head f.head hok.h hok.h
          rw [(HeadP.eq_iff _ _).2 rfl] at heqf
          obtain ⟨fh, hfh⟩ : ∃ x, x = f.head.V := ⟨_, rfl⟩
          rw [← hfh] at l39 m39 heqf
          have L39 := Lib.hid l39
          have M39 := Lib.hid m39
          have HIFH : Hid ((Tryz.prog.info? 36).map (·.size) = some fh.length) := Lib.hid (by rw [hfh, HeadP.V_len _ hok.h]; exact info36)
          have hid : (f.id == f.id) = true := by simp
          have hrc : (f.rcd.toList == f.rcd.toList) = true := by simp
          have hij : (i : Int) < j := h2
          have hi0 : (0 : Int) ≤ i := h1
          clear h1 h2 h3 hf e1 e2 hat hsm hgat l39 m39 hfh hok
          have lT : ∀ n, (loadVar 36 ⟨T, 0, none⟩).run Tryz.prog (w10.drewN n) = .ok (.agg hv7) (w10.drewN n) := fun n => run_loadVar_row (w10.drewN n) T 36 36 hv7 (0, 0) _ TX.out Tryz.underlying36 rfl HIG.out
          have lH : ∀ n, (loadVar 36 ⟨H, 0, none⟩).run Tryz.prog (w10.drewN n) = .ok (.agg hv7) (w10.drewN n) := fun n => run_loadVar_row (w10.drewN n) H 36 36 hv7 (0, 0) _ HX10.out Tryz.underlying36 rfl HIG.out
          have lG : ∀ n, (loadVar 36 ⟨G, 39, none⟩).run Tryz.prog (w10.drewN n) = .ok (.agg fh.toArray) (w10.drewN n) := fun n => run_loadVar_cellsAt (w10.drewN n) G 39 36 fh _ L39.out Tryz.underlying36 rfl HIFH.out
          have lF : ∀ n, (loadVar 36 ⟨g1, off + i * 75 + 39, none⟩).run Tryz.prog (w10.drewN n) = .ok (.agg fh.toArray) (w10.drewN n) := fun n => run_loadVar_cellsAt (w10.drewN n) g1 (off + i * 75 + 39) 36 fh _ M39.out Tryz.underlying36 rfl HIFH.out
          go_upto_region 38 with fail
          refine wp_region_quiet_lit (by kernel_rfl) (by kernel_rfl) ?_
          repeat (first
            | go_big_quiet_step (fail)
            | (go_big_quiet_want; (with_reducible refine quiet_load36 (.tmp 12) ?_ ⟨T, 0, none⟩ ?_ _ lT ?_); rfl; rfl; go_simp; go_big_quiet_on)
            | (go_big_quiet_want; (with_reducible refine quiet_load36 (.tmp 8) ?_ ⟨H, 0, none⟩ ?_ _ lH ?_); rfl; rfl; go_simp; go_big_quiet_on)
            | (go_big_quiet_want; (with_reducible refine quiet_load36 (.tmp 269) ?_ ⟨G, 39, none⟩ ?_ _ lG ?_); rfl; rfl; go_simp; go_big_quiet_on)
            | (go_big_quiet_want; (with_reducible refine quiet_load36 (.tmp 274) ?_ ⟨g1, off + i * 75 + 39, none⟩ ?_ _ lF ?_); rfl; rfl; go_simp; go_big_quiet_on))
          refine wpQuiet_nil ?_
          rintro W ⟨nq, rfl⟩
          go_wp2_with fail
          go_ret
          exact ⟨rfl, (M5.out.trans MX.out).drewN' nq⟩
  · have g0 : (E != 0) = true := by simpa using hE0
    have hfe : finalE k L = 180 := finalE_bad k L (by rw [← HFE.out]; exact hE0)
    have hfi : findE k L p q = 180 := findE_bad k L p q (by rw [← HFE.out]; exact hE0)
    have HFE2 := Lib.hid hfe
    have HFI2 := Lib.hid hfi
    clear hE0 hfe hfi
    have hfl := followH_len k L (fun f hf => (HOKS.out f hf).1)
    obtain ⟨fh, hfh⟩ : ∃ x, x = (finalH k L).V.toArray := ⟨_, rfl⟩
    have hfz : (finalH k L).root.length = 32 := by unfold finalH; split; exact hfl; rfl
    have HIF : Hid ((Tryz.prog.info? 36).map (·.size) = some fh.size) := Lib.hid (by rw [hfh, List.size_toArray, HeadP.V_len _ hfz]; exact info36)
    have HFZ : Hid (34 = fh.size) := Lib.hid (by rw [hfh, List.size_toArray, HeadP.V_len _ hfz])
    have HFO : Hid (fh.all (·.oneCell') = true) := Lib.hid (by rw [hfh]; exact head_one _)
    have HFH := Lib.hid hfh
    clear hfl hfh hfz
    go_upto_region 6 with (first
      | (go_at_call 20; have hfi := final_any k (.slice fa n fcap) L w4 F4.out (HE.out.mv M4.out (fun _ h => h.elim)) (HENV.out.mv M4.out); rw [HFE2.out, ← HFH.out] at hfi; refine hfi.mono ?_; rintro e w5 ⟨rfl, hm5⟩; have M5 := Lib.hid (M4.out.trans hm5); have C5 := Lib.hid ((hm5.block _ (lt_of_heap C4.out) id).trans C4.out); have F5 := Lib.hid (F4.out.mv hm5); clear hfi hm5)
      | (refine wpList_store_row rfl 36 (.tmp 4) _ rfl w5.heap.size fh rfl rfl 36 _ (heap_alloc_new _ _) HIF.out HFZ.out HFO.out ?_))
    have HW : Hid (∀ Z : Array Value, ((w5.alloc (.cells Z 36)).setRow w5.heap.size fh).heap[C]? = some (.cells cc 25 (0, 0)) ∧ Mv (fun _ => False) w5 ((w5.alloc (.cells Z 36)).setRow w5.heap.size fh)) := Lib.hid fun Z =>
      ⟨(setRow_other _ _ _ _ (by have := lt_of_heap C5.out; omega)).trans ((Below.heap_alloc _ _ _ (lt_of_heap C5.out)).trans C5.out), ((Mv.refl _ _).alloc _).setRow (.inr (Nat.le_refl _)) _⟩
    generalize hW : World.setRow _ _ _ = w6
    obtain ⟨c6, m6⟩ := HW.out _
    rw [hW] at c6 m6
    have C6 := Lib.hid c6
    have M6 := Lib.hid (M5.out.trans m6)
    have F6 := Lib.hid (F5.out.mv m6)
    clear hW c6 m6 HW k0 k1 k2 k3
    obtain ⟨k0, k1, k2, k3⟩ := HRC.out _ C6.out
    go_wp2_with (first
      | (go_at_call 21; have hfi := find_any k (.slice fa n fcap) L p q w6 F6.out HB.out HN.out (HE.out.mv M6.out (fun _ h => h.elim)) (HENV.out.mv M6.out); rw [HFI2.out] at hfi; refine hfi.mono ?_; rintro e w7 ⟨fcs, rfl, hfound, hm7⟩; have M7 := Lib.hid (M6.out.trans hm7); have FZ : Hid ((Tryz.prog.info? 61).map (·.size) = some fcs.size) := Lib.hid (by rw [hfound.1]; exact info61); have FZ2 : Hid (75 = fcs.size) := Lib.hid hfound.1.symm; have FO := Lib.hid hfound.2.1; clear hfi hfound hm7)
      | (refine wpList_store_row rfl 61 (.tmp 6) _ rfl w7.heap.size fcs rfl rfl 61 _ (heap_alloc_new _ _) FZ.out FZ2.out FO.out ?_))
    go_ret
    exact ⟨rfl, (M7.out.alloc _).setRow (.inr M7.out.size) _⟩
end Go.Proofs.YtdfdikpklddnhaaGreatDoor
