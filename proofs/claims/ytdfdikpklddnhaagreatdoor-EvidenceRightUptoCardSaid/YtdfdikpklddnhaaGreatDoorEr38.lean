/- The law's facts. Printed by gen/genfct.py. -/
import Derived.Test.YtdfdikpklddnhaaGreatDoorEr37
namespace Go.Proofs.YtdfdikpklddnhaaGreatDoor
open Go.RowKit
set_option linter.unusedSimpArgs false

/-- A fact that came in, with all that it holds; facts that came in. -/
def FactArg (w : World) (g o : Nat) (f : FactP) : Prop := f.Ok ∧ f.Small ∧ ∃ pv nv, FactAt w g o f pv nv ∧ HsArg w pv f.proof ∧ SlArg w nv f.note
theorem FactArg.mv {w w' : World} {g o : Nat} {f : FactP} (h : FactArg w g o f) (hm : Mv (fun _ => False) w w') : FactArg w' g o f := by
  obtain ⟨h1, h2, pv, nv, h3, h4, h5⟩ := h
  exact ⟨h1, h2, pv, nv, h3.mv hm id, h4.mv hm (fun _ _ h => h), h5.mv hm (fun _ _ h => h)⟩
def FactsArg (w : World) (v : Value) (L : List FactP) : Prop :=
  ∃ a c, v = .slice a L.length c ∧ L.length ≤ c ∧ ∀ (j : Nat) f, L[j]? = some f → ∃ g off, a = some ⟨g, off, none⟩ ∧ FactArg w g (off + j * 75) f
theorem FactsArg.mv {w w' : World} {v : Value} {L : List FactP} (h : FactsArg w v L) (hm : Mv (fun _ => False) w w') : FactsArg w' v L := by
  obtain ⟨a, c, h1, h2, h3⟩ := h
  exact ⟨a, c, h1, h2, fun j f hj => by
    obtain ⟨g, off, e, hf⟩ := h3 j f hj
    exact ⟨g, off, e, hf.mv hm⟩⟩
def factsL (L : List FactP) (ps : List (Value × Value)) : List (List Value) := (L.zip ps).map fun x => x.1.cells x.2.1 x.2.2
/-- Facts in memory that the call owns. -/
def FactsOwn (w : World) (B : Nat) (v : Value) (L : List FactP) (ps : List (Value × Value)) : Prop :=
  ps.length = L.length ∧ w.ownsRow B 61 75 v L.length (factsL L ps).flatten ∧ ∀ (j : Nat) f x, L[j]? = some f → ps[j]? = some x → w.ownsRow B 34 32 x.1 f.proof.length (hsV f.proof) ∧ w.ownsRow B 5 1 x.2 f.note.length (f.note.map byteV)
theorem owns_mvT {F : Nat → Prop} {w w' : World} {base : Nat} {e E : TypeId} {sz : Nat} {v : Value} {n : Nat} {xs : List Value} (h : w.ownsRow base e sz v n xs) (hm : Mv F w w') (hF : ∀ b, F b → b < w.heap.size → ∃ C, w.heap[b]? = some (.cells C E (0, 0))) (hE : e ≠ E) : w'.ownsRow base e sz v n xs := by
  refine ⟨h.1, ?_⟩
  rcases h.2 with ⟨rfl, h0⟩ | ⟨g, c, cur, rfl, hb, hg, hr⟩
  · exact .inl ⟨rfl, h0⟩
  · refine .inr ⟨g, c, cur, rfl, hb, (hm.block g (lt_of_heap hg) (fun hf => ?_)).trans hg, hr⟩
    obtain ⟨C, hC⟩ := hF g hf (lt_of_heap hg)
    rw [hC] at hg
    simp at hg
    exact hE hg.2.symm
theorem FactsOwn.mv {w w' : World} {B : Nat} {v : Value} {L : List FactP} {ps : List (Value × Value)} (h : FactsOwn w B v L ps) (hm : Mv (fun _ => False) w w') : FactsOwn w' B v L ps :=
  ⟨h.1, owns_mv h.2.1 hm (fun _ _ _ h => h), fun j f x hf hx => ⟨owns_mv (h.2.2 j f x hf hx).1 hm (fun _ _ _ h => h), owns_mv (h.2.2 j f x hf hx).2 hm (fun _ _ _ h => h)⟩⟩
theorem factsL_len {L : List FactP} {ps : List (Value × Value)} (h : ps.length = L.length) : (factsL L ps).length = L.length := by simp [factsL, h]
theorem factsL_at {L : List FactP} {ps : List (Value × Value)} {j : Nat} {f : FactP} {x : Value × Value} (hf : L[j]? = some f) (hx : ps[j]? = some x) : (factsL L ps)[j]? = some (f.cells x.1 x.2) := by
  unfold factsL
  rw [List.getElem?_map, (List.getElem?_zip_eq_some (z := (f, x))).2 ⟨hf, hx⟩]
  rfl
theorem factsL_lens {L : List FactP} {ps : List (Value × Value)} (h : ∀ f ∈ L, f.Ok) : ∀ y ∈ factsL L ps, y.length = 75 := fun y hy => by
  obtain ⟨x, hx, rfl⟩ := List.mem_map.1 hy
  exact FactP.cells_len _ _ _ (h _ (List.of_mem_zip hx).1)
theorem FactsOwn.in {w : World} {B : Nat} {v : Value} {L : List FactP} {ps : List (Value × Value)} (h : FactsOwn w B v L ps) (hok : ∀ f ∈ L, f.Ok ∧ f.Small ∧ ∀ x ∈ f.proof, x.length = 32) : FactsIn w v L := by
  obtain ⟨h1, h2, h3⟩ := h
  obtain ⟨a, c, rfl⟩ := owns_shape h2
  have hc : L.length ≤ c := by
    rcases h2.2 with ⟨he, h0⟩ | ⟨g, cap, cur, he, _, _, hc, _⟩
    · rw [h0]; exact Nat.zero_le _
    · simp only [Value.slice.injEq] at he; rw [he.2.2]; exact hc
  refine ⟨a, c, rfl, hc, fun j f hf => ?_⟩
  have hjl := (List.getElem?_eq_some_iff.1 hf).1
  obtain ⟨x, hx⟩ : ∃ x, ps[j]? = some x := ⟨ps[j]'(by omega), List.getElem?_eq_getElem _⟩
  have hne : factsL L ps ≠ [] := by intro e; have := factsL_len h1; rw [e] at this; simp at this; omega
  have hl := factsL_lens (ps := ps) (fun f hf => (hok f hf).1)
  obtain ⟨g, cap, hv, hb, _, hrow⟩ := owns_rowG (factsL L ps) hl (by rw [factsL_len h1]; exact h2) hne
  simp only [Value.slice.injEq] at hv
  have hr := hrow.range j (by rw [factsL_len h1]; exact hjl)
  have hgd : (factsL L ps).getD j [] = f.cells x.1 x.2 := by rw [List.getD_eq_getElem?_getD, factsL_at hf hx]; rfl
  rw [hgd] at hr
  obtain ⟨o1, o2⟩ := h3 j f x hf hx
  obtain ⟨k1, k2, k3⟩ := hok f (List.mem_of_getElem? hf)
  exact ⟨g, 0, hv.1, k1, k2, x.1, x.2, fun t u hu => by rw [Nat.zero_add]; exact hr t u hu, HsIn.of_owns k3 o1, SlIn.of_owns o2⟩
theorem run_slice54 (cs : Array Value) (w : World) (h : cs.size = 75) : (Instr.buildSlice 54 1 #[(0, .agg cs)]).run Tryz.prog w = .ok (.slice (some ⟨w.heap.size, 0, none⟩) 1 1) (w.alloc (.cells cs 61)) := by
  have hb := fun Z hz => build_all Z cs hz
  simp only [h] at hb
  go_simp
theorem wp_slice54 {o : Oper} {a : Act} {w : World} {K : Act → World → Prop} {Q : Exit → Act → World → Prop} (x : Operand) (ho : o.op = .buildSlice 54 1 #[(0, x)]) (cs : Array Value) (hx : a.eval x = .agg cs) (hz : cs.size = 75)
    (h : K (a.put o.dst (.slice (some ⟨w.heap.size, 0, none⟩) 1 1)) (w.alloc (.cells cs 61))) : o.wp Tryz.prog a w K Q := by
  unfold Oper.wp execOp
  simp only [ho, List.map_toArray, List.map_cons, List.map_nil, hx, Sem.run_bind, run_slice54 cs w hz, Result.andThen_ok]
  exact h
theorem Tryz.info61f : (Tryz.prog.info? 61).map (fun i => (i.zero, i.size, i.bytes)) = some (some (.agg z75), 75, 224) := by kernel_rfl
theorem info110 : (Tryz.prog.info? 110).map (·.size) = some 75 := by kernel_rfl
set_option maxRecDepth 100000 in
set_option maxHeartbeats 3200000 in
theorem facts_any (v : Value) (L : List FactP) (w : World) (hL : FactsArg w v L) (hb : L.length ≤ 1048576) (hn : ∀ f ∈ L, f.note.length ≤ 1048576) :
    Calls Tryz.prog 18 #[v] w fun e w' => ∃ v' ps, e = .returned v' ∧ FactsOwn w' w.heap.size v' L ps ∧ Mv (fun _ => False) w w' := by
  obtain ⟨i0, hi0, hz0, hz1, hz2⟩ := info_parts Tryz.info61f
  obtain ⟨a, c, hv, hLc, hLj⟩ := hL
  subst hv
  obtain ⟨n, hnn⟩ : ∃ n, n = L.length := ⟨_, rfl⟩
  rw [← hnn] at hLc hb ⊢
  have HN := Lib.hid hnn
  have HLJ := Lib.hid hLj
  have HNOTE := Lib.hid hn
  clear hnn hLj hn
  go_enter Tryz.func18, Tryz.ntmps18
  go_wp2_with fail
  go_loopw [3, 4] (fun s3 i wr => ∃ (j : Nat) (ps : List (Value × Value)), j ≤ n ∧ i = .int .i64 j ∧ FactsOwn wr w.heap.size s3 (L.take j) ps ∧ Mv (fun _ => False) w wr) (fun _ i _ => n - (intOf i).toNat)
  case atStart => exact ⟨0, [], by omega, rfl, ⟨by simp, World.ownsRow_nil _ _ _ _, fun j f x hf => by simp at hf⟩, Mv.refl _ _⟩
  case round =>
    obtain ⟨j, ps, hj, rfl, hown, hmv⟩ := hrel
    have hpl := hown.1
    rw [List.length_take] at hpl
    have hoj := hown.2.1
    have hlt : (L.take j).length = j := by rw [List.length_take, ← HN.out]; omega
    rw [hlt] at hoj
    obtain ⟨sa, sc, hsh⟩ := owns_shape hoj
    subst hsh
    have HOJ := Lib.hid hoj
    have HOWN := Lib.hid hown
    have HMV := Lib.hid hmv
    have HPL : Hid (ps.length = j) := Lib.hid (by rw [hpl, ← HN.out]; omega)
    have hws := hmv.size
    clear hown hmv hoj hpl hlt
    by_cases hjn : j < n
    · obtain ⟨f, hf⟩ : ∃ f, L[j]? = some f := ⟨L[j]'(by rw [← HN.out]; exact hjn), List.getElem?_eq_getElem _⟩
      obtain ⟨g, off, ha, hfin⟩ := HLJ.out j f hf
      obtain ⟨hok, hsm, pv, nv, hat, hps, hns⟩ := hfin.mv HMV.out
      obtain ⟨pa, pc, hpv⟩ := hps.shape
      obtain ⟨na, nc, hnv⟩ := hns.shape
      subst ha
      obtain ⟨fl, hfl⟩ : ∃ x, x = f.cells pv nv := ⟨_, rfl⟩
      obtain ⟨fc, hfc⟩ : ∃ x, x = (f.cells pv nv).toArray := ⟨_, rfl⟩
      have hflc : fl.toArray = fc := by rw [hfl, hfc]
      have hfz : fc.size = 75 := by rw [hfc, List.size_toArray, FactP.cells_len _ _ _ hok]
      have HC : Hid (∀ (t : Nat) u, fl[t]? = some u → wr.cell? ⟨g, off + j * 75 + t, none⟩ = some u) := Lib.hid fun t u hu => hat t u (by rw [← hfl]; exact hu)
      have HCX : Hid (∀ (o : Obj) (t : Nat) u, fl[t]? = some u → (wr.alloc o).cell? ⟨g, off + j * 75 + t, none⟩ = some u) := Lib.hid fun o t u hu => (World.cell?_of_block (Below.heap_alloc _ _ _ (World.block_lt_of_cell? _ _ (HC.out t u hu)))).trans (HC.out t u hu)
      have HI75L : Hid ((Tryz.prog.info? 110).map (·.size) = some fl.length) := Lib.hid (by rw [hfl, FactP.cells_len _ _ _ hok]; exact info110)
      have HI75 : Hid ((Tryz.prog.info? 110).map (·.size) = some fc.size) := Lib.hid (by rw [hfz]; exact info110)
      have HZ75 : Hid (75 = fc.size) := Lib.hid hfz.symm
      have HONE : Hid (fc.all (·.oneCell') = true) := Lib.hid (by rw [hfc, hpv, hnv]; exact fact_one f _ _ _ _ _ _)
      have HFLC := Lib.hid hflc
      have HFC := Lib.hid hfc
      have HPS := Lib.hid hps
      have HNS := Lib.hid hns
      have HOK := Lib.hid hok
      have HSM := Lib.hid hsm
      have HF := Lib.hid hf
      have HNL : Hid (f.note.length ≤ 1048576) := Lib.hid (HNOTE.out f (List.mem_of_getElem? hf))
      have hjc : (j : Int) < n := by omega
      clear hf hfin hok hsm hat hps hns hpv hnv hfl hfc hflc hfz
      go_upto_region 6 with (first
        | (refine wpList_load_cellsAt rfl 110 (.tmp 14) rfl g (off + j * 75) rfl fl _ (HCX.out _) Tryz.underlying110 rfl HI75L.out ?_; rw [HFLC.out])
        | (refine wpList_load_cellsAt rfl 110 (.tmp 14) rfl g (off + j * 75) rfl fl _ HC.out Tryz.underlying110 rfl HI75L.out ?_; rw [HFLC.out])
        | (refine wpList_store_row rfl 110 (.tmp 5) (.tmp 15) rfl wr.heap.size fc rfl rfl 110 _ (heap_alloc_new _ _) HI75.out HZ75.out HONE.out ?_))
      obtain ⟨X, hX⟩ : ∃ X, X = wr.heap.size := ⟨_, rfl⟩
      have HW : Hid (∀ Z : Array Value, ((wr.alloc (.cells Z 110)).setRow wr.heap.size fc).heap[X]? = some (.cells fc 110 (0, 0)) ∧ Mv (fun _ => False) wr ((wr.alloc (.cells Z 110)).setRow wr.heap.size fc)) := Lib.hid fun Z =>
        ⟨by rw [hX]; exact setRow_heap _ _ _ _ _ _ (heap_alloc_new _ _), ((Mv.refl _ _).alloc _).setRow (.inr (Nat.le_refl _)) _⟩
      rw [← hX]
      generalize hW : World.setRow _ _ _ = w5
      obtain ⟨x5, m5⟩ := HW.out _
      rw [← hX, hW] at x5 m5
      have X5 := Lib.hid x5
      have M5 := Lib.hid m5
      have HXX : Hid (X = wr.heap.size) := Lib.hid hX
      have hrd : ∀ W : World, W.heap[X]? = some (.cells fc 110 (0, 0)) → FactAt W X 0 f pv nv := fun W hW => FactAt.of_block (by rw [← HFC.out]; exact hW)
      have HRD := Lib.hid hrd
      obtain ⟨fh, hfh⟩ : ∃ x, x = f.head.V := ⟨_, rfl⟩
      obtain ⟨fo, hfo⟩ : ∃ x, x = f.old.V := ⟨_, rfl⟩
      have HFH := Lib.hid hfh
      have HFO := Lib.hid hfo
      have HIH : Hid ((Tryz.prog.info? 29).map (·.size) = some fh.length) := Lib.hid (by rw [hfh, HeadP.V_len _ HOK.out.h]; exact info29)
      have HIO : Hid ((Tryz.prog.info? 29).map (·.size) = some fo.length) := Lib.hid (by rw [hfo, HeadP.V_len _ HOK.out.o]; exact info29)
      have HRC : Hid (∀ W : World, W.heap[X]? = some (.cells fc 110 (0, 0)) → W.cell? ⟨X, 0, none⟩ = some (.int .i64 f.kind) ∧ W.cell? ⟨X, 1, none⟩ = some (.string f.path) ∧ W.cell? ⟨X, 2, none⟩ = some (.string f.ver) ∧ W.cell? ⟨X, 3, none⟩ = some (.int .i64 f.id) ∧ W.cell? ⟨X, 4, none⟩ = some (.string f.rcd) ∧ W.cell? ⟨X, 73, none⟩ = some pv ∧ W.cell? ⟨X, 74, none⟩ = some nv) := Lib.hid fun W hW => by
        have h := HRD.out W hW
        have e : ∀ (j : Nat) v, (f.cells pv nv)[j]? = some v → W.cell? ⟨X, j, none⟩ = some v := fun j v hj => by have := h j v hj; rw [Nat.zero_add] at this; exact this
        exact ⟨e 0 _ (f.c0 pv nv), e 1 _ (f.c1 pv nv), e 2 _ (f.c2 pv nv), e 3 _ (f.c3 pv nv), e 4 _ (f.c4 pv nv), e 73 _ (f.c73 pv nv HOK.out), e 74 _ (f.c74 pv nv HOK.out)⟩
      clear hW hX x5 m5 HW hrd hfh hfo
      refine wp_region_noPanic ?_
      refine wp_region_held_drew (S := (fun w' => w'.heap[X]? = some (.cells fc 110 (0, 0)))) (by kernel_rfl) (X5.out) (fun hHeld => ?_)
      refine wpAnyH_take (i := 0) (oi := _) (v := .slice sa j sc) rfl (by kernel_rfl) (by kernel_rfl) (by kernel_rfl) (fun _ _ _ h => h) (Or.inl ⟨by rfl, fun _ hS => by go_simp⟩) hHeld ?_
      try simp only [Act.put, List.getElem_toArray, List.getElem_cons_succ, List.getElem_cons_zero, List.setIfInBounds_toArray, List.set_cons_zero, List.set_cons_succ]
      refine wpAnyH_take (i := 1) (oi := _) (v := .pointer (some ⟨X, 0, none⟩)) rfl (by kernel_rfl) (by kernel_rfl) (by kernel_rfl) (fun _ _ _ h => h) (Or.inl ⟨by rfl, fun _ hS => by go_simp⟩) hHeld ?_
      try simp only [Act.put, List.getElem_toArray, List.getElem_cons_succ, List.getElem_cons_zero, List.setIfInBounds_toArray, List.set_cons_zero, List.set_cons_succ]
      refine wpAnyH_take (i := 2) (oi := _) (v := .int .i64 f.kind) rfl (by kernel_rfl) (by kernel_rfl) (by kernel_rfl) (fun _ _ _ h => h) (Or.inl ⟨by rfl, fun _ hS => by obtain ⟨q0, q1, q2, q3, q4, q5, q6⟩ := HRC.out _ hS; go_simp⟩) hHeld ?_
      try simp only [Act.put, List.getElem_toArray, List.getElem_cons_succ, List.getElem_cons_zero, List.setIfInBounds_toArray, List.set_cons_zero, List.set_cons_succ]
      refine wpAnyH_take (i := 3) (oi := _) (v := .pointer (some ⟨X, 1, none⟩)) rfl (by kernel_rfl) (by kernel_rfl) (by kernel_rfl) (fun _ _ _ h => h) (Or.inl ⟨by rfl, fun _ hS => by go_simp⟩) hHeld ?_
      try simp only [Act.put, List.getElem_toArray, List.getElem_cons_succ, List.getElem_cons_zero, List.setIfInBounds_toArray, List.set_cons_zero, List.set_cons_succ]
      refine wpAnyH_take (i := 4) (oi := _) (v := .string f.path) rfl (by kernel_rfl) (by kernel_rfl) (by kernel_rfl) (fun _ _ _ h => h) (Or.inl ⟨by rfl, fun _ hS => by obtain ⟨q0, q1, q2, q3, q4, q5, q6⟩ := HRC.out _ hS; go_simp⟩) hHeld ?_
      try simp only [Act.put, List.getElem_toArray, List.getElem_cons_succ, List.getElem_cons_zero, List.setIfInBounds_toArray, List.set_cons_zero, List.set_cons_succ]
      refine wpAnyH_take (i := 5) (oi := _) (v := .pointer (some ⟨X, 2, none⟩)) rfl (by kernel_rfl) (by kernel_rfl) (by kernel_rfl) (fun _ _ _ h => h) (Or.inl ⟨by rfl, fun _ hS => by go_simp⟩) hHeld ?_
      try simp only [Act.put, List.getElem_toArray, List.getElem_cons_succ, List.getElem_cons_zero, List.setIfInBounds_toArray, List.set_cons_zero, List.set_cons_succ]
      refine wpAnyH_take (i := 6) (oi := _) (v := .string f.ver) rfl (by kernel_rfl) (by kernel_rfl) (by kernel_rfl) (fun _ _ _ h => h) (Or.inl ⟨by rfl, fun _ hS => by obtain ⟨q0, q1, q2, q3, q4, q5, q6⟩ := HRC.out _ hS; go_simp⟩) hHeld ?_
      try simp only [Act.put, List.getElem_toArray, List.getElem_cons_succ, List.getElem_cons_zero, List.setIfInBounds_toArray, List.set_cons_zero, List.set_cons_succ]
      refine wpAnyH_take (i := 7) (oi := _) (v := .pointer (some ⟨X, 3, none⟩)) rfl (by kernel_rfl) (by kernel_rfl) (by kernel_rfl) (fun _ _ _ h => h) (Or.inl ⟨by rfl, fun _ hS => by go_simp⟩) hHeld ?_
      try simp only [Act.put, List.getElem_toArray, List.getElem_cons_succ, List.getElem_cons_zero, List.setIfInBounds_toArray, List.set_cons_zero, List.set_cons_succ]
      refine wpAnyH_take (i := 8) (oi := _) (v := .int .i64 f.id) rfl (by kernel_rfl) (by kernel_rfl) (by kernel_rfl) (fun _ _ _ h => h) (Or.inl ⟨by rfl, fun _ hS => by obtain ⟨q0, q1, q2, q3, q4, q5, q6⟩ := HRC.out _ hS; go_simp⟩) hHeld ?_
      try simp only [Act.put, List.getElem_toArray, List.getElem_cons_succ, List.getElem_cons_zero, List.setIfInBounds_toArray, List.set_cons_zero, List.set_cons_succ]
      refine wpAnyH_take (i := 9) (oi := _) (v := .pointer (some ⟨X, 4, none⟩)) rfl (by kernel_rfl) (by kernel_rfl) (by kernel_rfl) (fun _ _ _ h => h) (Or.inl ⟨by rfl, fun _ hS => by go_simp⟩) hHeld ?_
      try simp only [Act.put, List.getElem_toArray, List.getElem_cons_succ, List.getElem_cons_zero, List.setIfInBounds_toArray, List.set_cons_zero, List.set_cons_succ]
      refine wpAnyH_take (i := 10) (oi := _) (v := .string f.rcd) rfl (by kernel_rfl) (by kernel_rfl) (by kernel_rfl) (fun _ _ _ h => h) (Or.inl ⟨by rfl, fun _ hS => by obtain ⟨q0, q1, q2, q3, q4, q5, q6⟩ := HRC.out _ hS; go_simp⟩) hHeld ?_
      try simp only [Act.put, List.getElem_toArray, List.getElem_cons_succ, List.getElem_cons_zero, List.setIfInBounds_toArray, List.set_cons_zero, List.set_cons_succ]
      refine wpAnyH_take (i := 11) (oi := _) (v := .pointer (some ⟨X, 5, none⟩)) rfl (by kernel_rfl) (by kernel_rfl) (by kernel_rfl) (fun _ _ _ h => h) (Or.inl ⟨by rfl, fun _ hS => by go_simp⟩) hHeld ?_
      try simp only [Act.put, List.getElem_toArray, List.getElem_cons_succ, List.getElem_cons_zero, List.setIfInBounds_toArray, List.set_cons_zero, List.set_cons_succ]
      refine wpAnyH_take (i := 12) (oi := _) (v := .agg fo.toArray) rfl (by kernel_rfl) (by kernel_rfl) (by kernel_rfl) (fun _ _ _ h => h) (yieldsIf_load_mid (by rfl) 29 _ rfl X 5 rfl fo _ (fun _ h => fun j v hj => ((HRD.out _ h).reads HOK.out).2.2.2.2.2.2.2 j v (by rw [← HFO.out]; exact hj)) Tryz.underlying29 rfl HIO.out) hHeld ?_
      try simp only [Act.put, List.getElem_toArray, List.getElem_cons_succ, List.getElem_cons_zero, List.setIfInBounds_toArray, List.set_cons_zero, List.set_cons_succ]
      refine wpAnyH_take (i := 14) (oi := _) (v := .pointer (some ⟨X, 39, none⟩)) rfl (by kernel_rfl) (by kernel_rfl) (by kernel_rfl) (fun _ _ _ h => h) (Or.inl ⟨by rfl, fun _ hS => by go_simp⟩) hHeld ?_
      try simp only [Act.put, List.getElem_toArray, List.getElem_cons_succ, List.getElem_cons_zero, List.setIfInBounds_toArray, List.set_cons_zero, List.set_cons_succ]
      refine wpAnyH_take (i := 15) (oi := _) (v := .agg fh.toArray) rfl (by kernel_rfl) (by kernel_rfl) (by kernel_rfl) (fun _ _ _ h => h) (yieldsIf_load_mid (by rfl) 29 _ rfl X 39 rfl fh _ (fun _ h => fun j v hj => ((HRD.out _ h).reads HOK.out).2.2.2.2.2.2.1 j v (by rw [← HFH.out]; exact hj)) Tryz.underlying29 rfl HIH.out) hHeld ?_
      try simp only [Act.put, List.getElem_toArray, List.getElem_cons_succ, List.getElem_cons_zero, List.setIfInBounds_toArray, List.set_cons_zero, List.set_cons_succ]
      refine wpAnyH_take (i := 17) (oi := _) (v := .pointer (some ⟨X, 73, none⟩)) rfl (by kernel_rfl) (by kernel_rfl) (by kernel_rfl) (fun _ _ _ h => h) (Or.inl ⟨by rfl, fun _ hS => by go_simp⟩) hHeld ?_
      try simp only [Act.put, List.getElem_toArray, List.getElem_cons_succ, List.getElem_cons_zero, List.setIfInBounds_toArray, List.set_cons_zero, List.set_cons_succ]
      refine wpAnyH_take (i := 18) (oi := _) (v := pv) rfl (by kernel_rfl) (by kernel_rfl) (by kernel_rfl) (fun _ _ _ h => h) (Or.inl ⟨by rfl, fun _ hS => by obtain ⟨q0, q1, q2, q3, q4, q5, q6⟩ := HRC.out _ hS; go_simp⟩) hHeld ?_
      try simp only [Act.put, List.getElem_toArray, List.getElem_cons_succ, List.getElem_cons_zero, List.setIfInBounds_toArray, List.set_cons_zero, List.set_cons_succ]
      refine wpAnyH_take (i := 20) (oi := _) (v := .pointer (some ⟨X, 74, none⟩)) rfl (by kernel_rfl) (by kernel_rfl) (by kernel_rfl) (fun _ _ _ h => h) (Or.inl ⟨by rfl, fun _ hS => by go_simp⟩) hHeld ?_
      try simp only [Act.put, List.getElem_toArray, List.getElem_cons_succ, List.getElem_cons_zero, List.setIfInBounds_toArray, List.set_cons_zero, List.set_cons_succ]
      refine wpAnyH_take (i := 21) (oi := _) (v := nv) rfl (by kernel_rfl) (by kernel_rfl) (by kernel_rfl) (fun _ _ _ h => h) (Or.inl ⟨by rfl, fun _ hS => by obtain ⟨q0, q1, q2, q3, q4, q5, q6⟩ := HRC.out _ hS; go_simp⟩) hHeld ?_
      try simp only [Act.put, List.getElem_toArray, List.getElem_cons_succ, List.getElem_cons_zero, List.setIfInBounds_toArray, List.set_cons_zero, List.set_cons_succ]
      refine wpAnyH_one' (i := 13) (o := _) (by kernel_rfl) rfl (fun K' hK => ?_)
      rw [if_pos (by rfl)]
      unfold Oper.wp execOp
      go_simp
      have hh := head45_any f.old w5.drew HOK.out.o
      rw [← HFO.out] at hh
      refine hh.mono ?_
      rintro e w6 ⟨rfl, hmM6⟩
      clear hh
      have M6 := Lib.hid (M5.out.drew.trans hmM6)
      have hsM6 := (hmM6.block X (lt_of_heap hHeld) id).trans hHeld
      clear hmM6
      refine hK.out _ _ hsM6 (fun hHeld => ?_)
      clear hK K'
      try simp only [Act.put, List.getElem_toArray, List.getElem_cons_succ, List.getElem_cons_zero, List.setIfInBounds_toArray, List.set_cons_zero, List.set_cons_succ]
      clear hsM6
      refine wpAnyH_one' (i := 16) (o := _) (by kernel_rfl) rfl (fun K' hK => ?_)
      rw [if_pos (by rfl)]
      unfold Oper.wp execOp
      go_simp
      have hh := head45_any f.head w6 HOK.out.h
      rw [← HFH.out] at hh
      refine hh.mono ?_
      rintro e w7 ⟨rfl, hmM7⟩
      clear hh
      have M7 := Lib.hid (M6.out.trans hmM7)
      have hsM7 := (hmM7.block X (lt_of_heap hHeld) id).trans hHeld
      clear hmM7
      refine hK.out _ _ hsM7 (fun hHeld => ?_)
      clear hK K'
      try simp only [Act.put, List.getElem_toArray, List.getElem_cons_succ, List.getElem_cons_zero, List.setIfInBounds_toArray, List.set_cons_zero, List.set_cons_succ]
      clear hsM7
      refine wpAnyH_one' (i := 19) (o := _) (by kernel_rfl) rfl (fun K' hK => ?_)
      rw [if_pos (by rfl)]
      unfold Oper.wp execOp
      go_simp
      refine (hashes_any pv f.proof w7 (HPS.out.mv M7.out (fun _ _ h => h)) HSM.out.p).mono ?_
      rintro e w8 ⟨pv2, rfl, hop, hmM8⟩
      obtain ⟨a8, c8, hsh8⟩ := owns_shape hop
      subst hsh8
      have OP := Lib.hid hop
      clear hop
      have M8 := Lib.hid (M7.out.trans hmM8)
      have hsM8 := (hmM8.block X (lt_of_heap hHeld) id).trans hHeld
      clear hmM8
      refine hK.out _ _ hsM8 (fun hHeld => ?_)
      clear hK K'
      try simp only [Act.put, List.getElem_toArray, List.getElem_cons_succ, List.getElem_cons_zero, List.setIfInBounds_toArray, List.set_cons_zero, List.set_cons_succ]
      clear hsM8
      refine wpAnyH_one' (i := 22) (o := _) (by kernel_rfl) rfl (fun K' hK => ?_)
      rw [if_pos (by rfl)]
      unfold Oper.wp execOp
      go_simp
      refine (bytes_any nv f.note w8 (HNS.out.mv M8.out (fun _ _ h => h)) (Nat.le_trans HNL.out (by decide))).mono ?_
      rintro e w9 ⟨nv2, rfl, hob, hmM9⟩
      obtain ⟨a9, c9, hsh9⟩ := owns_shape hob
      subst hsh9
      have OB := Lib.hid hob
      have OP9 := Lib.hid (owns_mv OP.out hmM9 (fun _ _ _ h => h))
      clear hob
      have M9 := Lib.hid (M8.out.trans hmM9)
      have hsM9 := (hmM9.block X (lt_of_heap hHeld) id).trans hHeld
      clear hmM9
      refine hK.out _ _ hsM9 (fun hHeld => ?_)
      clear hK K'
      try simp only [Act.put, List.getElem_toArray, List.getElem_cons_succ, List.getElem_cons_zero, List.setIfInBounds_toArray, List.set_cons_zero, List.set_cons_succ]
      clear hsM9
      obtain ⟨ca, hca⟩ : ∃ x, x = (f.cells (.slice a8 f.proof.length c8) (.slice a9 f.note.length c9)).toArray := ⟨_, rfl⟩
      have hcaz : ca.size = 75 := by rw [hca, List.size_toArray, FactP.cells_len _ _ _ HOK.out]
      have hblt := built_fact f a8 a9 f.proof.length f.note.length c8 c9 HOK.out
      rw [← hca, ← HFO.out, ← HFH.out] at hblt
      have HBLT := Lib.hid hblt
      have HCA := Lib.hid hca
      have HCAZ := Lib.hid hcaz
      clear hblt hca hcaz
      refine wpAnyH_take (i := 23) (oi := _) (v := .agg ca) rfl (by kernel_rfl) (by kernel_rfl) (by kernel_rfl) (fun _ _ _ h => h) (yields_build (by rfl) 61 _ rfl ca (by simp only [List.map_toArray, List.map_cons, List.map_nil]; exact HBLT.out)) hHeld ?_
      try simp only [Act.put, List.getElem_toArray, List.getElem_cons_succ, List.getElem_cons_zero, List.setIfInBounds_toArray, List.set_cons_zero, List.set_cons_succ]
      refine wpAnyH_one' (i := 24) (o := _) (by kernel_rfl) rfl (fun K' hK => ?_)
      rw [if_pos (by rfl)]
      refine wp_slice54 (.tmp 39) rfl ca rfl HCAZ.out ?_
      have hm10 : Mv (fun _ => False) w9 (w9.alloc (.cells ca 61)) := (Mv.refl _ _).alloc _
      have hs10 := (hm10.block X (lt_of_heap hHeld) id).trans hHeld
      have HNW : Hid (∀ (t : Nat) u, ca.toList[t]? = some u → (w9.alloc (.cells ca 61)).cell? ((⟨w9.heap.size, 0, none⟩ : Addr).add t) = some u) := Lib.hid fun t u hu => by
        have hj : (w9.alloc (.cells ca 61)).cell? ⟨w9.heap.size, 0 + t, none⟩ = some u := by
          rw [cell_of_row _ _ _ _ _ _ (heap_alloc_new w9 (.cells ca 61)), Nat.zero_add]; simpa using hu
        unfold Addr.add
        split
        · rename_i h0; subst h0; exact hj
        · exact hj
      have M10 := Lib.hid (M9.out.trans hm10)
      have OB10 := Lib.hid (owns_mv OB.out hm10 (fun _ _ _ h => h))
      have OP10 := Lib.hid (owns_mv OP9.out hm10 (fun _ _ _ h => h))
      obtain ⟨B9, hB9⟩ : ∃ b, b = w9.heap.size := ⟨_, rfl⟩
      rw [← hB9] at HNW ⊢
      generalize w9.alloc (.cells ca 61) = w10 at hs10 HNW M10 OB10 OP10 ⊢
      clear hm10 hB9
      refine hK.out _ _ hs10 (fun hHeld => ?_)
      clear hK K'
      try simp only [Act.put, List.getElem_toArray, List.getElem_cons_succ, List.getElem_cons_zero, List.setIfInBounds_toArray, List.set_cons_zero, List.set_cons_succ]
      clear hs10
      refine wpAnyH_one' (i := 25) (o := _) (by kernel_rfl) rfl (fun K' hK => ?_)
      rw [if_pos (by rfl)]
      have OJ10 := Lib.hid (owns_mv HOJ.out M10.out (fun _ _ _ h => h))
      refine wp_append_own _ _ _ 54 rfl w.heap.size 61 i0 (.agg z75) 75 224 Tryz.underlying54 hi0 hz0 hz1 hz2 rfl (by decide) _ _ _ rfl OJ10.out ⟨B9, 0, none⟩ 1 1 ca.toList rfl (by simp [HCAZ.out]) HNW.out (by rw [HCA.out]; intro u hu; exact List.all_eq_true.1 (by have := fact_one f a8 a9 f.proof.length f.note.length c8 c9; rw [List.all_toArray] at this; exact this) u (by simpa using hu)) (by unfold maxLen; omega) (by omega) (by have := M10.out.size; omega) ?_
      intro v11 w11 hown11 hgrow11 hnil11
      have hm11 : Mv (fun b => (Value.slice sa j sc).ownBlock = some b) w10 w11 := (Mv.refl _ _).grown hgrow11 (fun k hk => .inl hk)
      have hblk : ∀ b, (Value.slice sa j sc).ownBlock = some b → b < w10.heap.size → ∃ C, w10.heap[b]? = some (.cells C 61 (0, 0)) := fun b hb _ => by
        rcases OJ10.out.2 with ⟨he, _⟩ | ⟨g3, cap3, cur3, he, _, hg3, _⟩
        · rw [he] at hb; cases hb
        · rw [he] at hb; cases hb; exact ⟨cur3, hg3⟩
      have OB11 := Lib.hid (owns_mvT OB10.out hm11 hblk (by decide))
      have OP11 := Lib.hid (owns_mvT OP10.out hm11 hblk (by decide))
      have M11 : Hid (Mv (fun b => w.heap.size ≤ b) wr w11) := Lib.hid ((M10.out.mono (fun _ _ h => h.elim)).trans' hm11 (fun i hi hb => (OJ10.out.lt i hb).1))
      have HOLD : Hid (∀ (q : Nat) g x, (L.take j)[q]? = some g → ps[q]? = some x → w11.ownsRow w.heap.size 34 32 x.1 g.proof.length (hsV g.proof) ∧ w11.ownsRow w.heap.size 5 1 x.2 g.note.length (g.note.map byteV)) := Lib.hid fun q g x hg hx =>
        ⟨owns_mvT (owns_mv (HOWN.out.2.2 q g x hg hx).1 M10.out (fun _ _ _ h => h)) hm11 hblk (by decide), owns_mvT (owns_mv (HOWN.out.2.2 q g x hg hx).2 M10.out (fun _ _ _ h => h)) hm11 hblk (by decide)⟩
      have O11 := Lib.hid hown11
      have hs11 : w11.heap[X]? = some (.cells fc 110 (0, 0)) := (hm11.block X (lt_of_heap hHeld) (fun hb => by obtain ⟨C, hC⟩ := hblk X hb (lt_of_heap hHeld); rw [hHeld] at hC; simp at hC)).trans hHeld
      clear hown11 hgrow11 hnil11 hm11 hblk
      refine hK.out _ _ hs11 (fun hHeld => ?_)
      clear hK K'
      try simp only [Act.put, List.getElem_toArray, List.getElem_cons_succ, List.getElem_cons_zero, List.setIfInBounds_toArray, List.set_cons_zero, List.set_cons_succ]
      clear hs11
      refine wpAnyH_one' (i := 26) (o := _) (by kernel_rfl) rfl (fun K' hK => ?_)
      rw [if_pos (by rfl)]
      unfold Oper.wp execOp
      go_simp
      refine hK.out _ _ hHeld (fun hHeld => ?_)
      clear hK K'
      try simp only [Act.put, List.getElem_toArray, List.getElem_cons_succ, List.getElem_cons_zero, List.setIfInBounds_toArray, List.set_cons_zero, List.set_cons_succ]
      clear hHeld
      refine wpAnyH_done (by kernel_rfl) ?_ _
      refine NoPanic.normal ?_
      go_wp2_with fail
      go_roundw
      case rel =>
        have hwr := HMV.out.size
        have htk : L.take (j + 1) = L.take j ++ [f] := by
          obtain ⟨h1, h2⟩ := List.getElem?_eq_some_iff.1 HF.out
          rw [List.take_succ_eq_append_getElem h1, h2]
        have hjl : (L.take j).length = j := by rw [List.length_take, ← HN.out]; omega
        refine ⟨j + 1, ps ++ [(.slice a8 f.proof.length c8, .slice a9 f.note.length c9)], by omega, by go_num, ⟨?_, ?_, ?_⟩, HMV.out.trans' M11.out (fun i hi h => by omega)⟩
        · rw [htk]; simp [hjl, HPL.out]
        · have hfl : factsL (L.take j ++ [f]) (ps ++ [(.slice a8 f.proof.length c8, .slice a9 f.note.length c9)]) = factsL (L.take j) ps ++ [f.cells (.slice a8 f.proof.length c8) (.slice a9 f.note.length c9)] := by
            unfold factsL
            rw [List.zip_append (by rw [hjl, HPL.out])]
            simp
          rw [htk, hfl, List.flatten_append]
          have := O11.out
          rw [HCA.out] at this
          simpa [hjl] using this
        · intro q g2 x hg hx
          rw [htk] at hg
          by_cases hq : q < j
          · exact HOLD.out q g2 x (by rw [List.getElem?_append_left (by omega)] at hg; exact hg) (by rw [List.getElem?_append_left (by rw [HPL.out]; exact hq)] at hx; exact hx)
          · rw [List.getElem?_append_right (by omega), hjl] at hg
            rw [List.getElem?_append_right (by rw [HPL.out]; omega), HPL.out] at hx
            have hq0 : q - j = 0 := by
              apply Classical.byContradiction
              intro hc
              rw [List.getElem?_eq_none (by simp; omega)] at hg; cases hg
            rw [hq0] at hg hx
            cases hg
            cases hx
            exact ⟨owns_mono OP11.out (by have := M7.out.size; omega), owns_mono OB11.out (by have := M8.out.size; omega)⟩
      case measure => simp [intOf]; omega
    · have hjn2 : j = n := by omega
      subst hjn2
      go_wp2_with fail
      go_ret
      refine ⟨_, ps, rfl, ?_, HMV.out⟩
      have := HOWN.out
      rw [List.take_of_length_le (by rw [HN.out]; exact Nat.le_refl _)] at this
      exact this
end Go.Proofs.YtdfdikpklddnhaaGreatDoor
