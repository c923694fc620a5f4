/- New, where it gives no net. -/
import Derived.Test.YtadalodjnbnjkaaPlay11
import Derived.Test.YtadalodjnbnjkaaPlay12
namespace Go.Proofs.Ytadalodjnbnjkaa
open Go.RowKit Go.Conc

theorem New_lanes (w : World) (x : Int) (v : Value) (h : x < 1 ∨ 64 < x) : Calls Try.prog 12 #[.int .i64 x, v] w (RNone w 1) := by
  rcases h with h | h
  · have d1 : decide (x < 1) = true := by simpa using h
    go_enter Try.func12, Try.ntmps12
    go_wp2
    go_ret2
    exact ⟨rfl, Below.refl _ _⟩
  · have d1 : decide (x < 1) = false := by simp; omega
    have d2 : decide (x > 64) = true := by simpa using h
    go_enter Try.func12, Try.ntmps12
    go_wp2
    go_ret2
    exact ⟨rfl, Below.refl _ _⟩
theorem New_long (w : World) (x : Int) (a : Option Addr) (n c : Nat) (h : 1 ≤ x ∧ x ≤ 64) (hn : 65536 < n) : Calls Try.prog 12 #[.int .i64 x, .slice a n c] w (RNone w 2) := by
  obtain ⟨h1, h2⟩ := h
  have d1 : decide (x < 1) = false := by simp; omega
  have d2 : decide (x > 64) = false := by simp; omega
  have d3 : decide ((n : Int) > 65536) = true := by simp; omega
  have d4 : (65536 : Int) < n := by omega
  go_enter Try.func12, Try.ntmps12
  go_wp2
  go_ret2
  exact ⟨rfl, Below.refl _ _⟩

set_option maxRecDepth 100000 in
set_option maxHeartbeats 1600000 in
theorem New_bad (w : World) (nl fb nf fc : Nat) (F : List (Int × Int)) (h1 : 1 ≤ nl) (h2 : nl ≤ 64) (hF : F.length = nf) (hlen : nf ≤ 65536) (hbad : ∃ f ∈ F, ¬ mayF f) (hin : FateIn w fb F) :
    Calls Try.prog 12 #[.int .i64 nl, .slice (some ⟨fb, 0, none⟩) nf fc] w (RNone w 1) := by
  have d1 : decide ((nl : Int) < 1) = false := by simp; omega
  have d2 : decide ((nl : Int) > 64) = false := by simp; omega
  have d3 : decide ((nf : Int) > 65536) = false := by simp; omega
  have b1 : (1 : Int) ≤ nl := by omega
  have b2 : (nl : Int) ≤ 64 := by omega
  have b3 : (nf : Int) ≤ 65536 := by omega
  have HBAD := Lib.hid hbad
  have HIN := Lib.hid hin
  have HF := Lib.hid hF
  clear hbad hin hF
  go_enter Try.func12, Try.ntmps12
  go_wp2_with fail
  go_loopw [20] (fun i wr => ∃ k : Nat, k ≤ nf ∧ i = .int .i64 k ∧ Mv (fun _ => False) w wr ∧ ∀ f ∈ F.take k, mayF f) (fun i _ => nf - (intOf i).toNat)
  case atStart => exact ⟨0, Nat.zero_le _, rfl, Mv.refl _ _, fun f hf => by simp at hf⟩
  case round =>
    obtain ⟨k, hk, rfl, hm, hmay⟩ := hrel
    by_cases hlt : k < nf
    · have hc := (HIN.out.still hm) k (by rw [HF.out]; exact hlt)
      have hl : k < F.length := by rw [HF.out]; exact hlt
      have hget : F.getD k (0, 0) = F[k] := by rw [List.getD_eq_getElem?_getD, List.getElem?_eq_getElem hl]; rfl
      have hsucc : F.take (k + 1) = F.take k ++ [F.getD k (0, 0)] := by rw [List.take_succ_eq_append_getElem hl, hget]
      obtain ⟨⟨fk, fn⟩, hfk⟩ : ∃ f, f = F.getD k (0, 0) := ⟨_, rfl⟩
      rw [← hfk] at hc hsucc
      obtain ⟨c1, c2⟩ := hc
      simp only at c1 c2
      have HM := Lib.hid hm
      have HMAY := Lib.hid hmay
      have HSUCC := Lib.hid hsucc
      clear hm hmay hsucc hget hfk hl
      have hkk : (k : Int) < nf := by omega
      have hbl := World.block_lt_of_cell? wr _ c1
      by_cases hf : mayF (fk, fn)
      · have HMK := Lib.hid hf
        clear hf
        go_wp2_with (go_at_call 30; refine (may_yes fk fn _ HMK.out).mono ?_; rintro e w' ⟨rfl, hb⟩)
        go_roundw
        case rel =>
          refine ⟨k + 1, by omega, by go_num, (HM.out.alloc _).trans (Mv.of_below hb), fun f hf => ?_⟩
          rw [HSUCC.out] at hf
          simp only [List.mem_append, List.mem_singleton] at hf
          rcases hf with hf | rfl
          · exact HMAY.out f hf
          · exact HMK.out
        case measure => simp [intOf]; omega
      · have HMK := Lib.hid hf
        clear hf
        go_wp2_with (go_at_call 30; refine (may_no fk fn _ HMK.out).mono ?_; rintro e w' ⟨rfl, hb⟩)
        go_ret2
        exact ⟨rfl, ((HM.out.alloc _).trans (Mv.of_below hb)).below⟩
    · obtain rfl : k = nf := by omega
      exfalso
      obtain ⟨f, hf, hn⟩ := HBAD.out
      rw [List.take_of_length_le (by rw [HF.out]; omega)] at hmay
      exact hn (hmay f hf)
end Go.Proofs.Ytadalodjnbnjkaa

/- begin: what its rounds do to memory. -/
namespace Go.Proofs.Ytadalodjnbnjkaa
open Go.RowKit Go.Conc

/-- What a net is begun with. -/
structure Arg where
  lanes : Int
  a : Option Addr
  n : Nat
  c : Nat
  F : List (Int × Int)
def Arg.good (x : Arg) : Prop := (1 ≤ x.lanes ∧ x.lanes ≤ 64) ∧ x.n ≤ 65536 ∧ ∀ f ∈ x.F, mayF f
def Arg.err (x : Arg) : Int := if x.lanes < 1 ∨ 64 < x.lanes then 1 else if 65536 < x.n then 2 else 1
/-- Its fates lie in w. -/
def Arg.lies (w : World) (x : Arg) : Prop := FateRow w x.a x.n x.F ∧ x.n * 16 ≤ 140737488351232
theorem Arg.lies.still {w w' : World} {x : Arg} (h : x.lies w) (hb : Below w.heap.size w w') : x.lies w' := ⟨h.1.still hb, h.2⟩

theorem fateIn_of_row {w : World} {base m g cap : Nat} {F T : List (Int × Int)} (h : w.ownsRow base 63 2 (.slice (some ⟨g, 0, none⟩) m cap) m (fateCells (F ++ T))) : FateIn w g F := by
  have hc := h.cells (g := g) rfl
  have e1 : ∀ i, (⟨g, 0, none⟩ : Addr).add i = ⟨g, i, none⟩ := fun i => by unfold Addr.add; split <;> simp_all
  intro j hj
  have hj2 : j < (F ++ T).length := by rw [List.length_append]; omega
  have := fateCells_get (F ++ T) j hj2
  have q1 := hc _ _ this.1
  have q2 := hc _ _ this.2
  rw [e1] at q1 q2
  have e : (F ++ T).getD j (0, 0) = F.getD j (0, 0) := by
    rw [List.getD_eq_getElem?_getD, List.getD_eq_getElem?_getD, List.getElem?_append_left hj]
  rw [e] at q1 q2
  exact ⟨q1, q2⟩
theorem fateRow_of_own {w : World} {base n : Nat} {v : Value} {F : List (Int × Int)} (h : w.ownsRow base 96 2 v n (fateCells F)) (hF : F.length = n) : ∃ a c, v = .slice a n c ∧ FateRow w a n F := by
  rcases h.2 with ⟨rfl, rfl⟩ | ⟨g, cap, cur, rfl, _⟩
  · exact ⟨none, 0, rfl, hF, .inl rfl⟩
  · have hc := h.cells (g := g) rfl
    have e1 : ∀ i, (⟨g, 0, none⟩ : Addr).add i = ⟨g, i, none⟩ := fun i => by unfold Addr.add; split <;> simp_all
    refine ⟨_, cap, rfl, hF, .inr ⟨g, 0, rfl, fun j hj => ?_⟩⟩
    have := fateCells_get F j (by omega)
    have q1 := hc _ _ this.1
    have q2 := hc _ _ this.2
    rw [e1] at q1 q2
    rw [Nat.zero_add]
    exact ⟨q1, q2⟩

/-- New, for an argument of begin. -/
theorem New_good (w : World) (x : Arg) (hF : x.F.length = x.n) (h : x.good) (fb cap : Nat) (hin : FateIn w fb x.F) : Calls Try.prog 12 #[.int .i64 x.lanes, .slice (some ⟨fb, 0, none⟩) x.n cap] w (Newed w x.lanes.toNat x.F) := by
  obtain ⟨⟨h1, h2⟩, h3, h4⟩ := h
  have := New_ok w x.lanes.toNat fb x.n cap x.F (by omega) (by omega) hF h3 h4 hin
  rw [Int.toNat_of_nonneg (by omega)] at this
  exact this
theorem New_none (w : World) (x : Arg) (hF : x.F.length = x.n) (h : ¬ x.good) (fb cap : Nat) (hin : FateIn w fb x.F) : Calls Try.prog 12 #[.int .i64 x.lanes, .slice (some ⟨fb, 0, none⟩) x.n cap] w (RNone w x.err) := by
  unfold Arg.err
  by_cases h1 : x.lanes < 1 ∨ 64 < x.lanes
  · rw [if_pos h1]; exact New_lanes w _ _ h1
  · rw [if_neg h1]
    by_cases h2 : 65536 < x.n
    · rw [if_pos h2]; exact New_long w _ _ _ _ (by omega) h2
    · rw [if_neg h2]
      have hbad : ∃ f ∈ x.F, ¬ mayF f := by
        apply Classical.byContradiction
        intro hn
        refine h ⟨by omega, by omega, fun f hf => ?_⟩
        apply Classical.byContradiction
        intro hm
        exact hn ⟨f, hf, hm⟩
      have := New_bad w x.lanes.toNat fb x.n cap x.F (by omega) (by omega) hF (by omega) hbad hin
      rw [Int.toNat_of_nonneg (by omega)] at this
      exact this
theorem rNew_good (w : World) (x : Arg) (h : x.good) (a : Option Addr) (c : Nat) (hin : FateRow w a x.n x.F) : Calls Try.prog 32 #[.int .i64 x.lanes, .slice a x.n c] w (RNewed w x.lanes.toNat x.F) := by
  obtain ⟨⟨h1, h2⟩, h3, h4⟩ := h
  have := rNew_any w x.lanes.toNat a x.n c x.F (by omega) (by omega) h3 hin
  rw [Int.toNat_of_nonneg (by omega)] at this
  refine this.mono ?_
  rintro e w' (⟨_, h⟩ | ⟨⟨f, hf, hn⟩, _⟩)
  · exact h
  · exact absurd (h4 f hf) hn
theorem rNew_none (w : World) (x : Arg) (h : ¬ x.good) (a : Option Addr) (c : Nat) (hin : FateRow w a x.n x.F) : Calls Try.prog 32 #[.int .i64 x.lanes, .slice a x.n c] w (RNone w x.err) := by
  unfold Arg.err
  by_cases h1 : x.lanes < 1 ∨ 64 < x.lanes
  · rw [if_pos h1]; exact rNew_lanes w _ _ h1
  · rw [if_neg h1]
    by_cases h2 : 65536 < x.n
    · rw [if_pos h2]; exact rNew_long w _ _ _ _ (by omega) h2
    · rw [if_neg h2]
      have := rNew_any w x.lanes.toNat a x.n c x.F (by omega) (by omega) (by omega) hin
      rw [Int.toNat_of_nonneg (by omega)] at this
      refine this.mono ?_
      rintro e w' (⟨hm, _⟩ | ⟨_, h⟩)
      · exact absurd ⟨by omega, by omega, hm⟩ h
      · exact h

/-- The list with its marks. -/
structure Mk (wb : World) (F : List (Int × Int)) (mb j : Nat) (fv gv : Value) (wr : World) : Prop where
  below : Below wb.heap.size wb wr
  row : wr.ownsRow wb.heap.size 63 2 fv (F.length + j) (fateCells (F ++ List.replicate j (77, -77)))
  other : wr.ownsRow wb.heap.size 96 2 gv F.length (fateCells F)
  ne : ∀ b, fv.ownBlock = some b → gv.ownBlock ≠ some b ∧ b ≠ mb
  mark : wr.heap[mb]? = some (.cells #[.int .i64 77, .int .i64 (-77)] 63 (0, 0))
  base : wb.heap.size ≤ mb
theorem Mk.start {wb w1 : World} {F : List (Int × Int)} {fv gv : Value} (h : FtRel wb F F.length F.length fv gv w1) : Mk wb F w1.heap.size 0 fv gv (w1.alloc (.cells #[.int .i64 77, .int .i64 (-77)] 63)) := by
  obtain ⟨h1, h2, h3, h4⟩ := h
  rw [List.take_length] at h2 h3
  refine ⟨h1.alloc h1.size _, by simpa using h2.alloc _, h3.alloc _, fun b hb => ⟨h4 b hb, fun e => ?_⟩, heap_alloc_new _ _, h1.size⟩
  have := (h2.lt b hb).2
  omega
theorem Mk.step {wb wr w3 : World} {F : List (Int × Int)} {mb j gg cap : Nat} {fv gv : Value} {o : Obj} (h : Mk wb F mb j fv gv wr)
    (hgrow : (wr.alloc o).grownBy w3 fv.ownBlock) (hat : fv.ownBlock = some gg ∨ gg = wr.heap.size + 1)
    (hown : w3.ownsRow wb.heap.size 63 2 (.slice (some ⟨gg, 0, none⟩) (F.length + j + 1) cap) (F.length + j + 1) (fateCells (F ++ List.replicate j (77, -77)) ++ [.int .i64 77, .int .i64 (-77)])) :
    Mk wb F mb (j + 1) (.slice (some ⟨gg, 0, none⟩) (F.length + j + 1) cap) gv w3 := by
  have hs := h.below.size
  have hml := lt_of_heap h.mark
  have hold : ∀ b, b < wr.heap.size → fv.ownBlock ≠ some b → w3.heap[b]? = wr.heap[b]? := fun b hb hne => (hgrow.block b (by simp; omega) (Ne.symm hne)).trans (Below.heap_alloc wr o b hb)
  refine ⟨(h.below.alloc hs o).grown hgrow (by simp; omega) (fun b hb => (h.row.lt b hb).1), ?_, ownsRow_keep h.other fun b hb => hold b (h.other.lt b hb).2 (fun e => (h.ne b e).1 hb), fun b hb => ?_, (hold mb hml (fun e => (h.ne mb e).2 rfl)).trans h.mark, h.base⟩
  · have e : F ++ List.replicate (j + 1) ((77 : Int), (-77 : Int)) = (F ++ List.replicate j (77, -77)) ++ [(77, -77)] := by rw [List.replicate_succ', List.append_assoc]
    rw [e, fateCells_snoc]
    exact hown
  · have e : gg = b := by simpa [Value.ownBlock] using hb
    subst e
    rcases hat with hat | hat
    · exact h.ne gg hat
    · exact ⟨fun e => by have := (h.other.lt gg e).2; omega, by omega⟩

def updS (st : Nat → Option Side) (k : Nat) (o : Option Side) : Nat → Option Side := fun i => if i = k then o else st i
theorem updS_same (st : Nat → Option Side) (k : Nat) (o : Option Side) : updS st k o k = o := if_pos rfl
theorem updS_other (st : Nat → Option Side) {k i : Nat} (o : Option Side) (h : i ≠ k) : updS st k o i = st i := if_neg h
/-- What became of argument x. -/
def Entered (x : Arg) (o : Option Side) : Prop := (x.good ∧ ∃ A G, o = some ⟨A, net0 x.lanes.toNat x.F, G, ref0 x.lanes.toNat x.F⟩) ∨ (¬ x.good ∧ o = none)

/-- The play's block is written anew: a net and the document's join. -/
theorem PlaySep.enter {w0 w w' w2 : World} {pb bb k nl : Nat} {st : Nat → Option Side} {A : Ga} {G : Nat} {F : List (Int × Int)} {own : Own} {own' : ROwn} {fb : Nat} (h : PlaySep w0 w pb bb st [] empRes) (hk : k < 2) (hst : st k = none)
    (hm1 : Mv (fun _ => False) w w2) (hm2 : Mv (fun b => b = fb) w2 w') (hfb : w.heap.size ≤ fb)
    (hN : NetIs w2 own A (net0 nl F)) (hR : RefIs w2 own' G (ref0 nl F)) (ho : ∀ b, b < w.heap.size → own b = none) (ho' : ∀ b, b < w.heap.size → own' b = none) (hd : ∀ b, own b = none ∨ own' b = none) (hof : own fb = none) (hof' : own' fb = none) :
    PlaySep w0 (((w'.setCell ⟨pb, k, none⟩ (.pointer (some ⟨A.net, 0, none⟩))).setCell ⟨pb, 2 + k, none⟩ (.pointer (some ⟨G, 0, none⟩))).setCell ⟨pb, 4 + k, none⟩ (.bool true)) pb bb (updS st k (some ⟨A, net0 nl F, G, ref0 nl F⟩)) [] empRes := by
  obtain ⟨Fp, h⟩ := h
  obtain ⟨bown, hB, hBF⟩ := h.hold .book
  obtain ⟨b0, b1, b2, b3, lv, b4, b5, b6, b7⟩ := hB
  have hpl := lt_of_heap b2
  have hbl := lt_of_heap b4
  have hpb : Fp .book pb := (hBF pb).2 (by rw [b1]; simp)
  have hbw := (h.within .book pb hpb).1
  have hpf : pb ≠ fb := by omega
  have hs1 := hm1.size
  have hs2 := hm2.size
  have hpp : w'.heap[pb]? = w.heap[pb]? := (hm2.block pb (by omega) hpf).trans (hm1.block pb hpl id)
  have hbp : bb ≠ pb := fun e => by rw [e, b1] at b3; cases b3
  generalize hW : (((w'.setCell ⟨pb, k, none⟩ (.pointer (some ⟨A.net, 0, none⟩))).setCell ⟨pb, 2 + k, none⟩ (.pointer (some ⟨G, 0, none⟩))).setCell ⟨pb, 4 + k, none⟩ (.bool true)) = W
  have hoth : ∀ b, b ≠ pb → W.heap[b]? = w'.heap[b]? := fun b hb => by
    rw [← hW, heap_setCell_other hb, heap_setCell_other hb, heap_setCell_other hb]
  have hWs : W.heap.size = w'.heap.size := by rw [← hW]; simp
  have hmv : Mv (fun b => b = pb) w' W := by
    rw [← hW]
    exact Mv.setCell (F := fun b => b = pb) (Mv.setCell (F := fun b => b = pb) (Mv.setCell (F := fun b => b = pb) (Mv.refl _ _) (.inl rfl) _) (.inl rfl) _) (.inl rfl) _
  have hall : Mv (fun b => b = pb) w W := by
    refine ((hm1.mono (fun _ _ h => h.elim)).trans' (G := fun b => b = fb) hm2 (fun b hb e => ?_)).trans' hmv (fun b _ e => e)
    omega
  have hown : ∀ b t, own b = some t → W.heap[b]? = w2.heap[b]? := fun b t hb => by
    have hb0 : w.heap.size ≤ b := by
      rcases Nat.lt_or_ge b w.heap.size with h | h
      · rw [ho b h] at hb; cases hb
      · exact h
    rw [hoth b (by omega)]
    exact hm2.block b (hN.1 b t hb) (fun e => by rw [e, hof] at hb; cases hb)
  have hown' : ∀ b t, own' b = some t → W.heap[b]? = w2.heap[b]? := fun b t hb => by
    have hb0 : w.heap.size ≤ b := by
      rcases Nat.lt_or_ge b w.heap.size with h | h
      · rw [ho' b h] at hb; cases hb
      · exact h
    rw [hoth b (by omega)]
    exact hm2.block b (hR.1 b t hb) (fun e => by rw [e, hof'] at hb; cases hb)
  have hnet : NetIs W own A (net0 nl F) := hN.keep (by omega) hown
  have href : RefIs W own' G (ref0 nl F) := hR.keep (hR.1.mono (by omega)) fun b t hb => ⟨hb, hown' b t hb⟩
  have hbig : ∀ b, bown b ≠ none → b ≠ pb → W.heap[b]? = w.heap[b]? := fun b hb hne => by
    rcases hbb : bown b with _ | t
    · exact absurd hbb hb
    · have hlb := b0 b t hbb
      rw [hoth b hne]
      exact (hm2.block b (by omega) (by omega)).trans (hm1.block b hlb id)
  have hpcell : W.heap[pb]? = some (.cells #[pA (updS st k (some ⟨A, net0 nl F, G, ref0 nl F⟩) 0), pA (updS st k (some ⟨A, net0 nl F, G, ref0 nl F⟩) 1), pR (updS st k (some ⟨A, net0 nl F, G, ref0 nl F⟩) 0), pR (updS st k (some ⟨A, net0 nl F, G, ref0 nl F⟩) 1), .bool (updS st k (some ⟨A, net0 nl F, G, ref0 nl F⟩) 0).isSome, .bool (updS st k (some ⟨A, net0 nl F, G, ref0 nl F⟩) 1).isSome, .pointer (some ⟨bb, 0, none⟩)] 40 (0, 0)) := by
    have e0 := hpp.trans b2
    rw [← hW, heap_setCell_same (heap_setCell_same (heap_setCell_same e0 _) _)]
    rcases (show k = 0 ∨ k = 1 by omega) with rfl | rfl
    · rw [updS_same, updS_other _ _ (by omega)]
      simp [pA, pR]
    · rw [updS_same, updS_other _ _ (by omega)]
      simp [pA, pR]
  refine ⟨fun p => match p with
    | .net i => if i = k then fun b => own b ≠ none else Fp (.net i)
    | .ref i => if i = k then fun b => own' b ≠ none else Fp (.ref i)
    | .book => Fp .book
    | .hand => Fp .hand, h.go (fun p => p = .net k ∨ p = .ref k ∨ p = .book) (fun p hp => ?_) (fun p hp => ?_) (hall.mono fun b _ e => ⟨.book, .inr (.inr rfl), by rw [e]; exact hpb⟩) (fun p b hp hb => ?_) (fun p q b hp hq h1 h2 => ?_)⟩
  · cases p with
    | net i =>
      have : i ≠ k := fun e => hp (.inl (by rw [e]))
      simp only [resOf, this, if_false, updS_other _ _ this, and_self]
    | ref i =>
      have : i ≠ k := fun e => hp (.inr (.inl (by rw [e])))
      simp only [resOf, this, if_false, updS_other _ _ this, and_self]
    | book => exact absurd (.inr (.inr rfl)) hp
    | hand => exact ⟨rfl, rfl⟩
  · rcases hp with rfl | rfl | rfl
    · simp only [resOf, updS_same, if_true]
      exact ⟨own, hnet, fun b => Iff.rfl⟩
    · simp only [resOf, updS_same, if_true]
      exact ⟨own', href, fun b => Iff.rfl⟩
    · refine ⟨bown, ⟨fun b t hb => ?_, b1, hpcell, b3, lv, (hbig bb (by rw [b3]; simp) hbp).trans b4, ownsRow_keep b5 (fun b hb => hbig b (by rw [b6 b hb]; simp) (fun e => by have := b6 b hb; rw [e, b1] at this; cases this)), b6, fun x hx => by simp at hx⟩, hBF⟩
      have := b0 b t hb
      omega
  · rcases hp with rfl | rfl | rfl
    · simp only [if_true] at hb
      rcases hob : own b with _ | t
      · exact absurd hob hb
      · have := hN.1 b t hob
        refine ⟨by omega, .inr ?_⟩
        rcases Nat.lt_or_ge b w.heap.size with h | h
        · exact absurd (ho b h) hb
        · exact h
    · simp only [if_true] at hb
      rcases hob : own' b with _ | t
      · exact absurd hob hb
      · have := hR.1 b t hob
        refine ⟨by omega, .inr ?_⟩
        rcases Nat.lt_or_ge b w.heap.size with h | h
        · exact absurd (ho' b h) hb
        · exact h
    · have := (h.within .book b hb).2
      exact ⟨by omega, .inl ⟨.book, .inr (.inr rfl), hb⟩⟩
  · have nb : ∀ b, Fp .book b → own b = none ∧ own' b = none := fun b hb => ⟨ho b (h.within .book b hb).2, ho' b (h.within .book b hb).2⟩
    rcases hp with rfl | rfl | rfl <;> rcases hq with rfl | rfl | rfl <;> simp only [if_true] at h1 h2
    · rfl
    · rcases hd b with e | e
      · exact absurd e h1
      · exact absurd e h2
    · exact absurd (nb b h2).1 h1
    · rcases hd b with e | e
      · exact absurd e h2
      · exact absurd e h1
    · rfl
    · exact absurd (nb b h2).2 h1
    · exact absurd (nb b h1).1 h2
    · exact absurd (nb b h1).2 h2
    · rfl
/-- .. or neither. -/
theorem PlaySep.enterNone {w0 w w' : World} {pb bb k : Nat} {st : Nat → Option Side} {fb : Nat} (h : PlaySep w0 w pb bb st [] empRes) (hk : k < 2) (hst : st k = none)
    (hm2 : Mv (fun b => b = fb) w w') (hfb : w.heap.size ≤ fb) :
    PlaySep w0 (((w'.setCell ⟨pb, k, none⟩ (.pointer none)).setCell ⟨pb, 2 + k, none⟩ (.pointer none)).setCell ⟨pb, 4 + k, none⟩ (.bool false)) pb bb st [] empRes := by
  obtain ⟨Fp, h⟩ := h
  obtain ⟨bown, hB, hBF⟩ := h.hold .book
  obtain ⟨b0, b1, b2, b3, lv, b4, b5, b6, b7⟩ := hB
  have hpl := lt_of_heap b2
  have hpb : Fp .book pb := (hBF pb).2 (by rw [b1]; simp)
  have hs2 := hm2.size
  have hpp : w'.heap[pb]? = w.heap[pb]? := hm2.block pb hpl (by omega)
  have hbp : bb ≠ pb := fun e => by rw [e, b1] at b3; cases b3
  generalize hW : (((w'.setCell ⟨pb, k, none⟩ (.pointer none)).setCell ⟨pb, 2 + k, none⟩ (.pointer none)).setCell ⟨pb, 4 + k, none⟩ (.bool false)) = W
  have hoth : ∀ b, b ≠ pb → W.heap[b]? = w'.heap[b]? := fun b hb => by
    rw [← hW, heap_setCell_other hb, heap_setCell_other hb, heap_setCell_other hb]
  have hmv : Mv (fun b => b = pb) w' W := by
    rw [← hW]
    exact Mv.setCell (F := fun b => b = pb) (Mv.setCell (F := fun b => b = pb) (Mv.setCell (F := fun b => b = pb) (Mv.refl _ _) (.inl rfl) _) (.inl rfl) _) (.inl rfl) _
  have hall : Mv (fun b => b = pb) w W := by
    exact (hm2.mono (G := fun b => b = pb) (fun b hb e => by omega)).trans' hmv (fun b _ e => e)
  have hbig : ∀ b, bown b ≠ none → b ≠ pb → W.heap[b]? = w.heap[b]? := fun b hb hne => by
    rcases hbb : bown b with _ | t
    · exact absurd hbb hb
    · have hlb := b0 b t hbb
      rw [hoth b hne]
      exact hm2.block b hlb (by omega)
  have hpcell : W.heap[pb]? = some (.cells #[pA (st 0), pA (st 1), pR (st 0), pR (st 1), .bool (st 0).isSome, .bool (st 1).isSome, .pointer (some ⟨bb, 0, none⟩)] 40 (0, 0)) := by
    have e0 := hpp.trans b2
    rw [← hW, heap_setCell_same (heap_setCell_same (heap_setCell_same e0 _) _)]
    rcases (show k = 0 ∨ k = 1 by omega) with rfl | rfl
    · rw [hst]
      simp [pA, pR]
    · rw [hst]
      simp [pA, pR]
  refine ⟨Fp, h.go (fun p => p = .book) (fun p hp => ⟨rfl, rfl⟩) (fun p hp => ?_) (hall.mono fun b _ e => ⟨.book, rfl, by rw [e]; exact hpb⟩) (fun p b hp hb => ?_) (fun p q b hp hq h1 h2 => by rw [hp, hq])⟩
  · subst hp
    refine ⟨bown, ⟨fun b t hb => ?_, b1, hpcell, b3, lv, (hbig bb (by rw [b3]; simp) hbp).trans b4, ownsRow_keep b5 (fun b hb => hbig b (by rw [b6 b hb]; simp) (fun e => by have := b6 b hb; rw [e, b1] at this; cases this)), b6, fun x hx => by simp at hx⟩, hBF⟩
    have := b0 b t hb
    have := hall.size
    omega
  · subst hp
    have := (h.within .book b hb).2
    have := hall.size
    exact ⟨by omega, .inl ⟨.book, rfl, hb⟩⟩
end Go.Proofs.Ytadalodjnbnjkaa
