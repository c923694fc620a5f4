/- LaneCloses, as plain data; waits whose answer is known. -/
import Derived.Test.YtadalodjnbnjkaaHold2
namespace Go.Proofs.Ytadalodjnbnjkaa
open Go.RowKit Go.Conc

def WaitM (w : World) (A : Ga) (N' : Nt) (m : List Int) (K : List Nat) (wr : World) (e : Ending) (w' : World) : Prop :=
  ∃ g c, e = .returned (.tuple #[.slice (some ⟨g, 0, none⟩) m.length c, .int .i64 0]) ∧ RowIn w' (some ⟨g, 0, none⟩) m.length m ∧ Holds w A N' (g :: K) w' ∧ Kept w K wr w'
def WaitE (w : World) (A : Ga) (N' : Nt) (er : Int) (K : List Nat) (wr : World) (e : Ending) (w' : World) : Prop :=
  e = .returned (.tuple #[.slice none 0 0, .int .i64 er]) ∧ Holds w A N' K w' ∧ Kept w K wr w'
section
variable {w wr : World} {A : Ga} {N N' : Nt} {K : List Nat}
theorem Holds.waitM (h : Holds w A N K wr) (hf : Fine N) (i t : Nat) (hi : i < N.nl) (ht : t ≤ 65536) {m : List Int} {x : Int} (hm : Nt.waitGo [i] t N = ⟨x, some m, 0, N'⟩) :
    Calls Try.prog 19 #[.pointer (some ⟨A.net, 0, none⟩), .int .i64 i, .int .i64 t] wr (WaitM w A N' m K wr) := by
  have := h.wait hf i t hi ht m (by rw [hm])
  rw [hm] at this
  exact this
theorem Holds.waitE (h : Holds w A N K wr) (hf : Fine N) (i t : Nat) (hi : i < N.nl) (ht : t ≤ 65536) {x er : Int} (hm : Nt.waitGo [i] t N = ⟨x, none, er, N'⟩) :
    Calls Try.prog 19 #[.pointer (some ⟨A.net, 0, none⟩), .int .i64 i, .int .i64 t] wr (WaitE w A N' er K wr) := by
  have := h.waitNone hf i t hi ht (by rw [hm])
  rw [hm] at this
  exact this
end

/-- The states of LaneCloses' net. -/
structure Closes (d : Nat) (l1 l2 : List Int) (N1 N2 N3 N4 N5 N6 N7 N8 : Nt) : Prop where
  f0 : Fit (net0 2 [(3, (d : Int)), (0, 0)])
  n1 : (net0 2 [(3, (d : Int)), (0, 0)]).send 0 l1 = N1
  f1 : Fit N1
  o1 : (N1.lane 0).closed = false
  n2 : N1.send 0 l2 = N2
  o2 : (N2.lane 0).closed = false
  n3 : N2.closed 0 = N3
  o3 : (N3.lane 0).closed = true
  f3 : Fine N3
  n4 : Nt.waitGo [0] 0 N3 = ⟨0, some l2, 0, N4⟩
  f4 : Fine N4
  n5 : Nt.waitGo [0] (d - 1) N4 = ⟨0, none, 190, N5⟩
  f5 : Fine N5
  n6 : Nt.waitGo [0] 1 N5 = ⟨0, some l1, 0, N6⟩
  f6 : Fine N6
  t6 : N6.now = d
  e6 : Nt.waitGo [0] 1000 N6 = ⟨0, none, 191, N6⟩
  g6 : Fit N6
  o6 : (N6.lane 1).closed = false
  n7 : N6.send 1 l1 = N7
  f7 : Fine N7
  n8 : Nt.waitGo [1] 0 N7 = ⟨1, some l1, 0, N8⟩
  f8 : Fine N8
  e8 : Nt.waitGo [0] 5 N8 = ⟨0, none, 191, N8⟩
  t8 : N8.now = d
  k1 : N1.nl = 2
  k2 : N2.nl = 2
  k3 : N3.nl = 2
  k4 : N4.nl = 2
  k5 : N5.nl = 2
  k6 : N6.nl = 2
  k7 : N7.nl = 2
  k8 : N8.nl = 2

theorem closes_plain (d : Nat) (l1 l2 : List Int) (hd : 0 < d) (hd2 : d ≤ 50) (h1 : l1.length ≤ 4096) : ∃ N1 N2 N3 N4 N5 N6 N7 N8, Closes d l1 l2 N1 N2 N3 N4 N5 N6 N7 N8 := by
  have hmay : ∀ f ∈ [((3 : Int), (d : Int)), (0, 0)], mayF f := by
    intro f hf; simp at hf; rcases hf with rfl | rfl <;> unfold mayF <;> simp <;> omega
  have T0 := Two.start [((3 : Int), (d : Int)), (0, 0)]
  have T1 := T0.delay0 l1 hd rfl
  have T2 := T1.deliver0 l2 (k := 0) rfl
  have T3 := T2.close0
  have T4 := T3.pop0
  have T5 := T4.at (d - 1)
  have sane : ∀ s t L0 L1 late, s < 100 → t < 100 → late = [] ∨ late = [⟨0 + d, 0, l1⟩] → L0.coming = cnt 0 late → L1.coming = cnt 1 late → Sane [((3 : Int), (d : Int)), (0, 0)] s t L0 L1 late := by
    intro s t L0 L1 late hs ht hl c0 c1
    refine ⟨hmay, by omega, by omega, ?_, ?_, c0, c1⟩
    · rcases hl with rfl | rfl <;> simp
    · rcases hl with rfl | rfl
      · intro x hx; simp at hx
      · intro x hx; simp at hx; subst hx; simp; omega
  have w3 : Nt.waitGo [0] 0 (((((net0 2 [(3, (d : Int)), (0, 0)]).send 0 l1).send 0 l2).closed 0)) = ⟨0, some l2, 0, ((((net0 2 [(3, (d : Int)), (0, 0)]).send 0 l1).send 0 l2).closed 0).popped 0⟩ :=
    waitGo_has (ms := []) (by rw [T3.l0]; rfl)
  have q4 : Nt.waitGo [0] (d - 1) (((((net0 2 [(3, (d : Int)), (0, 0)]).send 0 l1).send 0 l2).closed 0).popped 0) = ⟨0, none, 190, (((((net0 2 [(3, (d : Int)), (0, 0)]).send 0 l1).send 0 l2).closed 0).popped 0).at (d - 1)⟩ := by
    have := waitGo_out (N := ((((net0 2 [(3, (d : Int)), (0, 0)]).send 0 l1).send 0 l2).closed 0).popped 0) (ls := [0]) (d - 1) (fstO_empty (by rw [T4.l0]; rfl)) (allB_open (by rw [T4.l0]; rfl)) (by rw [T4.later, T4.now]; intro x hx; simp at hx; subst hx; simp; omega)
    rw [this, T4.now, Nat.zero_add]
  have T6 : Two ((((((net0 2 [(3, (d : Int)), (0, 0)]).send 0 l1).send 0 l2).closed 0).popped 0).at (d - 1)).tick _ _ _ _ _ _ := Two.tick0 T5 (by omega)
  have q5 : Nt.waitGo [0] 1 ((((((net0 2 [(3, (d : Int)), (0, 0)]).send 0 l1).send 0 l2).closed 0).popped 0).at (d - 1)) = ⟨0, some l1, 0, ((((((net0 2 [(3, (d : Int)), (0, 0)]).send 0 l1).send 0 l2).closed 0).popped 0).at (d - 1)).tick.popped 0⟩ := by
    rw [waitGo_succ (fstO_empty (by rw [T5.l0]; rfl)) (allB_open (by rw [T5.l0]; rfl))]
    exact waitGo_has (ms := []) (by rw [T6.l0]; rfl)
  have T6' := T6.pop0
  have T7 := T6'.deliver1 l1 (k := 0) rfl
  have T8 := T7.pop1
  refine ⟨((net0 2 [(3, (d : Int)), (0, 0)]).send 0 l1), (((net0 2 [(3, (d : Int)), (0, 0)]).send 0 l1).send 0 l2), ((((net0 2 [(3, (d : Int)), (0, 0)]).send 0 l1).send 0 l2).closed 0), (((((net0 2 [(3, (d : Int)), (0, 0)]).send 0 l1).send 0 l2).closed 0).popped 0), ((((((net0 2 [(3, (d : Int)), (0, 0)]).send 0 l1).send 0 l2).closed 0).popped 0).at (d - 1)), (((((((net0 2 [(3, (d : Int)), (0, 0)]).send 0 l1).send 0 l2).closed 0).popped 0).at (d - 1)).tick.popped 0), ((((((((net0 2 [(3, (d : Int)), (0, 0)]).send 0 l1).send 0 l2).closed 0).popped 0).at (d - 1)).tick.popped 0).send 1 l1), (((((((((net0 2 [(3, (d : Int)), (0, 0)]).send 0 l1).send 0 l2).closed 0).popped 0).at (d - 1)).tick.popped 0).send 1 l1).popped 1), ?_⟩
  refine { f0 := T0.fit (sane _ _ _ _ _ (by omega) (by omega) (.inl rfl) rfl rfl), n1 := rfl, f1 := T1.fit (sane _ _ _ _ _ (by omega) (by omega) (.inr rfl) rfl rfl), o1 := by rw [T1.l0]; rfl, n2 := rfl, o2 := by rw [T2.l0]; rfl, n3 := rfl, o3 := by rw [T3.l0], f3 := T3.fine (sane _ _ _ _ _ (by omega) (by omega) (.inr rfl) rfl rfl), n4 := w3, f4 := T4.fine (sane _ _ _ _ _ (by omega) (by omega) (.inr rfl) rfl rfl), n5 := q4, f5 := T5.fine (sane _ _ _ _ _ (by omega) (by omega) (.inr rfl) rfl rfl), n6 := q5, f6 := T6'.fine (sane _ _ _ _ _ (by omega) (by omega) (.inl rfl) rfl rfl), t6 := by rw [T6'.now]; omega, e6 := waitGo_end (by rw [T6'.l0]; rfl) (by rw [T6'.l0]; rfl), g6 := T6'.fit (sane _ _ _ _ _ (by omega) (by omega) (.inl rfl) rfl rfl), o6 := by rw [T6'.l1]; rfl, n7 := rfl, f7 := T7.fine (sane _ _ _ _ _ (by omega) (by omega) (.inl rfl) rfl rfl), n8 := waitGo_has (ms := []) (by rw [T7.l1]; rfl), f8 := T8.fine (sane _ _ _ _ _ (by omega) (by omega) (.inl rfl) rfl rfl), e8 := waitGo_end (by rw [T8.l0]; rfl) (by rw [T8.l0]; rfl), t8 := by rw [T8.now]; omega, k1 := T1.nl, k2 := T2.nl, k3 := T3.nl, k4 := T4.nl, k5 := T5.nl, k6 := T6'.nl, k7 := T7.nl, k8 := T8.nl }
end Go.Proofs.Ytadalodjnbnjkaa
