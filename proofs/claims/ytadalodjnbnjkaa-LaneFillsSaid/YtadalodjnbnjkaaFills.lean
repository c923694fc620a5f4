/- LaneFills: the state of the net, as plain data. -/
import Derived.Test.YtadalodjnbnjkaaLaw0
namespace Go.Proofs.Ytadalodjnbnjkaa
open Go.RowKit Go.Conc

/-- A net of two lanes without fates on which nothing is late. -/
structure Fill (N : Nt) (s : Nat) (b0 b1 : List (List Int)) : Prop where
  nl : N.nl = 2
  fates : N.fates = []
  now : N.now = 0
  later : N.later = []
  l0 : N.lane 0 = ⟨b0, false, 0⟩
  l1 : N.lane 1 = ⟨b1, false, 0⟩
  sent : N.sent = s

theorem Fill.start : Fill (net0 2 []) 0 [] [] := ⟨rfl, rfl, rfl, rfl, rfl, rfl, rfl⟩
theorem Fill.okn {N : Nt} {s : Nat} {b0 b1 : List (List Int)} (h : Fill N s b0 b1) : Okn N where
  fates := by rw [h.fates]; intro f hf; simp at hf
  later := by rw [h.later]; intro x hx; simp at hx
  coming := fun i hi => by
    rw [h.later, cnt_nil]
    rw [h.nl] at hi
    rcases i with _ | _ | i
    · rw [h.l0]
    · show (N.lane 1).coming = 0; rw [h.l1]
    · omega
theorem Fill.fine {N : Nt} {s : Nat} {b0 b1 : List (List Int)} (h : Fill N s b0 b1) : Fine N :=
  ⟨h.okn, by rw [h.now]; omega, by rw [h.later]; simp, by rw [h.later]; intro x hx; simp at hx⟩
theorem Fill.fit {N : Nt} {s : Nat} {b0 b1 : List (List Int)} (h : Fill N s b0 b1) (hs : s < 100000) : Fit N :=
  ⟨h.okn.fates, by rw [h.sent]; omega, by rw [h.now]; omega, by rw [h.later]; simp, fun i hi => by rw [h.okn.coming i hi]; exact cnt_le _ _⟩
theorem Fill.send {N : Nt} {s : Nat} {b0 b1 : List (List Int)} (h : Fill N s b0 b1) (i : Nat) (m : List Int) : N.send i m = N.took.pushed i m := by
  have : N.fateOf = (0, 0) := by unfold Nt.fateOf; rw [h.fates]; rfl
  unfold Nt.send
  rw [this]
  simp [Nt.fated]
theorem Fill.send0 {N : Nt} {s : Nat} {b0 b1 : List (List Int)} (h : Fill N s b0 b1) (m : List Int) : Fill (N.send 0 m) (s + 1) (if b0.length < 64 then b0 ++ [m] else b0) b1 := by
  rw [h.send]
  refine ⟨h.nl, h.fates, h.now, h.later, ?_, ?_, by show N.sent + 1 = _; rw [h.sent]⟩
  · show setL N.lane 0 ((N.lane 0).push m) 0 = _
    rw [setL_same, h.l0]; rfl
  · show setL N.lane 0 ((N.lane 0).push m) 1 = _
    rw [setL_other _ _ (by omega)]; exact h.l1
theorem Fill.send1 {N : Nt} {s : Nat} {b0 b1 : List (List Int)} (h : Fill N s b0 b1) (m : List Int) : Fill (N.send 1 m) (s + 1) b0 (if b1.length < 64 then b1 ++ [m] else b1) := by
  rw [h.send]
  refine ⟨h.nl, h.fates, h.now, h.later, ?_, ?_, by show N.sent + 1 = _; rw [h.sent]⟩
  · show setL N.lane 1 ((N.lane 1).push m) 0 = _
    rw [setL_other _ _ (by omega)]; exact h.l0
  · show setL N.lane 1 ((N.lane 1).push m) 1 = _
    rw [setL_same, h.l1]; rfl
theorem Fill.wait0 {N : Nt} {s t : Nat} {m : List Int} {b0 b1 : List (List Int)} (h : Fill N s (m :: b0) b1) : ∃ N', Nt.waitGo [0] t N = ⟨0, some m, 0, N'⟩ ∧ Fill N' s b0 b1 := by
  have hf : fstO N [0] = some 0 := by simp [fstO, hasMsg, h.l0]
  refine ⟨N.popped 0, by rw [waitGo_some hf, h.l0]; rfl, h.nl, h.fates, h.now, h.later, ?_, ?_, h.sent⟩
  · show setL N.lane 0 (N.lane 0).pop 0 = _
    rw [setL_same, h.l0]; rfl
  · show setL N.lane 0 (N.lane 0).pop 1 = _
    rw [setL_other _ _ (by omega)]; exact h.l1
theorem Fill.wait1 {N : Nt} {s t : Nat} {m : List Int} {b0 b1 : List (List Int)} (h : Fill N s b0 (m :: b1)) : ∃ N', Nt.waitGo [1] t N = ⟨1, some m, 0, N'⟩ ∧ Fill N' s b0 b1 := by
  have hf : fstO N [1] = some 1 := by simp [fstO, hasMsg, h.l1]
  refine ⟨N.popped 1, by rw [waitGo_some hf, h.l1]; rfl, h.nl, h.fates, h.now, h.later, ?_, ?_, h.sent⟩
  · show setL N.lane 1 (N.lane 1).pop 0 = _
    rw [setL_other _ _ (by omega)]; exact h.l0
  · show setL N.lane 1 (N.lane 1).pop 1 = _
    rw [setL_same, h.l1]; rfl

/-- What waits behind k sends. -/
def filled (k : Nat) : List (List Int) := (List.range (min k 64)).map fun (j : Nat) => [(j : Int)]
theorem filled_len (k : Nat) : (filled k).length = min k 64 := by simp [filled]
theorem filled_succ (k : Nat) : (if (filled k).length < 64 then filled k ++ [[(k : Int)]] else filled k) = filled (k + 1) := by
  rw [filled_len]
  by_cases h : k < 64
  · have e1 : min k 64 = k := by omega
    have e2 : min (k + 1) 64 = k + 1 := by omega
    rw [if_pos (by omega)]
    unfold filled
    rw [e1, e2, List.range_succ]; simp
  · have e1 : min k 64 = 64 := by omega
    have e2 : min (k + 1) 64 = 64 := by omega
    rw [if_neg (by omega)]
    unfold filled
    rw [e1, e2]
theorem filled_all {k : Nat} (h : 64 ≤ k) : filled k = [0] :: ((List.range 63).map fun (j : Nat) => [((j : Int) + 1)]) := by
  unfold filled
  rw [show min k 64 = 63 + 1 from by omega, List.range_succ_eq_map]
  simp

/-- The state of the net in memory; K: blocks that are nobody's, which calls on the net leave as they are. -/
def FillIs (w : World) (A : Ga) (s : Nat) (b0 b1 : List (List Int)) (K : List Nat) (wr : World) : Prop :=
  ∃ own N, NetIs wr own A N ∧ Fill N s b0 b1 ∧ Mv (fun _ => False) w wr ∧ (∀ b, b < w.heap.size → own b = none) ∧ ∀ b ∈ K, own b = none ∧ b < wr.heap.size

theorem FillIs.start {w wr : World} {own : Own} {A : Ga} (h : NetIs wr own A (net0 2 [])) (hb : Below w.heap.size w wr) (ho : ∀ b, b < w.heap.size → own b = none) : FillIs w A 0 [] [] [] wr :=
  ⟨own, _, h, Fill.start, Mv.of_below hb, ho, fun b hb => by simp at hb⟩
section
variable {w wr : World} {A : Ga} {s : Nat} {b0 b1 : List (List Int)} {K : List Nat}
theorem FillIs.alloc (h : FillIs w A s b0 b1 K wr) (o : Obj) : FillIs w A s b0 b1 (wr.heap.size :: K) (wr.alloc o) := by
  obtain ⟨own, N, h1, h2, h3, h4, h5⟩ := h
  refine ⟨own, N, h1.still ((Mv.refl _ _).alloc _), h2, h3.alloc _, h4, fun b hb => ?_⟩
  rcases List.mem_cons.1 hb with rfl | hb
  · exact ⟨h1.1.none (Nat.le_refl _), by simp⟩
  · exact ⟨(h5 b hb).1, by have := (h5 b hb).2; simp; omega⟩
theorem FillIs.below (h : FillIs w A s b0 b1 K wr) : Below w.heap.size w wr := by
  obtain ⟨own, N, h1, h2, h3, h4, h5⟩ := h
  exact h3.below

def SentF (w : World) (A : Ga) (s : Nat) (b0 b1 : List (List Int)) (K : List Nat) (wr : World) (e : Ending) (w' : World) : Prop :=
  e = .returned (.int .i64 0) ∧ FillIs w A s b0 b1 K w' ∧ wr.heap.size ≤ w'.heap.size ∧ ∀ b ∈ K, w'.heap[b]? = wr.heap[b]?

theorem FillIs.left {own : Own} {N' : Nt} {w' : World} {e₀ e : Ending} (h3 : Mv (fun _ => False) w wr) (h4 : ∀ b, b < w.heap.size → own b = none) (h5 : ∀ b ∈ K, own b = none ∧ b < wr.heap.size)
    (hF : Fill N' s b0 b1) (hL : Leaves wr own A N' e₀ e w') : e = e₀ ∧ FillIs w A s b0 b1 K w' ∧ wr.heap.size ≤ w'.heap.size ∧ ∀ b ∈ K, w'.heap[b]? = wr.heap[b]? := by
  obtain ⟨he, own', r1, r2, r3⟩ := hL
  exact ⟨he, ⟨own', _, r1, hF, h3.trans' r2 (fun b hb hh => hh (h4 b hb)), fun b hb => r3 b (Nat.lt_of_lt_of_le hb h3.size) (h4 b hb),
    fun b hb => ⟨r3 b (h5 b hb).2 (h5 b hb).1, Nat.lt_of_lt_of_le (h5 b hb).2 r2.size⟩⟩, r2.size, fun b hb => r2.block b (h5 b hb).2 (by unfold Own.has; rw [(h5 b hb).1]; simp)⟩

theorem one_in {own : Own} {x : Int} {b : Nat} (ho : own b = none) (hb : wr.heap[b]? = some (.cells #[.int .u8 x] 5 (0, 0))) : MsgIn wr own ⟨b, 0, none⟩ [x] := by
  refine ⟨ho, lt_of_heap hb, fun j u hj => ?_⟩
  have e1 : (⟨b, 0, none⟩ : Addr).add j = ⟨b, j, none⟩ := by unfold Addr.add; split <;> simp_all
  rw [e1, cell_of_row wr b j _ 5 (0, 0) hb]
  simpa [ub] using hj

theorem FillIs.send0 (h : FillIs w A s b0 b1 K wr) (hs : s < 100000) (x : Int) (b : Nat) (hb : wr.heap[b]? = some (.cells #[.int .u8 x] 5 (0, 0))) (hk : b ∈ K) :
    Calls Try.prog 18 #[.pointer (some ⟨A.net, 0, none⟩), .int .i64 0, .slice (some ⟨b, 0, none⟩) 1 1] wr (SentF w A (s + 1) (if b0.length < 64 then b0 ++ [[x]] else b0) b1 K wr) := by
  obtain ⟨own, N, h1, h2, h3, h4, h5⟩ := h
  refine (Send_ok wr own A N 0 ⟨b, 0, none⟩ 1 1 [x] h1 (h2.fit hs) (by rw [h2.nl]; omega) (by rw [h2.l0]) rfl (by omega) (by omega) (one_in (h5 b hk).1 hb)).mono ?_
  exact fun e w' hL => FillIs.left h3 h4 h5 (h2.send0 [x]) hL
theorem FillIs.send1 (h : FillIs w A s b0 b1 K wr) (hs : s < 100000) (x : Int) (b : Nat) (hb : wr.heap[b]? = some (.cells #[.int .u8 x] 5 (0, 0))) (hk : b ∈ K) :
    Calls Try.prog 18 #[.pointer (some ⟨A.net, 0, none⟩), .int .i64 1, .slice (some ⟨b, 0, none⟩) 1 1] wr (SentF w A (s + 1) b0 (if b1.length < 64 then b1 ++ [[x]] else b1) K wr) := by
  obtain ⟨own, N, h1, h2, h3, h4, h5⟩ := h
  refine (Send_ok wr own A N 1 ⟨b, 0, none⟩ 1 1 [x] h1 (h2.fit hs) (by rw [h2.nl]; omega) (by rw [h2.l1]) rfl (by omega) (by omega) (one_in (h5 b hk).1 hb)).mono ?_
  exact fun e w' hL => FillIs.left h3 h4 h5 (h2.send1 [x]) hL

/-- A message of one byte that was waited for. -/
def WaitF (w : World) (A : Ga) (s : Nat) (b0 b1 : List (List Int)) (K : List Nat) (x : Int) (wr : World) (e : Ending) (w' : World) : Prop :=
  ∃ g c, e = .returned (.tuple #[.slice (some ⟨g, 0, none⟩) 1 c, .int .i64 0]) ∧ w'.cell? ⟨g, 0, none⟩ = some (.int .u8 x) ∧ FillIs w A s b0 b1 (g :: K) w' ∧ wr.heap.size ≤ w'.heap.size ∧ ∀ b ∈ K, w'.heap[b]? = wr.heap[b]?

theorem FillIs.took {own : Own} {N' : Nt} {w' : World} {e : Ending} {x i : Int} (h3 : Mv (fun _ => False) w wr) (h4 : ∀ b, b < w.heap.size → own b = none) (h5 : ∀ b ∈ K, own b = none ∧ b < wr.heap.size)
    (hF : Fill N' s b0 b1) (hL : WaitedV wr own A ⟨i, some [x], 0, N'⟩ e w') : WaitF w A s b0 b1 K x wr e w' := by
  obtain ⟨v, rfl, own', r1, r2, r3, g, hm, hg, _⟩ := hL
  have hc := cell_msg hm (t := 0) (by simp)
  obtain ⟨c, cur, rfl, _⟩ := id hm
  refine ⟨g, c, rfl, by simpa using hc, ⟨own', _, r1, hF, h3.trans' r2 (fun b hb hh => hh (h4 b hb)), fun b hb => r3 b (Nat.lt_of_lt_of_le hb h3.size) (h4 b hb), fun b hb => ?_⟩, r2.size, fun b hb => r2.block b (h5 b hb).2 (by unfold Own.has; rw [(h5 b hb).1]; simp)⟩
  rcases List.mem_cons.1 hb with rfl | hb
  · exact ⟨hg, hm.lt⟩
  · exact ⟨r3 b (h5 b hb).2 (h5 b hb).1, Nat.lt_of_lt_of_le (h5 b hb).2 r2.size⟩
theorem FillIs.wait0 {x : Int} (h : FillIs w A s ([x] :: b0) b1 K wr) : Calls Try.prog 19 #[.pointer (some ⟨A.net, 0, none⟩), .int .i64 0, .int .i64 0] wr (WaitF w A s b0 b1 K x wr) := by
  obtain ⟨own, N, h1, h2, h3, h4, h5⟩ := h
  obtain ⟨N', e1, e2⟩ := h2.wait0 (t := 0)
  refine (Wait_ok wr own A N 0 0 h1 h2.fine (by rw [h2.nl]; omega) (by omega)).mono ?_
  intro e w' hL
  rw [e1] at hL
  exact FillIs.took h3 h4 h5 e2 hL
theorem FillIs.wait1 {x : Int} (h : FillIs w A s b0 ([x] :: b1) K wr) : Calls Try.prog 19 #[.pointer (some ⟨A.net, 0, none⟩), .int .i64 1, .int .i64 0] wr (WaitF w A s b0 b1 K x wr) := by
  obtain ⟨own, N, h1, h2, h3, h4, h5⟩ := h
  obtain ⟨N', e1, e2⟩ := h2.wait1 (t := 0)
  refine (Wait_ok wr own A N 1 0 h1 h2.fine (by rw [h2.nl]; omega) (by omega)).mono ?_
  intro e w' hL
  rw [e1] at hL
  exact FillIs.took h3 h4 h5 e2 hL
theorem FillIs.waiting0 (h : FillIs w A s [] b1 K wr) : Calls Try.prog 15 #[.pointer (some ⟨A.net, 0, none⟩), .int .i64 0] wr fun e w' => e = .returned (.tuple #[.int .i64 0, .int .i64 0]) ∧ wr = w' := by
  obtain ⟨own, N, ⟨h0, cap, fv, lv, q1, q2, q3, q4, q5⟩, h2, h3, h4, h5⟩ := h
  have hnl := h2.nl
  obtain ⟨a1, a2, a3, vs, sn, rn, a4, a5⟩ := q5 0 (by omega)
  have hz : vs.size = 0 := by rw [a5.1, h2.l0]; rfl
  have := waiting_any wr A.net A.arr N.nl cap (A.q 0) (A.c 0) 64 sn rn 0 vs _ (cell_of_heap q1.2 0 rfl) (by omega) (q2.cell (by omega)) (cell_of_heap a3 0 rfl) a4
  rw [hz] at this
  exact this
theorem FillIs.now (h : FillIs w A s b0 b1 K wr) : Calls Try.prog 16 #[.pointer (some ⟨A.net, 0, none⟩)] wr fun e w' => e = .returned (.int .i64 0) ∧ wr = w' := by
  obtain ⟨own, N, ⟨h0, cap, fv, lv, q1, q2⟩, h2, h3, h4, h5⟩ := h
  have := now_any wr A.net N.now (cell_of_heap q1.2 3 rfl)
  rw [h2.now] at this
  exact this
end
end Go.Proofs.Ytadalodjnbnjkaa
