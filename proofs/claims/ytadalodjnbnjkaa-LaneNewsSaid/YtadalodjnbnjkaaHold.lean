/- A net that a statement holds: every call on it, in one word each. -/
import Derived.Test.YtadalodjnbnjkaaSame
namespace Go.Proofs.Ytadalodjnbnjkaa
open Go.RowKit Go.Conc

/-- Memory reads as the net N at A; nothing that was there in w is the net's; K: further blocks that are not the net's. -/
def Holds (w : World) (A : Ga) (N : Nt) (K : List Nat) (wr : World) : Prop :=
  ∃ own, NetIs wr own A N ∧ Mv (fun _ => False) w wr ∧ (∀ b, b < w.heap.size → own b = none) ∧ ∀ b ∈ K, own b = none ∧ b < wr.heap.size

/-- What a call leaves of the blocks that are not the net's. -/
def Kept (w : World) (K : List Nat) (wr w' : World) : Prop := wr.heap.size ≤ w'.heap.size ∧ ∀ b, (b ∈ K ∨ b < w.heap.size) → w'.heap[b]? = wr.heap[b]?

theorem RowIn.keep {w w' : World} {a : Option Addr} {n : Nat} {l : List Int} (h : RowIn w a n l) (hk : ∀ ad, a = some ad → w'.heap[ad.block]? = w.heap[ad.block]?) : RowIn w' a n l := by
  refine ⟨h.1, h.2.imp id ?_⟩
  rintro ⟨b, off, h1, h2⟩
  refine ⟨b, off, h1, fun j hj => ?_⟩
  rw [World.cell?_of_block (w := w) (a := ⟨b, off + j, none⟩) (hk ⟨b, off, none⟩ h1)]
  exact h2 j hj

section
variable {w wr : World} {A : Ga} {N : Nt} {K : List Nat}

theorem Holds.start {own : Own} (h : NetIs wr own A N) (hb : Below w.heap.size w wr) (ho : ∀ b, b < w.heap.size → own b = none) : Holds w A N [] wr :=
  ⟨own, h, Mv.of_below hb, ho, fun b hb => by simp at hb⟩
theorem Holds.below (h : Holds w A N K wr) : Below w.heap.size w wr := by
  obtain ⟨own, h1, h2, h3, h4⟩ := h
  exact h2.below
theorem Holds.sub {K' : List Nat} (h : Holds w A N K wr) (hs : ∀ b ∈ K', b ∈ K) : Holds w A N K' wr := by
  obtain ⟨own, h1, h2, h3, h4⟩ := h
  exact ⟨own, h1, h2, h3, fun b hb => h4 b (hs b hb)⟩
theorem Holds.still {w' : World} (h : Holds w A N K wr) (hm : Mv (fun _ => False) wr w') : Holds w A N K w' := by
  obtain ⟨own, h1, h2, h3, h4⟩ := h
  exact ⟨own, h1.still hm, h2.trans hm, h3, fun b hb => ⟨(h4 b hb).1, Nat.lt_of_lt_of_le (h4 b hb).2 hm.size⟩⟩
/-- A new block joins. -/
theorem Holds.new {w' : World} {g : Nat} (h : Holds w A N K wr) (hm : Mv (fun _ => False) wr w') (hg : wr.heap.size ≤ g) (hg2 : g < w'.heap.size) : Holds w A N (g :: K) w' := by
  obtain ⟨own, h1, h2, h3, h4⟩ := h
  refine ⟨own, h1.still hm, h2.trans hm, h3, fun b hb => ?_⟩
  rcases List.mem_cons.1 hb with rfl | hb
  · exact ⟨h1.1.none hg, hg2⟩
  · exact ⟨(h4 b hb).1, Nat.lt_of_lt_of_le (h4 b hb).2 hm.size⟩
theorem Kept.still {w' : World} (hm : Mv (fun _ => False) wr w') (h : Holds w A N K wr) : Kept w K wr w' := by
  obtain ⟨own, h1, h2, h3, h4⟩ := h
  refine ⟨hm.size, fun b hb => hm.block b ?_ id⟩
  rcases hb with hb | hb
  · exact (h4 b hb).2
  · exact Nat.lt_of_lt_of_le hb h2.size

/-- The end of a call on the net. -/
def HeldC (w : World) (A : Ga) (N' : Nt) (K : List Nat) (wr : World) (e₀ e : Ending) (w' : World) : Prop := e = e₀ ∧ Holds w A N' K w' ∧ Kept w K wr w'

theorem Holds.left {own : Own} {N' : Nt} {e₀ e : Ending} {w' : World} (h2 : Mv (fun _ => False) w wr) (h3 : ∀ b, b < w.heap.size → own b = none) (h4 : ∀ b ∈ K, own b = none ∧ b < wr.heap.size)
    (hL : Leaves wr own A N' e₀ e w') : HeldC w A N' K wr e₀ e w' := by
  obtain ⟨he, own', r1, r2, r3⟩ := hL
  have hs := h2.size
  refine ⟨he, ⟨own', r1, h2.trans' r2 (fun b hb hh => hh (h3 b hb)), fun b hb => r3 b (by omega) (h3 b hb), fun b hb => ⟨r3 b (h4 b hb).2 (h4 b hb).1, Nat.lt_of_lt_of_le (h4 b hb).2 r2.size⟩⟩, r2.size, fun b hb => ?_⟩
  rcases hb with hb | hb
  · exact r2.block b (h4 b hb).2 (by unfold Own.has; rw [(h4 b hb).1]; simp)
  · exact r2.block b (by omega) (by unfold Own.has; rw [h3 b hb]; simp)

theorem Holds.send (h : Holds w A N K wr) (hf : Fit N) (i : Nat) (hi : i < N.nl) (hop : (N.lane i).closed = false) (ad : Addr) (n cap : Nat) (l : List Int) (hl : n ≤ 1048576) (hcap : n ≤ cap) (hr : RowIn wr (some ad) n l)
    (hk : ad.block ∈ K ∨ ad.block < w.heap.size) :
    Calls Try.prog 18 #[.pointer (some ⟨A.net, 0, none⟩), .int .i64 i, .slice (some ad) n cap] wr (HeldC w A (N.send i l) K wr (.returned (.int .i64 0))) := by
  obtain ⟨own, h1, h2, h3, h4⟩ := h
  have hon : own ad.block = none ∧ ad.block < wr.heap.size := by
    rcases hk with hk | hk
    · exact h4 _ hk
    · exact ⟨h3 _ hk, Nat.lt_of_lt_of_le hk h2.size⟩
  have hm : MsgIn wr own ad l := by
    refine ⟨hon.1, hon.2, fun j u hj => ?_⟩
    obtain ⟨hj1, rfl⟩ := ub_get hj
    rcases hr.2 with hz | ⟨b, off, he, hc⟩
    · have := hr.1; omega
    · cases he
      have := hc j (by rw [← hr.1]; exact hj1)
      have e1 : (⟨b, off, none⟩ : Addr).add j = ⟨b, off + j, none⟩ := by unfold Addr.add; split <;> simp_all
      rw [e1]; exact this
  exact (Send_ok wr own A N i ad n cap l h1 hf hi hop hr.1 hl hcap hm).mono fun e w' hL => Holds.left h2 h3 h4 hL

theorem Holds.close (h : Holds w A N K wr) (i : Nat) (hi : i < N.nl) (hop : (N.lane i).closed = false) :
    Calls Try.prog 25 #[.pointer (some ⟨A.net, 0, none⟩), .int .i64 i] wr (HeldC w A (N.closed i) K wr (.returned (.int .i64 0))) := by
  obtain ⟨own, h1, h2, h3, h4⟩ := h
  exact (Close_ok wr own A N i h1 hi hop).mono fun e w' hL => Holds.left h2 h3 h4 hL
theorem Holds.pass (h : Holds w A N K wr) (hf : Fine N) (t : Nat) (ht : t ≤ 65536) :
    Calls Try.prog 39 #[.pointer (some ⟨A.net, 0, none⟩), .int .i64 t] wr (HeldC w A (N.ticks t) K wr (.returned (.int .i64 0))) := by
  obtain ⟨own, h1, h2, h3, h4⟩ := h
  exact (Pass_ok wr own A N t h1 hf ht).mono fun e w' hL => Holds.left h2 h3 h4 hL
theorem Holds.sendClosed (h : Holds w A N K wr) (i : Nat) (hi : i < N.nl) (hop : (N.lane i).closed = true) (v : Value) :
    Calls Try.prog 18 #[.pointer (some ⟨A.net, 0, none⟩), .int .i64 i, v] wr fun e w' => e = .returned (.int .i64 191) ∧ wr = w' := by
  obtain ⟨own, h1, h2, h3, h4⟩ := h
  exact Send_closed wr own A N i v h1 hi hop
theorem Holds.closeClosed (h : Holds w A N K wr) (i : Nat) (hi : i < N.nl) (hop : (N.lane i).closed = true) :
    Calls Try.prog 25 #[.pointer (some ⟨A.net, 0, none⟩), .int .i64 i] wr fun e w' => e = .returned (.int .i64 191) ∧ wr = w' := by
  obtain ⟨own, h1, h2, h3, h4⟩ := h
  exact Close_closed wr own A N i h1 hi hop
theorem Holds.now (h : Holds w A N K wr) : Calls Try.prog 16 #[.pointer (some ⟨A.net, 0, none⟩)] wr fun e w' => e = .returned (.int .i64 N.now) ∧ wr = w' := by
  obtain ⟨own, ⟨h0, cap, fv, lv, q1, q2⟩, h2, h3, h4⟩ := h
  exact now_any wr A.net N.now (cell_of_heap q1.2 3 rfl)
theorem Holds.waiting (h : Holds w A N K wr) (i : Nat) (hi : i < N.nl) : Calls Try.prog 15 #[.pointer (some ⟨A.net, 0, none⟩), .int .i64 i] wr fun e w' => e = .returned (.tuple #[.int .i64 (N.lane i).buf.length, .int .i64 0]) ∧ wr = w' := by
  obtain ⟨own, ⟨h0, cap, fv, lv, q1, q2, q3, q4, q5⟩, h2, h3, h4⟩ := h
  obtain ⟨a1, a2, a3, vs, sn, rn, a4, a5⟩ := q5 i hi
  have := waiting_any wr A.net A.arr N.nl cap (A.q i) (A.c i) 64 sn rn i vs _ (cell_of_heap q1.2 0 rfl) hi (q2.cell hi) (cell_of_heap a3 0 rfl) a4
  rw [a5.1] at this
  exact this

/-- A message that was waited for. -/
def WaitH (w : World) (A : Ga) (R : Wr) (m : List Int) (K : List Nat) (wr : World) (e : Ending) (w' : World) : Prop :=
  ∃ g c, e = .returned (.tuple #[.slice (some ⟨g, 0, none⟩) m.length c, .int .i64 R.err]) ∧ RowIn w' (some ⟨g, 0, none⟩) m.length m ∧ Holds w A R.net (g :: K) w' ∧ Kept w K wr w'
def WaitN (w : World) (A : Ga) (R : Wr) (K : List Nat) (wr : World) (e : Ending) (w' : World) : Prop :=
  e = .returned (.tuple #[.slice none 0 0, .int .i64 R.err]) ∧ Holds w A R.net K w' ∧ Kept w K wr w'

theorem Holds.wait (h : Holds w A N K wr) (hf : Fine N) (i t : Nat) (hi : i < N.nl) (ht : t ≤ 65536) (m : List Int) (hm : (Nt.waitGo [i] t N).msg = some m) :
    Calls Try.prog 19 #[.pointer (some ⟨A.net, 0, none⟩), .int .i64 i, .int .i64 t] wr (WaitH w A (Nt.waitGo [i] t N) m K wr) := by
  obtain ⟨own, h1, h2, h3, h4⟩ := h
  refine (Wait_ok wr own A N i t h1 hf hi ht).mono ?_
  rintro e w' ⟨v, rfl, own', r1, r2, r3, r4⟩
  rw [hm] at r4
  obtain ⟨g, q1, q2, q3⟩ := r4
  obtain ⟨c, rfl, hrow⟩ := RowIn.of_msg q1
  have hs := h2.size
  refine ⟨g, c, rfl, hrow, ⟨own', r1, h2.trans' r2 (fun b hb hh => hh (h3 b hb)), fun b hb => r3 b (by omega) (h3 b hb), fun b hb => ?_⟩, r2.size, fun b hb => ?_⟩
  · rcases List.mem_cons.1 hb with rfl | hb
    · exact ⟨q2, q1.lt⟩
    · exact ⟨r3 b (h4 b hb).2 (h4 b hb).1, Nat.lt_of_lt_of_le (h4 b hb).2 r2.size⟩
  · rcases hb with hb | hb
    · exact r2.block b (h4 b hb).2 (by unfold Own.has; rw [(h4 b hb).1]; simp)
    · exact r2.block b (by omega) (by unfold Own.has; rw [h3 b hb]; simp)
theorem Holds.waitNone (h : Holds w A N K wr) (hf : Fine N) (i t : Nat) (hi : i < N.nl) (ht : t ≤ 65536) (hm : (Nt.waitGo [i] t N).msg = none) :
    Calls Try.prog 19 #[.pointer (some ⟨A.net, 0, none⟩), .int .i64 i, .int .i64 t] wr (WaitN w A (Nt.waitGo [i] t N) K wr) := by
  obtain ⟨own, h1, h2, h3, h4⟩ := h
  refine (Wait_ok wr own A N i t h1 hf hi ht).mono ?_
  rintro e w' ⟨v, rfl, own', r1, r2, r3, r4⟩
  rw [hm] at r4
  obtain rfl := r4
  have hs := h2.size
  refine ⟨rfl, ⟨own', r1, h2.trans' r2 (fun b hb hh => hh (h3 b hb)), fun b hb => r3 b (by omega) (h3 b hb), fun b hb => ⟨r3 b (h4 b hb).2 (h4 b hb).1, Nat.lt_of_lt_of_le (h4 b hb).2 r2.size⟩⟩, r2.size, fun b hb => ?_⟩
  rcases hb with hb | hb
  · exact r2.block b (h4 b hb).2 (by unfold Own.has; rw [(h4 b hb).1]; simp)
  · exact r2.block b (by omega) (by unfold Own.has; rw [h3 b hb]; simp)
end
end Go.Proofs.Ytadalodjnbnjkaa
