/- Two nets side by side: a call on one leaves the other as it is. -/
import Derived.Test.YtadalodjnbnjkaaSends2
namespace Go.Proofs.Ytadalodjnbnjkaa
open Go.RowKit Go.Conc

def Pair (w : World) (A : Ga) (N : Nt) (A₂ : Ga) (N₂ : Nt) (K : List Nat) (wr : World) : Prop :=
  ∃ own own₂, NetIs wr own A N ∧ NetIs wr own₂ A₂ N₂ ∧ (∀ b, own b = none ∨ own₂ b = none) ∧ Mv (fun _ => False) w wr ∧ (∀ b, b < w.heap.size → own b = none ∧ own₂ b = none) ∧
    ∀ b ∈ K, own b = none ∧ own₂ b = none ∧ b < wr.heap.size

section
variable {w wr : World} {A A₂ : Ga} {N N₂ : Nt} {K : List Nat}
theorem Pair.swap (h : Pair w A N A₂ N₂ K wr) : Pair w A₂ N₂ A N K wr := by
  obtain ⟨own, own₂, h1, h2, h3, h4, h5, h6⟩ := h
  exact ⟨own₂, own, h2, h1, fun b => (h3 b).symm, h4, fun b hb => (h5 b hb).symm, fun b hb => ⟨(h6 b hb).2.1, (h6 b hb).1, (h6 b hb).2.2⟩⟩
theorem Pair.below (h : Pair w A N A₂ N₂ K wr) : Below w.heap.size w wr := by
  obtain ⟨own, own₂, h1, h2, h3, h4, h5, h6⟩ := h
  exact h4.below
theorem Pair.sub {K' : List Nat} (h : Pair w A N A₂ N₂ K wr) (hs : ∀ b ∈ K', b ∈ K) : Pair w A N A₂ N₂ K' wr := by
  obtain ⟨own, own₂, h1, h2, h3, h4, h5, h6⟩ := h
  exact ⟨own, own₂, h1, h2, h3, h4, h5, fun b hb => h6 b (hs b hb)⟩
theorem Pair.still {w' : World} (h : Pair w A N A₂ N₂ K wr) (hm : Mv (fun _ => False) wr w') : Pair w A N A₂ N₂ K w' := by
  obtain ⟨own, own₂, h1, h2, h3, h4, h5, h6⟩ := h
  exact ⟨own, own₂, h1.still hm, h2.still hm, h3, h4.trans hm, h5, fun b hb => ⟨(h6 b hb).1, (h6 b hb).2.1, Nat.lt_of_lt_of_le (h6 b hb).2.2 hm.size⟩⟩
theorem Pair.start {w' : World} (h : Holds w A N K wr) (h' : Holds wr A₂ N₂ [] w') : Pair w A N A₂ N₂ K w' := by
  obtain ⟨own, h1, h2, h3, h4⟩ := h
  obtain ⟨own₂, q1, q2, q3, q4⟩ := h'
  refine ⟨own, own₂, h1.still q2, q1, fun b => ?_, h2.trans q2, fun b hb => ⟨h3 b hb, q3 b (Nat.lt_of_lt_of_le hb h2.size)⟩, fun b hb => ⟨(h4 b hb).1, q3 b (h4 b hb).2, Nat.lt_of_lt_of_le (h4 b hb).2 q2.size⟩⟩
  by_cases hb : b < wr.heap.size
  · exact .inr (q3 b hb)
  · exact .inl (h1.1.none (by omega))

theorem Pair.after {own own₂ own' : Own} {N' : Nt} {w' : World} (h2 : NetIs wr own₂ A₂ N₂) (h3 : ∀ b, own b = none ∨ own₂ b = none) (h4 : Mv (fun _ => False) w wr) (h5 : ∀ b, b < w.heap.size → own b = none ∧ own₂ b = none)
    (h6 : ∀ b ∈ K, own b = none ∧ own₂ b = none ∧ b < wr.heap.size) (r1 : NetIs w' own' A N') (r2 : Mv own.has wr w') (r3 : Grows wr.heap.size own own') : Pair w A N' A₂ N₂ K w' ∧ Kept w K wr w' := by
  have hs := h4.size
  refine ⟨⟨own', own₂, r1, h2.apart r2 (fun b => (h3 b).symm), fun b => ?_, h4.trans' r2 (fun b hb hh => hh (h5 b hb).1), fun b hb => ⟨r3 b (by omega) (h5 b hb).1, (h5 b hb).2⟩,
    fun b hb => ⟨r3 b (h6 b hb).2.2 (h6 b hb).1, (h6 b hb).2.1, Nat.lt_of_lt_of_le (h6 b hb).2.2 r2.size⟩⟩, r2.size, fun b hb => ?_⟩
  · by_cases hb : b < wr.heap.size
    · rcases h3 b with h | h
      · exact .inl (r3 b hb h)
      · exact .inr h
    · exact .inr (h2.1.none (by omega))
  · rcases hb with hb | hb
    · exact r2.block b (h6 b hb).2.2 (by unfold Own.has; rw [(h6 b hb).1]; simp)
    · exact r2.block b (by omega) (by unfold Own.has; rw [(h5 b hb).1]; simp)

/-- A message that was waited for on the first of two nets. -/
def PWaitM (w : World) (A : Ga) (N' : Nt) (A₂ : Ga) (N₂ : Nt) (m : List Int) (K : List Nat) (wr : World) (e : Ending) (w' : World) : Prop :=
  ∃ g c, e = .returned (.tuple #[.slice (some ⟨g, 0, none⟩) m.length c, .int .i64 0]) ∧ RowIn w' (some ⟨g, 0, none⟩) m.length m ∧ Pair w A N' A₂ N₂ (g :: K) w' ∧ Kept w K wr w'
def PWaitE (w : World) (A : Ga) (N' : Nt) (A₂ : Ga) (N₂ : Nt) (er : Int) (K : List Nat) (wr : World) (e : Ending) (w' : World) : Prop :=
  e = .returned (.tuple #[.slice none 0 0, .int .i64 er]) ∧ Pair w A N' A₂ N₂ K w' ∧ Kept w K wr w'

theorem Pair.waitM {N' : Nt} (h : Pair w A N A₂ N₂ K wr) (hf : Fine N) (i t : Nat) (hi : i < N.nl) (ht : t ≤ 65536) {m : List Int} {x : Int} (hm : Nt.waitGo [i] t N = ⟨x, some m, 0, N'⟩) :
    Calls Try.prog 19 #[.pointer (some ⟨A.net, 0, none⟩), .int .i64 i, .int .i64 t] wr (PWaitM w A N' A₂ N₂ m K wr) := by
  obtain ⟨own, own₂, h1, h2, h3, h4, h5, h6⟩ := h
  refine (Wait_ok wr own A N i t h1 hf hi ht).mono ?_
  rw [hm]
  rintro e w' ⟨v, rfl, own', r1, r2, r3, g, q1, q2, q3⟩
  obtain ⟨c, rfl, hrow⟩ := RowIn.of_msg q1
  obtain ⟨hP, hK⟩ := Pair.after (K := K) h2 h3 h4 h5 h6 r1 r2 r3
  refine ⟨g, c, rfl, hrow, ?_, hK⟩
  have hg2 : own₂ g = none := by
    rcases q3 with q | q
    · rcases h3 g with h | h
      · exact absurd h q
      · exact h
    · exact h2.1.none q
  have hs := h4.size
  refine ⟨own', own₂, r1, h2.apart r2 (fun b => (h3 b).symm), fun b => ?_, h4.trans' r2 (fun b hb hh => hh (h5 b hb).1), fun b hb => ⟨r3 b (by omega) (h5 b hb).1, (h5 b hb).2⟩, fun b hb => ?_⟩
  · by_cases hb : b < wr.heap.size
    · rcases h3 b with h | h
      · exact .inl (r3 b hb h)
      · exact .inr h
    · exact .inr (h2.1.none (by omega))
  · rcases List.mem_cons.1 hb with rfl | hb
    · exact ⟨q2, hg2, q1.lt⟩
    · exact ⟨r3 b (h6 b hb).2.2 (h6 b hb).1, (h6 b hb).2.1, Nat.lt_of_lt_of_le (h6 b hb).2.2 r2.size⟩
theorem Pair.waitE {N' : Nt} (h : Pair w A N A₂ N₂ K wr) (hf : Fine N) (i t : Nat) (hi : i < N.nl) (ht : t ≤ 65536) {x er : Int} (hm : Nt.waitGo [i] t N = ⟨x, none, er, N'⟩) :
    Calls Try.prog 19 #[.pointer (some ⟨A.net, 0, none⟩), .int .i64 i, .int .i64 t] wr (PWaitE w A N' A₂ N₂ er K wr) := by
  obtain ⟨own, own₂, h1, h2, h3, h4, h5, h6⟩ := h
  refine (Wait_ok wr own A N i t h1 hf hi ht).mono ?_
  rw [hm]
  rintro e w' ⟨v, rfl, own', r1, r2, r3, rfl⟩
  obtain ⟨hP, hK⟩ := Pair.after (K := K) h2 h3 h4 h5 h6 r1 r2 r3
  exact ⟨rfl, hP, hK⟩
theorem Pair.now (h : Pair w A N A₂ N₂ K wr) : Calls Try.prog 16 #[.pointer (some ⟨A.net, 0, none⟩)] wr fun e w' => e = .returned (.int .i64 N.now) ∧ wr = w' := by
  obtain ⟨own, own₂, ⟨h0, cap, fv, lv, q1, q2⟩, h2, h3, h4⟩ := h
  exact now_any wr A.net N.now (cell_of_heap q1.2 3 rfl)
def PCalm (w : World) (A : Ga) (N : Nt) (A₂ : Ga) (N₂ : Nt) (K : List Nat) (v : Value) (wr : World) (e : Ending) (w' : World) : Prop := e = .returned v ∧ Pair w A N A₂ N₂ K w' ∧ w'.heap = wr.heap
theorem Pair.same (h : Pair w A N A₂ N₂ K wr) {a1 a2 : Option Addr} {n1 c1 n2 c2 : Nat} {l1 l2 : List Int} (h1 : RowIn wr a1 n1 l1) (h2 : RowIn wr a2 n2 l2) (hs : n1 ≤ 1099511627776) :
    Calls Try.prog 22 #[.slice a1 n1 c1, .slice a2 n2 c2] wr (PCalm w A N A₂ N₂ K (.bool (sameB l1 l2)) wr) := by
  refine (same_any wr a1 a2 n1 c1 n2 c2 l1 l2 h1 h2 hs).mono ?_
  rintro e w' ⟨rfl, d, rfl⟩
  exact ⟨rfl, h.still ((Mv.refl _ _).drewN d), rfl⟩
end
theorem RowIn.nil (w : World) : RowIn w none 0 [] := ⟨rfl, .inl rfl⟩
end Go.Proofs.Ytadalodjnbnjkaa
