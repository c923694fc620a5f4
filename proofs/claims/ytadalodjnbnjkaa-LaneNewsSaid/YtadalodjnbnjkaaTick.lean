/- One tick, as plain data; and the steps of its round. -/
import Derived.Test.YtadalodjnbnjkaaSend7
namespace Go.Proofs.Ytadalodjnbnjkaa
open Go.RowKit Go.Conc

/-! ### plain -/
def cnt (i : Nat) (L : List Ml) : Nat := (L.filter fun x => x.lane == i).length
theorem cnt_nil (i : Nat) : cnt i [] = 0 := rfl
theorem cnt_cons (i : Nat) (x : Ml) (L : List Ml) : cnt i (x :: L) = (if x.lane = i then 1 else 0) + cnt i L := by
  unfold cnt
  by_cases h : x.lane = i
  · simp [h]; omega
  · simp [h]
theorem cnt_append (i : Nat) (L M : List Ml) : cnt i (L ++ M) = cnt i L + cnt i M := by simp [cnt]
theorem cnt_le (i : Nat) (L : List Ml) : cnt i L ≤ L.length := List.length_filter_le _ _

/-- A lane takes a message that was on its way. -/
def Lq.take (L : Lq) (m : List Int) : Lq := { L.push m with coming := L.coming - 1 }
def tickStep (nw : Nat) (S : (Nat → Lq) × List Ml) (x : Ml) : (Nat → Lq) × List Ml :=
  if nw < x.due then (S.1, S.2 ++ [x]) else (setL S.1 x.lane ((S.1 x.lane).take x.msg), S.2)
def Nt.ticked (N : Nt) (k : Nat) : (Nat → Lq) × List Ml := (N.later.take k).foldl (tickStep (N.now + 1)) (N.lane, [])
def Nt.tick (N : Nt) : Nt := { N with now := N.now + 1, lane := (N.ticked N.later.length).1, later := (N.ticked N.later.length).2 }

/-- What holds of every net that calls have made. -/
structure Okn (N : Nt) : Prop where
  fates : ∀ f ∈ N.fates, mayF f
  later : ∀ x ∈ N.later, x.lane < N.nl ∧ x.msg.length ≤ 1048576
  coming : ∀ i, i < N.nl → (N.lane i).coming = cnt i N.later

theorem ticked_zero (N : Nt) : N.ticked 0 = (N.lane, []) := rfl
theorem ticked_succ (N : Nt) (k : Nat) (h : k < N.later.length) : N.ticked (k + 1) = tickStep (N.now + 1) (N.ticked k) N.later[k] := by
  unfold Nt.ticked
  rw [List.take_succ_eq_append_getElem h, List.foldl_append]
  rfl
theorem ticked_coming (N : Nt) (h : Okn N) : ∀ k, k ≤ N.later.length → ∀ i, i < N.nl → ((N.ticked k).1 i).coming = cnt i (N.ticked k).2 + cnt i (N.later.drop k) := by
  intro k
  induction k with
  | zero => intro _ i hi; rw [ticked_zero]; simp [h.coming i hi, cnt_nil]
  | succ k ih =>
    intro hk i hi
    have hlt : k < N.later.length := by omega
    have := ih (by omega) i hi
    rw [List.drop_eq_getElem_cons hlt, cnt_cons] at this
    rw [ticked_succ N k hlt]
    unfold tickStep
    split
    · simp only [cnt_append, cnt_cons, cnt_nil]
      omega
    · by_cases hji : i = N.later[k].lane
      · subst hji
        simp only [setL_same, Lq.take]
        simp at this
        omega
      · simp only [setL_other _ _ hji]
        rw [if_neg (Ne.symm hji)] at this
        omega
theorem ticked_len (N : Nt) : ∀ k, k ≤ N.later.length → (N.ticked k).2.length ≤ k := by
  intro k
  induction k with
  | zero => intro _; simp [ticked_zero]
  | succ k ih =>
    intro hk
    have := ih (by omega)
    rw [ticked_succ N k (by omega)]
    unfold tickStep
    split <;> simp <;> omega
theorem ticked_mem (N : Nt) : ∀ k, k ≤ N.later.length → ∀ x ∈ (N.ticked k).2, x ∈ N.later := by
  intro k
  induction k with
  | zero => intro _ x hx; simp [ticked_zero] at hx
  | succ k ih =>
    intro hk x hx
    rw [ticked_succ N k (by omega)] at hx
    unfold tickStep at hx
    split at hx
    · simp only [List.mem_append, List.mem_singleton] at hx
      rcases hx with hx | rfl
      · exact ih (by omega) x hx
      · exact List.getElem_mem _
    · exact ih (by omega) x hx
theorem Okn.tick {N : Nt} (h : Okn N) : Okn N.tick where
  fates := h.fates
  later := fun x hx => h.later x (ticked_mem N _ (Nat.le_refl _) x hx)
  coming := fun i hi => by
    have := ticked_coming N h _ (Nat.le_refl _) i hi
    simpa [Nt.tick, cnt_nil] using this

/-! ### the steps -/
theorem LaneIs.less {w : World} {own : Own} {A : Ga} {i : Nat} {L : Lq} (h : LaneIs w own A i L false) (hc : 1 ≤ L.coming) :
    LaneIs (w.setCell ⟨A.q i, 2, none⟩ (.int .i64 ((L.coming : Int) - 1))) own A i { L with coming := L.coming - 1 } false := by
  obtain ⟨h1, h2, h3, vs, s, r, h4, h5⟩ := h
  have hqc : A.c i ≠ A.q i := fun e => by rw [← e, h4] at h3; cases h3
  refine ⟨h1, h2, ?_, vs, s, r, by rw [heap_setCell_other hqc]; exact h4, h5.keep fun b k hb => ⟨hb, heap_setCell_other (fun e => by subst e; rw [h1] at hb; cases hb) _⟩⟩
  rw [heap_setCell_same h3]
  simp
  omega

def EndL (w : World) (own : Own) (A : Ga) (i : Nat) (L : Lq) (e : Ending) (w' : World) : Prop :=
  e = .returned (.tuple #[]) ∧ Mv (· = A.c i) w w' ∧ LaneIs w' own A i L L.shut

/-- end. -/
theorem endL (w : World) (own : Own) (A : Ga) (i : Nat) (L : Lq) (h : LaneIs w own A i L false) :
    Calls Try.prog 40 #[.pointer (some ⟨A.q i, 0, none⟩)] w (EndL w own A i L) := by
  have H := h
  obtain ⟨h1, h2, h3, vs, s, r, h4, h5⟩ := h
  have c0 : w.cell? ⟨A.q i, 0, none⟩ = some (.chan (some (A.c i))) := cell_of_heap h3 0 rfl
  have c1 : w.cell? ⟨A.q i, 1, none⟩ = some (.bool L.closed) := cell_of_heap h3 1 rfl
  have c2 : w.cell? ⟨A.q i, 2, none⟩ = some (.int .i64 L.coming) := cell_of_heap h3 2 rfl
  cases hcl : L.closed with
  | false =>
    rw [hcl] at c1
    refine (end_open w (A.q i) c1).mono ?_
    rintro e w' ⟨rfl, rfl⟩
    have : L.shut = false := by simp [Lq.shut, hcl]
    exact ⟨rfl, Mv.refl _ _, by rw [this]; exact H⟩
  | true =>
    rw [hcl] at c1
    by_cases hz : L.coming = 0
    · rw [hz] at c2
      refine (end_shut w (A.q i) (A.c i) 64 s r vs c0 c1 c2 h4).mono ?_
      rintro e w' ⟨rfl, rfl⟩
      have : L.shut = true := by simp [Lq.shut, hcl, hz]
      have hqc : A.c i ≠ A.q i := fun e => by rw [← e, h4] at h3; cases h3
      have hoth : ∀ b, b ≠ A.c i → (w.setChan (A.c i) 64 vs true s r false).heap[b]? = w.heap[b]? := fun b hb => by
        simp only [World.setChan]
        rw [Array.getElem?_setIfInBounds_ne (Ne.symm hb)]
      refine ⟨rfl, Mv.setChan (F := fun x => x = A.c i) (Mv.refl _ _) (.inl rfl) _ _ _ _ _ _, ?_⟩
      rw [this]
      exact ⟨h1, h2, (hoth _ (Ne.symm hqc)).trans h3, vs, s, r, heap_setChan _ _ _ _ _ _ _ _ (lt_of_heap h4), h5.keep fun b k hb => ⟨hb, hoth b (fun e => by subst e; rw [h2] at hb; cases hb)⟩⟩
    · refine (end_coming w (A.q i) L.coming c1 c2 (by simp; omega)).mono ?_
      rintro e w' ⟨rfl, rfl⟩
      have : L.shut = false := by simp [Lq.shut, hz]
      exact ⟨rfl, Mv.refl _ _, by rw [this]; exact H⟩

theorem latCells_get (X : List (Ml × Value)) : ∀ (k : Nat) (x : Ml × Value), X[k]? = some x →
    (latCells X)[k * 3]? = some (.int .i64 x.1.due) ∧ (latCells X)[k * 3 + 1]? = some (.int .i64 x.1.lane) ∧ (latCells X)[k * 3 + 2]? = some x.2 := by
  induction X with
  | nil => intro k x hx; simp at hx
  | cons y X ih =>
    intro k x hx
    cases k with
    | zero => simp at hx; subst hx; simp [latCells]
    | succ k =>
      have := ih k x (by simpa using hx)
      have e1 : (k + 1) * 3 = k * 3 + 1 + 1 + 1 := by omega
      have e2 : (k + 1) * 3 + 1 = k * 3 + 1 + 1 + 1 + 1 := by omega
      have e3 : (k + 1) * 3 + 2 = k * 3 + 2 + 1 + 1 + 1 := by omega
      rw [e3, e2, e1]
      simpa [latCells] using this
end Go.Proofs.Ytadalodjnbnjkaa
