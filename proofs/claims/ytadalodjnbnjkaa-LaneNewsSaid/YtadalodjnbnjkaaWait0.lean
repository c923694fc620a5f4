/- What wait answers, as plain data; a message that is taken. -/
import Derived.Test.YtadalodjnbnjkaaPass
namespace Go.Proofs.Ytadalodjnbnjkaa
open Go.RowKit Go.Conc

/-! ### plain -/
def hasMsg (L : Lq) : Bool := !L.buf.isEmpty
def overB (L : Lq) : Bool := L.shut && L.buf.isEmpty
def fstO (N : Nt) (ls : List Nat) : Option Nat := ls.find? fun l => hasMsg (N.lane l)
def fstI (N : Nt) (ls : List Nat) : Int := match fstO N ls with | some l => (l : Int) | none => -1
def allB (N : Nt) (ls : List Nat) : Bool := ls.all fun l => overB (N.lane l)
def Lq.pop (L : Lq) : Lq := { L with buf := L.buf.tail }
def Nt.popped (N : Nt) (i : Nat) : Nt := { N with lane := setL N.lane i (N.lane i).pop }
/-- The lane, the message, the error; the net behind it. -/
structure Wr where
  lane : Int
  msg : Option (List Int)
  err : Int
  net : Nt
def Nt.waitGo (ls : List Nat) : Nat → Nt → Wr
  | r, N => match fstO N ls with
    | some l => ⟨l, (N.lane l).buf.head?, 0, N.popped l⟩
    | none => if allB N ls then ⟨0, none, 191, N⟩ else match r with
      | 0 => ⟨0, none, 190, N⟩
      | r + 1 => Nt.waitGo ls r N.tick
theorem waitGo_some {N : Nt} {ls : List Nat} {l : Nat} (h : fstO N ls = some l) (r : Nat) : Nt.waitGo ls r N = ⟨l, (N.lane l).buf.head?, 0, N.popped l⟩ := by
  unfold Nt.waitGo; rw [h]
theorem waitGo_over {N : Nt} {ls : List Nat} (h : fstO N ls = none) (ha : allB N ls = true) (r : Nat) : Nt.waitGo ls r N = ⟨0, none, 191, N⟩ := by
  unfold Nt.waitGo; rw [h]; simp [ha]
theorem waitGo_zero {N : Nt} {ls : List Nat} (h : fstO N ls = none) (ha : allB N ls = false) : Nt.waitGo ls 0 N = ⟨0, none, 190, N⟩ := by
  unfold Nt.waitGo; rw [h]; simp [ha]
theorem waitGo_succ {N : Nt} {ls : List Nat} (h : fstO N ls = none) (ha : allB N ls = false) (r : Nat) : Nt.waitGo ls (r + 1) N = Nt.waitGo ls r N.tick := by
  rw [Nt.waitGo.eq_def ls (r + 1) N]; simp only [h, ha, Bool.false_eq_true, if_false]

theorem fstI_none {N : Nt} {ls : List Nat} (h : fstO N ls = none) : fstI N ls = -1 := by unfold fstI; rw [h]
theorem fstI_some {N : Nt} {ls : List Nat} {l : Nat} (h : fstO N ls = some l) : fstI N ls = l := by unfold fstI; rw [h]
theorem fstO_has {N : Nt} {ls : List Nat} {l : Nat} (h : fstO N ls = some l) : hasMsg (N.lane l) = true := by
  have := List.find?_some h; simpa using this
theorem fstO_mem {N : Nt} {ls : List Nat} {l : Nat} (h : fstO N ls = some l) : l ∈ ls := List.mem_of_find?_eq_some h
theorem fstI_nil (N : Nt) : fstI N [] = -1 := rfl
theorem allB_nil (N : Nt) : allB N [] = true := rfl
theorem fstI_range (N : Nt) (ls : List Nat) (M : Nat) (h : ∀ l ∈ ls, l < M) : -1 ≤ fstI N ls ∧ fstI N ls < M := by
  cases hf : fstO N ls with
  | none => rw [fstI_none hf]; omega
  | some l => rw [fstI_some hf]; have := h l (fstO_mem hf); omega
theorem fstI_snoc_old (N : Nt) (ls : List Nat) (l : Nat) (h : 0 ≤ fstI N ls) : fstI N (ls ++ [l]) = fstI N ls := by
  cases hf : fstO N ls with
  | none => rw [fstI_none hf] at h; omega
  | some k =>
    rw [fstI_some hf]
    refine fstI_some ?_
    unfold fstO at hf ⊢
    rw [List.find?_append, hf]; rfl
theorem fstI_snoc_new (N : Nt) (ls : List Nat) (l : Nat) (h : fstI N ls < 0) (hl : hasMsg (N.lane l) = true) : fstI N (ls ++ [l]) = l := by
  have hf : fstO N ls = none := by
    cases hf : fstO N ls with
    | none => rfl
    | some k => rw [fstI_some hf] at h; omega
  refine fstI_some ?_
  unfold fstO at hf ⊢
  rw [List.find?_append, hf]; simp [hl]
theorem fstI_snoc_no (N : Nt) (ls : List Nat) (l : Nat) (h : fstI N ls < 0) (hl : hasMsg (N.lane l) = false) : fstI N (ls ++ [l]) = fstI N ls := by
  have hf : fstO N ls = none := by
    cases hf : fstO N ls with
    | none => rfl
    | some k => rw [fstI_some hf] at h; omega
  have hg : fstO N (ls ++ [l]) = none := by
    unfold fstO at hf ⊢
    rw [List.find?_append, hf]; simp [hl]
  rw [fstI_none hf, fstI_none hg]
theorem allB_snoc (N : Nt) (ls : List Nat) (l : Nat) : allB N (ls ++ [l]) = (allB N ls && overB (N.lane l)) := by simp [allB]

/-! ### memory -/
/-- The lanes that are asked: a list of the caller's. -/
def ListIn (w : World) (own : Own) (b : Nat) (ls : List Nat) : Prop :=
  own b = none ∧ b < w.heap.size ∧ ∀ i, i < ls.length → w.cell? ⟨b, i, none⟩ = some (.int .i64 (ls.getD i 0))
theorem ListIn.keep {w w' : World} {own own' : Own} {b : Nat} {ls : List Nat} (h : ListIn w own b ls) (hm : Mv own.has w w') (hg : Grows w.heap.size own own') : ListIn w' own' b ls := by
  obtain ⟨h1, h2, h3⟩ := h
  refine ⟨hg _ h2 h1, Nat.lt_of_lt_of_le h2 hm.size, fun i hi => ?_⟩
  rw [hm.cell (p := ⟨b, i, none⟩) h2 (by unfold Own.has; rw [h1]; simp)]
  exact h3 i hi

/-- over. -/
theorem overL (w : World) (own : Own) (A : Ga) (i : Nat) (L : Lq) (h : LaneIs w own A i L L.shut) :
    Calls Try.prog 47 #[.pointer (some ⟨A.q i, 0, none⟩)] w fun e w' => e = .returned (.bool (overB L)) ∧ w = w' := by
  obtain ⟨h1, h2, h3, vs, s, r, h4, h5⟩ := h
  have c0 : w.cell? ⟨A.q i, 0, none⟩ = some (.chan (some (A.c i))) := cell_of_heap h3 0 rfl
  have c1 : w.cell? ⟨A.q i, 1, none⟩ = some (.bool L.closed) := cell_of_heap h3 1 rfl
  have c2 : w.cell? ⟨A.q i, 2, none⟩ = some (.int .i64 L.coming) := cell_of_heap h3 2 rfl
  cases hcl : L.closed with
  | false =>
    rw [hcl] at c1
    have : overB L = false := by simp [overB, Lq.shut, hcl]
    rw [this]
    exact over_open w (A.q i) c1
  | true =>
    rw [hcl] at c1
    by_cases hz : L.coming = 0
    · rw [hz] at c2
      have : overB L = decide (vs.size = 0) := by
        simp only [overB, Lq.shut, hcl, hz, h5.1]
        cases L.buf <;> simp
      rw [this]
      refine over_shut w (A.q i) (A.c i) 64 s r vs L.shut c0 c1 c2 h4 _ ?_
      by_cases hv : vs.size = 0 <;> simp [hv]
    · have : overB L = false := by simp [overB, Lq.shut, hz]
      rw [this]
      exact over_coming w (A.q i) L.coming c1 c2 (by simp; omega)

/-- A message is taken off lane i. -/
theorem LaneIs.pop {w : World} {own : Own} {A : Ga} {i : Nat} {L : Lq} {sh : Bool} {vs : Array Value} {s r : Nat} (h1 : own (A.q i) = some (.q i)) (h2 : own (A.c i) = some (.c i))
    (h3 : w.heap[A.q i]? = some (.cells #[.chan (some (A.c i)), .bool L.closed, .int .i64 L.coming] 86 (0, 0))) (h4 : w.heap[A.c i]? = some (.chan 64 vs sh s r false)) (h5 : BufIs w own i r vs L.buf) {m : List Int} {ms : List (List Int)} (hb : L.buf = m :: ms) :
    ∃ g v, vs.getD 0 undef = v ∧ MsgAt w g v m ∧ own g = some (.msg i r) ∧ g ≠ A.c i ∧ LaneIs (w.setChan (A.c i) 64 (vs.extract 1 vs.size) sh s (r + 1) false) (own.drop g) A i L.pop sh := by
  have hsz : vs.size = ms.length + 1 := by rw [h5.1, hb]; rfl
  have hv0 : vs[0]? = some (vs.getD 0 undef) := by
    rw [Array.getElem?_eq_getElem (by omega), Array.getD_eq_getD_getElem?, Array.getElem?_eq_getElem (by omega)]; rfl
  obtain ⟨g, hg, hm⟩ := h5.2 0 _ m hv0 (by rw [hb]; rfl)
  have hqc : A.q i ≠ A.c i := fun e => by rw [e, h4] at h3; cases h3
  have hgq : A.q i ≠ g := fun e => by rw [← e, h1] at hg; cases hg
  have hgc : A.c i ≠ g := fun e => by rw [← e, h2] at hg; cases hg
  have hoth : ∀ b, b ≠ A.c i → (w.setChan (A.c i) 64 (vs.extract 1 vs.size) sh s (r + 1) false).heap[b]? = w.heap[b]? := fun b hb => by
    simp only [World.setChan]
    rw [Array.getElem?_setIfInBounds_ne (Ne.symm hb)]
  refine ⟨g, _, rfl, hm, by simpa using hg, Ne.symm hgc, by rw [Own.drop_other _ hgq]; exact h1, by rw [Own.drop_other _ hgc]; exact h2, (hoth _ hqc).trans h3, vs.extract 1 vs.size, s, r + 1, heap_setChan _ _ _ _ _ _ _ _ (lt_of_heap h4), ?_, ?_⟩
  · simp [Lq.pop, hb, hsz]
  · intro j v l hv hl
    have hlj : L.buf[j + 1]? = some l := by simpa [Lq.pop, hb] using hl
    have hvj : vs[j + 1]? = some v := by
      rw [Array.getElem?_extract] at hv
      split at hv
      · rwa [Nat.add_comm] at hv
      · cases hv
    obtain ⟨g', hg', hm'⟩ := h5.2 (j + 1) v l hvj hlj
    have hne : g' ≠ g := fun e => by rw [e, hg] at hg'; simp at hg'
    have hne2 : g' ≠ A.c i := fun e => by rw [e, h2] at hg'; cases hg'
    exact ⟨g', by rw [Own.drop_other _ hne, hg']; congr 2; omega, hm'.of_block (hoth _ hne2)⟩
end Go.Proofs.Ytadalodjnbnjkaa
