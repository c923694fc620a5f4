/- One lane: its messages stay short. -/
import Derived.Test.YtadalodjnbnjkaaOne3
namespace Go.Proofs.Ytadalodjnbnjkaa

def One.Small (o : One) : Prop := (∀ m ∈ o.buf, m.length ≤ 4096) ∧ ∀ x ∈ o.late, x.2.length ≤ 4096
theorem pushB_small {b : List (List Int)} {m : List Int} (hb : ∀ x ∈ b, x.length ≤ 4096) (hm : m.length ≤ 4096) : ∀ x ∈ pushB b m, x.length ≤ 4096 := by
  intro x hx
  unfold pushB at hx
  split at hx
  · simp only [List.mem_append, List.mem_singleton] at hx
    rcases hx with hx | rfl
    · exact hb x hx
    · exact hm
  · exact hb x hx
theorem One.Small.push {o : One} (h : o.Small) {m : List Int} (hm : m.length ≤ 4096) : (o.push m).Small := ⟨pushB_small h.1 hm, h.2⟩
theorem One.Small.sendAt {o : One} (h : o.Small) {m : List Int} (hm : m.length ≤ 4096) (t : Nat) : (o.sendAt t m).Small := by
  unfold One.sendAt
  split
  · exact h.push hm
  · refine ⟨h.1, fun x hx => ?_⟩
    simp only [List.mem_append, List.mem_singleton] at hx
    rcases hx with hx | rfl
    · exact h.2 x hx
    · exact hm
theorem One.Small.fated {o : One} (h : o.Small) {m : List Int} (hm : m.length ≤ 4096) (f : Int × Int) : (o.fated m f).Small := by
  unfold One.fated
  split
  · exact h.push hm
  · split
    · exact h
    · split
      · exact (h.push hm).sendAt hm _
      · split
        · exact h.sendAt hm _
        · split
          · exact h.push (by rw [List.length_take]; omega)
          · refine h.push ?_
            split
            · unfold spoilt; rw [List.length_set]; exact hm
            · exact hm
theorem step_small (nw : Nat) : ∀ (X : List (Nat × List Int)) (b : List (List Int)) (l : List (Nat × List Int)), (∀ m ∈ b, m.length ≤ 4096) → (∀ x ∈ l, x.2.length ≤ 4096) → (∀ x ∈ X, x.2.length ≤ 4096) →
    (∀ m ∈ (X.foldl (One.step nw) (b, l)).1, m.length ≤ 4096) ∧ ∀ x ∈ (X.foldl (One.step nw) (b, l)).2, x.2.length ≤ 4096
  | [], b, l, hb, hl, _ => ⟨hb, hl⟩
  | x :: X, b, l, hb, hl, hX => by
    rw [List.foldl_cons]
    by_cases hd : nw < x.1
    · have e : One.step nw (b, l) x = (b, l ++ [x]) := by simp [One.step, hd]
      rw [e]
      refine step_small nw X b _ hb (fun y hy => ?_) (fun y hy => hX y (by simp [hy]))
      simp only [List.mem_append, List.mem_singleton] at hy
      rcases hy with hy | rfl
      · exact hl y hy
      · exact hX _ (by simp)
    · have e : One.step nw (b, l) x = (pushB b x.2, l) := by simp [One.step, hd]
      rw [e]
      exact step_small nw X _ l (pushB_small hb (hX x (by simp))) hl (fun y hy => hX y (by simp [hy]))
theorem One.Small.tick {o : One} (h : o.Small) : o.tick.Small := step_small (o.now + 1) o.late o.buf [] h.1 (fun x hx => by simp at hx) h.2
theorem One.Small.ticks {o : One} (h : o.Small) : ∀ k, (o.ticks k).Small
  | 0 => h
  | k + 1 => (One.Small.ticks h k).tick
theorem One.Small.run (i : Nat) : ∀ (S : List Snt) {o : One}, o.Small → (∀ s ∈ S, s.data.length ≤ 4096) → (o.run i S).Small
  | [], _, h, _ => h
  | s :: S, o, h, hs => by
    refine One.Small.run i S (o := o.one i s) ?_ (fun t ht => hs t (by simp [ht]))
    unfold One.one
    split
    · exact (h.ticks _).fated (hs s (by simp)) _
    · exact h.ticks _
theorem One.Small.wait : ∀ (t : Nat) {o : One}, o.Small → (One.wait t o).2.Small ∧ ∀ m, (One.wait t o).1 = some m → m.length ≤ 4096
  | t, o, h => by
    cases hb : o.buf with
    | cons m ms =>
      have e : One.wait t o = (some m, { o with buf := ms }) := by rw [One.wait.eq_def]; simp only [hb]
      rw [e]
      refine ⟨⟨fun x hx => h.1 x (by rw [hb]; exact List.mem_cons_of_mem _ hx), h.2⟩, fun x hx => ?_⟩
      have hx' : m = x := by simpa using hx
      subst hx'
      exact h.1 m (by rw [hb]; simp)
    | nil =>
      cases t with
      | zero =>
        have e : One.wait 0 o = (none, o) := by rw [One.wait.eq_def]; simp only [hb]
        rw [e]
        exact ⟨h, fun m hm => by simp at hm⟩
      | succ t =>
        rw [One.wait_succ hb t]
        exact One.Small.wait t h.tick
theorem small_wait {N N' : Nt} {t : Nat} {x e : Int} {r : Option (List Int)} (hc : (N.lane 1).closed = false) (h : Nt.waitGo [1] t N = ⟨x, r, e, N'⟩) (hs : (view 1 N).Small) : (view 1 N').Small ∧ ∀ m, r = some m → m.length ≤ 4096 := by
  obtain ⟨a1, a2, _⟩ := view_wait 1 t N hc
  rw [h] at a1 a2
  simp only at a1 a2
  have := One.Small.wait t hs
  rw [a2, a1]
  exact this
theorem sends_small {S : List Snt} {b1 : Bool} (hS : ∀ s ∈ S, TameS s) : (view 1 (sendsN b1 true S)).Small := by
  rw [sends_view]
  exact One.Small.run 1 S ⟨fun m hm => by simp at hm, fun x hx => by simp at hx⟩ (fun s hs => (hS s hs).2.2.1)
end Go.Proofs.Ytadalodjnbnjkaa
