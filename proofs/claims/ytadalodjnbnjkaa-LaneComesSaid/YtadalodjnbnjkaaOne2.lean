/- One lane: what a wait on it gives; how much is still to come. -/
import Derived.Test.YtadalodjnbnjkaaOne
namespace Go.Proofs.Ytadalodjnbnjkaa

theorem One.wait_succ {o : One} (hb : o.buf = []) (t : Nat) : One.wait (t + 1) o = One.wait t o.tick := by
  rw [One.wait.eq_def]; simp only [hb]
theorem view_wait (i : Nat) : ∀ (t : Nat) (N : Nt), (N.lane i).closed = false →
    (Nt.waitGo [i] t N).msg = (One.wait t (view i N)).1 ∧ view i (Nt.waitGo [i] t N).net = (One.wait t (view i N)).2 ∧ (Nt.waitGo [i] t N).err = (if (One.wait t (view i N)).1.isSome then 0 else 190)
  | t, N, hc => by
    have hsh : (N.lane i).shut = false := by unfold Lq.shut; rw [hc]; rfl
    cases hb : (N.lane i).buf with
    | cons m ms =>
      rw [waitGo_has hb]
      have hv : (view i N).buf = m :: ms := hb
      have e : One.wait t (view i N) = (some m, { view i N with buf := ms }) := by
        unfold One.wait
        rw [hv]
      rw [e]
      refine ⟨rfl, ?_, rfl⟩
      show view i (N.popped i) = _
      rw [view_popped]
      unfold One.pop
      rw [hv]; rfl
    | nil =>
      have hv : (view i N).buf = [] := hb
      cases t with
      | zero =>
        rw [waitGo_zero (fstO_empty hb) (allB_open hsh)]
        have e : One.wait 0 (view i N) = (none, view i N) := by
          unfold One.wait
          rw [hv]
        rw [e]
        exact ⟨rfl, rfl, rfl⟩
      | succ t =>
        rw [waitGo_succ (fstO_empty hb) (allB_open hsh)]
        have e : One.wait (t + 1) (view i N) = One.wait t (view i N).tick := One.wait_succ hv t
        rw [e, ← view_tick]
        exact view_wait i t N.tick (by rw [tick_closed]; exact hc)
/-- The net behind a wait: some ticks, and one message less at the most. -/
theorem wait_net (i : Nat) : ∀ (t : Nat) (N : Nt), ∃ r, r ≤ t ∧ ((Nt.waitGo [i] t N).net = N.ticks r ∨ (Nt.waitGo [i] t N).net = (N.ticks r).popped i)
  | t, N => by
    cases hf : fstO N [i] with
    | some l =>
      rw [waitGo_some hf]
      have hl : l = i := by have := fstO_mem hf; simpa using this
      subst hl
      exact ⟨0, Nat.zero_le _, .inr rfl⟩
    | none =>
      cases ha : allB N [i] with
      | true => rw [waitGo_over hf ha]; exact ⟨0, Nat.zero_le _, .inl rfl⟩
      | false =>
        cases t with
        | zero => rw [waitGo_zero hf ha]; exact ⟨0, Nat.zero_le _, .inl rfl⟩
        | succ t =>
          rw [waitGo_succ hf ha]
          obtain ⟨r, hr, h⟩ := wait_net i t N.tick
          have e : ∀ r, N.tick.ticks r = N.ticks (r + 1) := fun r => by
            have := ticks_add N 1 r
            rw [Nat.add_comm] at this
            exact this.symm
          rw [e] at h
          exact ⟨r + 1, by omega, h⟩

/-- A net of two open lanes that goes on. -/
structure Going (N : Nt) (B : Nat) : Prop where
  nl : N.nl = 2
  ok : Okn N
  len : N.later.length ≤ 1000
  now : N.now ≤ B
  due : ∀ x ∈ N.later, x.due ≤ 10000
  opn : ∀ i, (N.lane i).closed = false
theorem RunOk.going {N : Nt} {k : Nat} (h : RunOk N k) (hk : k ≤ 100) : Going N (20 * k) :=
  ⟨h.nl, h.ok, by have := h.len; omega, h.now, fun x hx => by have := h.due x hx; omega, h.opn⟩
theorem Going.fine {N : Nt} {B : Nat} (h : Going N B) (hB : B ≤ 1000000) : Fine N :=
  ⟨h.ok, by have := h.now; omega, by have := h.len; omega, fun x hx => by have := h.due x hx; omega⟩
theorem Going.ticks {N : Nt} {B : Nat} (h : Going N B) (r : Nat) : Going (N.ticks r) (B + r) :=
  ⟨(ticks_nl N r).trans h.nl, ticks_ok h.ok r, by have := ticks_len N r; have := h.len; omega, by rw [ticks_now]; have := h.now; omega, fun x hx => h.due x (ticks_mem N r x hx), fun i => (ticks_closed N i r).trans (h.opn i)⟩
theorem Going.popped {N : Nt} {B : Nat} (h : Going N B) (i : Nat) : Going (N.popped i) B := by
  have hl : ∀ j, ((N.popped i).lane j).closed = (N.lane j).closed ∧ ((N.popped i).lane j).coming = (N.lane j).coming := fun j => by
    by_cases hj : j = i
    · subst hj; rw [popped_same]; exact ⟨rfl, rfl⟩
    · rw [popped_other _ hj]; exact ⟨rfl, rfl⟩
  exact ⟨h.nl, ⟨h.ok.fates, h.ok.later, fun j hj => (hl j).2.trans (h.ok.coming j hj)⟩, h.len, h.now, h.due, fun j => (hl j).1.trans (h.opn j)⟩
theorem Going.more {N : Nt} {B B' : Nat} (h : Going N B) (hb : B ≤ B') : Going N B' := ⟨h.nl, h.ok, h.len, by have := h.now; omega, h.due, h.opn⟩
theorem Going.wait {N : Nt} {B : Nat} (h : Going N B) (i t : Nat) : Going (Nt.waitGo [i] t N).net (B + t) := by
  obtain ⟨r, hr, h1 | h1⟩ := wait_net i t N
  · rw [h1]; exact (h.ticks r).more (by omega)
  · rw [h1]; exact ((h.ticks r).popped i).more (by omega)

/-! ### how much is still to come -/
def One.pend (o : One) : Nat := o.buf.length + o.late.length
/-- All that is late comes within d ticks, none of it now. -/
def One.Near (d : Nat) (o : One) : Prop := ∀ x ∈ o.late, o.now < x.1 ∧ x.1 ≤ o.now + d

theorem pushB_len (b : List (List Int)) (m : List Int) : (pushB b m).length ≤ b.length + 1 ∧ 0 < (pushB b m).length := by
  unfold pushB; split
  · simp
  · omega
theorem step_fold (nw : Nat) : ∀ (X : List (Nat × List Int)) (b : List (List Int)) (l : List (Nat × List Int)),
    (X.foldl (One.step nw) (b, l)).1.length + (X.foldl (One.step nw) (b, l)).2.length ≤ b.length + l.length + X.length ∧
    (0 < b.length + l.length + X.length → 0 < (X.foldl (One.step nw) (b, l)).1.length + (X.foldl (One.step nw) (b, l)).2.length) ∧
    (∀ x ∈ (X.foldl (One.step nw) (b, l)).2, x ∈ l ∨ (x ∈ X ∧ nw < x.1)) ∧ ∃ r, (X.foldl (One.step nw) (b, l)).1 = b ++ r
  | [], b, l => ⟨by simp, fun h => by simpa using h, fun x hx => .inl hx, [], by simp⟩
  | x :: X, b, l => by
    rw [List.foldl_cons]
    by_cases hd : nw < x.1
    · have e : One.step nw (b, l) x = (b, l ++ [x]) := by simp [One.step, hd]
      rw [e]
      obtain ⟨h1, h2, h3, r, h4⟩ := step_fold nw X b (l ++ [x])
      simp only [List.length_append, List.length_cons, List.length_nil] at h1 h2 ⊢
      refine ⟨by omega, fun _ => h2 (by omega), fun y hy => ?_, r, h4⟩
      rcases h3 y hy with h | h
      · simp only [List.mem_append, List.mem_singleton] at h
        rcases h with h | rfl
        · exact .inl h
        · exact .inr ⟨by simp, hd⟩
      · exact .inr ⟨by simp [h.1], h.2⟩
    · have e : One.step nw (b, l) x = (pushB b x.2, l) := by simp [One.step, hd]
      rw [e]
      obtain ⟨h1, h2, h3, r, h4⟩ := step_fold nw X (pushB b x.2) l
      have hp := pushB_len b x.2
      simp only [List.length_cons]
      refine ⟨by omega, fun _ => h2 (by omega), fun y hy => ?_, ?_⟩
      · rcases h3 y hy with h | h
        · exact .inl h
        · exact .inr ⟨by simp [h.1], h.2⟩
      · rw [h4]
        unfold pushB
        split
        · exact ⟨[x.2] ++ r, by simp⟩
        · exact ⟨r, rfl⟩
theorem One.tick_pend (o : One) : o.tick.pend ≤ o.pend ∧ (0 < o.pend → 0 < o.tick.pend) := by
  obtain ⟨h1, h2, _⟩ := step_fold (o.now + 1) o.late o.buf []
  simp only [List.length_nil, Nat.add_zero] at h1 h2
  exact ⟨h1, h2⟩
theorem One.tick_near {o : One} {d : Nat} (h : o.Near d) : o.tick.Near (d - 1) ∧ o.tick.Near d := by
  obtain ⟨_, _, h3, _⟩ := step_fold (o.now + 1) o.late o.buf []
  have key : ∀ x ∈ o.tick.late, o.now + 1 < x.1 ∧ x.1 ≤ o.now + d := fun x hx => by
    rcases h3 x hx with h' | h'
    · simp at h'
    · exact ⟨h'.2, (h x h'.1).2⟩
  refine ⟨fun x hx => ?_, fun x hx => ?_⟩
  · have := key x hx
    show o.now + 1 < x.1 ∧ x.1 ≤ o.now + 1 + (d - 1)
    omega
  · have := key x hx
    show o.now + 1 < x.1 ∧ x.1 ≤ o.now + 1 + d
    omega
theorem One.tick_head {o : One} {m : List Int} {r : List (List Int)} (h : o.buf = m :: r) : ∃ r', o.tick.buf = m :: r' := by
  obtain ⟨_, _, _, r', h4⟩ := step_fold (o.now + 1) o.late o.buf []
  rw [h] at h4
  exact ⟨r ++ r', by show (o.late.foldl (One.step (o.now + 1)) (o.buf, [])).1 = _; rw [h]; exact h4⟩
/-- While something is to come within t ticks a wait of t gives it. -/
theorem One.wait_some : ∀ (t d : Nat) (o : One), o.Near t → o.Near d → 0 < o.pend → ∃ m o', One.wait t o = (some m, o') ∧ o'.pend + 1 ≤ o.pend ∧ o'.Near d
  | t, d, o, hn, hd, hp => by
    cases hb : o.buf with
    | cons m ms =>
      refine ⟨m, { o with buf := ms }, by unfold One.wait; rw [hb], ?_, hd⟩
      unfold One.pend; rw [hb]; simp; omega
    | nil =>
      cases t with
      | zero =>
        exfalso
        have hl : o.late ≠ [] := by intro h; unfold One.pend at hp; rw [hb, h] at hp; simp at hp
        obtain ⟨x, X, hx⟩ := List.exists_cons_of_ne_nil hl
        have := hn x (by rw [hx]; simp)
        omega
      | succ t =>
        have e : One.wait (t + 1) o = One.wait t o.tick := One.wait_succ hb t
        have h1 := One.tick_near hn
        have h2 := One.tick_near hd
        have h3 := One.tick_pend o
        obtain ⟨m, o', q1, q2, q3⟩ := One.wait_some t d o.tick (by simpa using h1.1) h2.2 (h3.2 hp)
        exact ⟨m, o', by rw [e]; exact q1, by omega, q3⟩
theorem One.wait_none : ∀ (t : Nat) (o : One), o.pend = 0 → ∃ o', One.wait t o = (none, o') ∧ o'.pend = 0 ∧ o'.late = []
  | t, o, hp => by
    have hb : o.buf = [] := by unfold One.pend at hp; exact List.eq_nil_of_length_eq_zero (by omega)
    have hl : o.late = [] := by unfold One.pend at hp; exact List.eq_nil_of_length_eq_zero (by omega)
    cases t with
    | zero => exact ⟨o, by unfold One.wait; rw [hb], hp, hl⟩
    | succ t =>
      have e : One.wait (t + 1) o = One.wait t o.tick := One.wait_succ hb t
      obtain ⟨o', q1, q2, q3⟩ := One.wait_none t o.tick (by have := (One.tick_pend o).1; omega)
      exact ⟨o', by rw [e]; exact q1, q2, q3⟩
end Go.Proofs.Ytadalodjnbnjkaa
