/- One lane: what sends leave on it; a wait on two nets that are alike there. -/
import Derived.Test.YtadalodjnbnjkaaOne2
namespace Go.Proofs.Ytadalodjnbnjkaa

theorem One.push_pend (o : One) (m : List Int) : (o.push m).pend ≤ o.pend + 1 := by
  have := pushB_len o.buf m
  unfold One.pend One.push
  simp only
  omega
theorem One.sendAt_pend (o : One) (t : Nat) (m : List Int) : (o.sendAt t m).pend ≤ o.pend + 1 := by
  unfold One.sendAt
  split
  · exact o.push_pend m
  · unfold One.pend; simp; omega
theorem One.sendAt_near {o : One} {t : Nat} (h : o.Near 40) (ht : t ≤ 40) (m : List Int) : (o.sendAt t m).Near 40 := by
  unfold One.sendAt
  split
  · exact h
  · intro x hx
    simp only [List.mem_append, List.mem_singleton] at hx
    rcases hx with hx | rfl
    · exact h x hx
    · show o.now < o.now + t ∧ o.now + t ≤ o.now + 40; omega
theorem One.push_head {o : One} {m m' : List Int} {r : List (List Int)} (h : o.buf = m :: r) : ∃ r', (o.push m').buf = m :: r' := by
  unfold One.push pushB
  simp only [h]
  split
  · exact ⟨r ++ [m'], rfl⟩
  · exact ⟨r, rfl⟩
theorem One.sendAt_head {o : One} {m m' : List Int} {t : Nat} {r : List (List Int)} (h : o.buf = m :: r) : ∃ r', (o.sendAt t m').buf = m :: r' := by
  unfold One.sendAt
  split
  · exact One.push_head h
  · exact ⟨r, h⟩
theorem One.fated_all {o : One} {m : List Int} {f : Int × Int} (hf : f.2 ≤ 40) : (o.fated m f).pend ≤ o.pend + 2 ∧ (o.Near 40 → (o.fated m f).Near 40) ∧ ∀ m0 r, o.buf = m0 :: r → ∃ r', (o.fated m f).buf = m0 :: r' := by
  have ht : f.2.toNat ≤ 40 := by omega
  unfold One.fated
  split
  · exact ⟨by have := o.push_pend m; omega, id, fun m0 r h => One.push_head h⟩
  · split
    · exact ⟨by omega, id, fun m0 r h => ⟨r, h⟩⟩
    · split
      · refine ⟨by have := o.push_pend m; have := (o.push m).sendAt_pend f.2.toNat m; omega, fun h => One.sendAt_near (o := o.push m) h ht m, fun m0 r h => ?_⟩
        obtain ⟨r', h'⟩ := One.push_head (m' := m) h
        exact One.sendAt_head h'
      · split
        · exact ⟨by have := o.sendAt_pend f.2.toNat m; omega, fun h => One.sendAt_near h ht m, fun m0 r h => One.sendAt_head h⟩
        · split
          · exact ⟨by have := o.push_pend (m.take f.2.toNat); omega, id, fun m0 r h => One.push_head h⟩
          · exact ⟨by have := o.push_pend (if f.2.toNat < m.length then spoilt m f.2.toNat else m); omega, id, fun m0 r h => One.push_head h⟩
theorem One.ticks_all (o : One) : ∀ k, (o.ticks k).pend ≤ o.pend ∧ (o.Near 40 → (o.ticks k).Near 40) ∧ ∀ m0 r, o.buf = m0 :: r → ∃ r', (o.ticks k).buf = m0 :: r'
  | 0 => ⟨Nat.le_refl _, id, fun m0 r h => ⟨r, h⟩⟩
  | k + 1 => by
    obtain ⟨h1, h2, h3⟩ := One.ticks_all o k
    refine ⟨Nat.le_trans (One.tick_pend _).1 h1, fun h => (One.tick_near (h2 h)).2, fun m0 r h => ?_⟩
    obtain ⟨r', h'⟩ := h3 m0 r h
    exact One.tick_head h'
theorem One.run_all (i : Nat) : ∀ (S : List Snt) (o : One), (∀ s ∈ S, s.fate.2 ≤ 40) → (o.run i S).pend ≤ o.pend + 2 * S.length ∧ (o.Near 40 → (o.run i S).Near 40) ∧ ∀ m0 r, o.buf = m0 :: r → ∃ r', (o.run i S).buf = m0 :: r'
  | [], o, _ => ⟨by simp [One.run], id, fun m0 r h => ⟨r, h⟩⟩
  | s :: S, o, hs => by
    have T := One.ticks_all o s.gap
    have F := One.fated_all (o := o.ticks s.gap) (m := s.data) (hs s (by simp))
    have hone : (o.one i s).pend ≤ o.pend + 2 ∧ (o.Near 40 → (o.one i s).Near 40) ∧ ∀ m0 r, o.buf = m0 :: r → ∃ r', (o.one i s).buf = m0 :: r' := by
      unfold One.one
      split
      · refine ⟨by omega, fun h => F.2.1 (T.2.1 h), fun m0 r h => ?_⟩
        obtain ⟨r', h'⟩ := T.2.2 m0 r h
        exact F.2.2 m0 r' h'
      · exact ⟨by omega, T.2.1, T.2.2⟩
    obtain ⟨h1, h2, h3⟩ := One.run_all i S (o.one i s) (fun t ht => hs t (by simp [ht]))
    refine ⟨by show ((o.one i s).run i S).pend ≤ _; simp only [List.length_cons]; omega, fun h => h2 (hone.2.1 h), fun m0 r h => ?_⟩
    obtain ⟨r', h'⟩ := hone.2.2 m0 r h
    exact h3 m0 r' h'

theorem Wr.eta (R : Wr) : R = ⟨R.lane, R.msg, R.err, R.net⟩ := rfl
/-- A wait on lane 1 of two nets that are alike there. -/
theorem apart_round {N M : Nt} {B p : Nat} (hN : Going N B) (hM : Going M B) (hv : view 1 N = view 1 M) (hn : (view 1 N).Near 40) (hp : (view 1 N).pend ≤ p) :
    (∃ m x y N' M', Nt.waitGo [1] 50 N = ⟨x, some m, 0, N'⟩ ∧ Nt.waitGo [1] 50 M = ⟨y, some m, 0, M'⟩ ∧ Going N' (B + 50) ∧ Going M' (B + 50) ∧ view 1 N' = view 1 M' ∧ (view 1 N').Near 40 ∧ (view 1 N').pend ≤ p - 1 ∧ ∀ m0 r, (view 1 N).buf = m0 :: r → m = m0) ∨
    (∃ x y N' M', Nt.waitGo [1] 50 N = ⟨x, none, 190, N'⟩ ∧ Nt.waitGo [1] 50 M = ⟨y, none, 190, M'⟩ ∧ Going N' (B + 50) ∧ Going M' (B + 50) ∧ view 1 N' = view 1 M' ∧ (view 1 N').Near 40 ∧ (view 1 N').pend ≤ p - 1 ∧ (view 1 N).buf = []) := by
  obtain ⟨a1, a2, a3⟩ := view_wait 1 50 N (hN.opn 1)
  obtain ⟨c1, c2, c3⟩ := view_wait 1 50 M (hM.opn 1)
  rw [← hv] at c1 c2 c3
  have e1 := Wr.eta (Nt.waitGo [1] 50 N)
  have e2 := Wr.eta (Nt.waitGo [1] 50 M)
  have g1 := hN.wait 1 50
  have g2 := hM.wait 1 50
  by_cases h0 : 0 < (view 1 N).pend
  · left
    obtain ⟨m, o', q1, q2, q3⟩ := One.wait_some 50 40 (view 1 N) (fun x hx => by have := hn x hx; omega) hn h0
    rw [q1] at a1 a2 a3 c1 c2 c3
    simp only [Option.isSome_some, if_true] at a3 c3
    rw [a1, a3] at e1
    rw [c1, c3] at e2
    refine ⟨m, _, _, _, _, e1, e2, g1, g2, a2.trans c2.symm, by rw [a2]; exact q3, by rw [a2]; show o'.pend ≤ _; omega, fun m0 r h => ?_⟩
    have : One.wait 50 (view 1 N) = (some m0, { view 1 N with buf := r }) := by
      rw [One.wait.eq_def]; simp only [h]
    rw [this] at q1
    have := congrArg Prod.fst q1
    simp at this
    exact this.symm
  · right
    obtain ⟨o', q1, q2, q3⟩ := One.wait_none 50 (view 1 N) (by omega)
    rw [q1] at a1 a2 a3 c1 c2 c3
    simp only [Option.isSome_none, Bool.false_eq_true, if_false] at a3 c3
    rw [a1, a3] at e1
    rw [c1, c3] at e2
    refine ⟨_, _, _, _, e1, e2, g1, g2, a2.trans c2.symm, by rw [a2]; intro x hx; have hx' : x ∈ o'.late := hx; rw [q3] at hx'; simp at hx', by rw [a2]; show o'.pend ≤ _; omega, ?_⟩
    unfold One.pend at h0
    exact List.eq_nil_of_length_eq_zero (by omega)
theorem apart_end {N : Nt} {B : Nat} (hN : Going N B) (hp : (view 1 N).pend = 0) : ∃ x N', Nt.waitGo [1] 0 N = ⟨x, none, 190, N'⟩ := by
  obtain ⟨a1, a2, a3⟩ := view_wait 1 0 N (hN.opn 1)
  obtain ⟨o', q1, q2, q3⟩ := One.wait_none 0 (view 1 N) hp
  rw [q1] at a1 a3
  simp only [Option.isSome_none, Bool.false_eq_true, if_false] at a3
  have e1 := Wr.eta (Nt.waitGo [1] 0 N)
  rw [a1, a3] at e1
  exact ⟨_, _, e1⟩

theorem sends_view {S : List Snt} {b1 : Bool} : view 1 (sendsN b1 true S) = One.run 1 ⟨0, [], []⟩ S := by
  unfold sendsN
  rw [view_run S (net0 2 (fatesOf b1 true S)) (fun s hs h => by unfold sel; rw [h]; simp) (by show (fatesOf b1 true S).drop 0 = _; rw [List.drop_zero])]
  rfl
theorem sends_run {S : List Snt} {b1 : Bool} (hS : ∀ s ∈ S, TameS s) (hl : S.length ≤ 30) : Going (sendsN b1 true S) 600 ∧ (sendsN b1 true S).now = gaps S := by
  have h0 : RunOk (net0 2 (fatesOf b1 true S)) 0 := RunOk.start _ (fun f hf => by
    unfold fatesOf at hf
    simp only [List.mem_map, List.mem_filter] at hf
    obtain ⟨s, hs, rfl⟩ := hf
    exact (hS s hs.1).2.2.2)
  have h1 := RunOk.run hS b1 true h0
  rw [Nat.zero_add] at h1
  refine ⟨(h1.going (by omega)).more (by omega), ?_⟩
  unfold sendsN
  rw [runS_now hS b1 true h0]
  show 0 + gaps S = _
  omega
/-- The start of LaneApart's waits. -/
theorem apart_start {S : List Snt} {m : List Int} (hS : ∀ s ∈ (⟨0, 1, m, (0, 0)⟩ :: S : List Snt), TameS s) (hf : ∀ s ∈ S, s.fate.2 ≤ 40) (hl : S.length ≤ 24) :
    ∃ N M, sendsN true true (⟨0, 1, m, (0, 0)⟩ :: S) = N ∧ sendsN false true (⟨0, 1, m, (0, 0)⟩ :: S) = M ∧ Going N 600 ∧ Going M 600 ∧ view 1 N = view 1 M ∧ (view 1 N).Near 40 ∧ (view 1 N).pend ≤ 2 * (S.length + 1) ∧ ∃ r, (view 1 N).buf = m :: r := by
  have hlen : (⟨0, 1, m, (0, 0)⟩ :: S : List Snt).length ≤ 30 := by simp; omega
  have hf' : ∀ s ∈ (⟨0, 1, m, (0, 0)⟩ :: S : List Snt), s.fate.2 ≤ 40 := by
    intro s hs
    rcases List.mem_cons.1 hs with rfl | hs
    · simp
    · exact hf s hs
  have v1 := sends_view (S := ⟨0, 1, m, (0, 0)⟩ :: S) (b1 := true)
  have v2 := sends_view (S := ⟨0, 1, m, (0, 0)⟩ :: S) (b1 := false)
  refine ⟨_, _, rfl, rfl, (sends_run hS hlen).1, (sends_run hS hlen).1, v1.trans v2.symm, ?_, ?_, ?_⟩
  · rw [v1]
    exact (One.run_all 1 _ ⟨0, [], []⟩ hf').2.1 (fun x hx => by simp at hx)
  · rw [v1]
    have := (One.run_all 1 (⟨0, 1, m, (0, 0)⟩ :: S) ⟨0, [], []⟩ hf').1
    simp only [List.length_cons] at this
    exact Nat.le_trans this (by unfold One.pend; simp)
  · rw [v1]
    have e : One.run 1 ⟨0, [], []⟩ (⟨0, 1, m, (0, 0)⟩ :: S) = One.run 1 ⟨0, [m], []⟩ S := rfl
    rw [e]
    exact (One.run_all 1 S ⟨0, [m], []⟩ hf).2.2 m [] rfl
end Go.Proofs.Ytadalodjnbnjkaa
