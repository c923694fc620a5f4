/- LaneSteps, as plain data: a message that comes at d. -/
import Derived.Test.YtadalodjnbnjkaaPair
namespace Go.Proofs.Ytadalodjnbnjkaa
open Go.RowKit Go.Conc

theorem Holds.ahead {w w1 wr : World} {A : Ga} {N : Nt} {K : List Nat} (h : Holds w1 A N K wr) (hm : Mv (fun _ => False) w w1) : Holds w A N K wr := by
  obtain ⟨own, h1, h2, h3, h4⟩ := h
  exact ⟨own, h1, hm.trans h2, fun b hb => h3 b (Nat.lt_of_lt_of_le hb hm.size), h4⟩

/-- A net of two lanes at time t to which one message comes at d. -/
def Comes (N : Nt) (t d : Nat) (m : List Int) : Prop :=
  (t < d ∧ Two N [(3, (d : Int))] 1 t { lq0 with coming := lq0.coming + 1 } lq0 [⟨d, 0, m⟩]) ∨ (d = t ∧ Two N [(3, (d : Int))] 1 t (lq0.push m) lq0 [])

theorem comes_start (d : Nat) (m : List Int) : Comes (sendsN true true [⟨0, 0, m, (3, (d : Int))⟩]) 0 d m := by
  have T0 := Two.start [((3 : Int), (d : Int))]
  by_cases hd : 0 < d
  · have T1 := T0.delay0 m hd rfl
    have e : (0 + d) = d := Nat.zero_add d
    simp only [e, List.nil_append] at T1
    exact .inl ⟨hd, T1⟩
  · obtain rfl : d = 0 := by omega
    refine .inr ⟨rfl, ?_⟩
    have e : (net0 2 [((3 : Int), ((0 : Nat) : Int))]).send 0 m = (net0 2 [((3 : Int), ((0 : Nat) : Int))]).took.pushed 0 m := by
      unfold Nt.send; rw [T0.fateOf]; simp [Nt.fated, Nt.sendAt]
    show Two ((net0 2 [((3 : Int), ((0 : Nat) : Int))]).send 0 m) _ _ _ _ _ _
    rw [e]
    refine ⟨rfl, rfl, rfl, rfl, ?_, ?_, rfl⟩
    · rw [pushed_same]; rfl
    · rw [pushed_other _ _ (by omega)]; rfl
theorem Comes.now {N : Nt} {t d : Nat} {m : List Int} (h : Comes N t d m) : N.now = t := by
  rcases h with ⟨_, T⟩ | ⟨_, T⟩ <;> exact T.now
theorem Comes.nl {N : Nt} {t d : Nat} {m : List Int} (h : Comes N t d m) : N.nl = 2 := by
  rcases h with ⟨_, T⟩ | ⟨_, T⟩ <;> exact T.nl
theorem Comes.fine {N : Nt} {t d : Nat} {m : List Int} (h : Comes N t d m) (ht : t ≤ 1000) (hd : d ≤ 1000) (hm : m.length ≤ 4096) : Fine N := by
  have hmay : ∀ f ∈ [((3 : Int), (d : Int))], mayF f := by
    intro f hf; simp at hf; subst hf; unfold mayF; simp; omega
  rcases h with ⟨_, T⟩ | ⟨_, T⟩
  · refine T.fine ⟨hmay, by omega, by omega, by simp, ?_, rfl, rfl⟩
    intro x hx; simp at hx; subst hx; simp; omega
  · exact T.fine ⟨hmay, by omega, by omega, by simp, by intro x hx; simp at hx, rfl, rfl⟩
theorem Comes.some {N : Nt} {t d : Nat} {m : List Int} (h : Comes N t d m) (r : Nat) (hr : d ≤ t + r) : ∃ N', Nt.waitGo [0] r N = ⟨0, some m, 0, N'⟩ ∧ N'.now = d := by
  rcases h with ⟨hd, T⟩ | ⟨rfl, T⟩
  · have q := waitGo_quiet (N := N) (ls := [0]) (d - 1 - t) (r - (d - 1 - t)) (fstO_empty (by rw [T.l0]; rfl)) (allB_open (by rw [T.l0]; rfl)) (by rw [T.later, T.now]; intro x hx; simp at hx; subst hx; simp; omega)
    have e1 : d - 1 - t + (r - (d - 1 - t)) = r := by omega
    have e2 : N.now + (d - 1 - t) = d - 1 := by rw [T.now]; omega
    rw [e1, e2] at q
    have T2 := T.at (d - 1)
    obtain ⟨r', hr'⟩ : ∃ r', r - (d - 1 - t) = r' + 1 := ⟨r - (d - 1 - t) - 1, by omega⟩
    rw [hr', waitGo_succ (fstO_empty (by rw [T2.l0]; rfl)) (allB_open (by rw [T2.l0]; rfl))] at q
    have T3 := Two.tick0 T2 (by omega)
    refine ⟨_, q.trans (waitGo_has (ms := []) (by rw [T3.l0]; rfl)), ?_⟩
    rw [T3.pop0.now]; omega
  · exact ⟨_, waitGo_has (ms := []) (by rw [T.l0]; rfl), T.pop0.now⟩
theorem Comes.none {N : Nt} {t d : Nat} {m : List Int} (h : Comes N t d m) (r : Nat) (hr : t + r < d) : ∃ N', Nt.waitGo [0] r N = ⟨0, none, 190, N'⟩ ∧ Comes N' (t + r) d m := by
  rcases h with ⟨hd, T⟩ | ⟨rfl, T⟩
  · have q := waitGo_out (N := N) (ls := [0]) r (fstO_empty (by rw [T.l0]; rfl)) (allB_open (by rw [T.l0]; rfl)) (by rw [T.later, T.now]; intro x hx; simp at hx; subst hx; simp; omega)
    rw [T.now] at q
    exact ⟨_, q, .inl ⟨hr, T.at (t + r)⟩⟩
  · omega
theorem below_nat (n : Int) (m : Nat) (hm : 0 < m) (hb : m ≤ 1000000) : ∃ k : Nat, k < m ∧ ∀ W, Calls Try.prog 17 #[.int .i64 n, .int .i64 m] W fun r W' => r = .returned (.int .i64 k) ∧ W = W' := by
  have h0 := Int.emod_nonneg n (show (m : Int) ≠ 0 by omega)
  have h1 := Int.emod_lt_of_pos n (show (0 : Int) < m by omega)
  obtain ⟨e, he⟩ := Int.eq_ofNat_of_zero_le h0
  refine ⟨e, by omega, fun W => ?_⟩
  have := below_any n m W (by omega) (by omega)
  rw [he] at this
  exact this
/-- One message, written out. -/
theorem sentsIn_one (w : World) (d : Nat) (a : Option Addr) (n c ty : Nat) (l : List Int) (h : RowIn w a n l) (hl : l.length = n) :
    SentsIn (w.alloc (.cells #[.int .i64 0, .int .i64 0, .slice a n c, .int .i64 3, .int .i64 d] ty)) w.heap.size [⟨0, 0, l, (3, (d : Int))⟩] := by
  intro i s hs
  have h0 := heap_alloc_new w (.cells #[.int .i64 0, .int .i64 0, .slice a n c, .int .i64 3, .int .i64 d] ty)
  rcases i with _ | i
  · obtain rfl := (Option.some.inj hs)
    refine ⟨a, c, cell_of_heap h0 0 rfl, cell_of_heap h0 1 rfl, ?_, cell_of_heap h0 3 rfl, cell_of_heap h0 4 rfl, ?_⟩
    · show _ = some (Value.slice a l.length c)
      rw [hl]
      exact cell_of_heap h0 2 rfl
    · show RowIn _ a l.length l
      rw [hl]
      exact h.still ((Below.refl _ _).alloc (Nat.le_refl _) _)
  · exact absurd hs (by simp)
end Go.Proofs.Ytadalodjnbnjkaa
