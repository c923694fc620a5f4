/- Pass and Close. -/
import Derived.Test.YtadalodjnbnjkaaTick3
namespace Go.Proofs.Ytadalodjnbnjkaa
open Go.RowKit Go.Conc

def Nt.ticks (N : Nt) : Nat → Nt
  | 0 => N
  | k + 1 => (N.ticks k).tick
theorem ticks_ok {N : Nt} (h : Okn N) : ∀ k, Okn (N.ticks k)
  | 0 => h
  | k + 1 => (ticks_ok h k).tick
theorem ticks_now (N : Nt) : ∀ k, (N.ticks k).now = N.now + k
  | 0 => rfl
  | k + 1 => by show (N.ticks k).now + 1 = _; rw [ticks_now N k]; omega
theorem ticks_nl (N : Nt) : ∀ k, (N.ticks k).nl = N.nl
  | 0 => rfl
  | k + 1 => by show (N.ticks k).nl = _; exact ticks_nl N k
theorem ticks_mem (N : Nt) : ∀ k, ∀ x ∈ (N.ticks k).later, x ∈ N.later
  | 0 => fun _ h => h
  | k + 1 => fun x h => ticks_mem N k x (ticked_mem (N.ticks k) _ (Nat.le_refl _) x h)
theorem ticks_len (N : Nt) : ∀ k, (N.ticks k).later.length ≤ N.later.length
  | 0 => Nat.le_refl _
  | k + 1 => Nat.le_trans (ticked_len (N.ticks k) _ (Nat.le_refl _)) (ticks_len N k)
theorem ticks_add (N : Nt) (a : Nat) : ∀ b, N.ticks (a + b) = (N.ticks a).ticks b
  | 0 => rfl
  | b + 1 => by show (N.ticks (a + b)).tick = _; rw [ticks_add N a b]; rfl

/-- What is asked of a net whose time goes on. -/
structure Fine (N : Nt) : Prop where
  ok : Okn N
  now : N.now < 549755813888
  later : N.later.length < 549755813888
  due : ∀ x ∈ N.later, x.due < 4398046511104

theorem ticks_tick_any (w : World) (own : Own) (A : Ga) (N : Nt) (k : Nat) (h : NetIs w own A (N.ticks k)) (hf : Fine N) (hk : k ≤ 65536) :
    Calls Try.prog 48 #[.pointer (some ⟨A.net, 0, none⟩)] w (Leaves w own A (N.ticks (k + 1)) (.returned (.tuple #[]))) :=
  tick_any w own A (N.ticks k) h (ticks_ok hf.ok k) (by rw [ticks_now]; have := hf.now; omega) (by have := ticks_len N k; have := hf.later; omega) (fun x hx => hf.due x (ticks_mem N k x hx))

/-- The state of a loop of ticks. -/
def TicksRel (w : World) (own : Own) (A : Ga) (N : Nt) (k : Nat) (wr : World) : Prop := ∃ own', NetIs wr own' A (N.ticks k) ∧ Mv own.has w wr ∧ Grows w.heap.size own own'

set_option maxHeartbeats 800000 in
theorem Pass_ok (w : World) (own : Own) (A : Ga) (N : Nt) (t : Nat) (h : NetIs w own A N) (hf : Fine N) (ht : t ≤ 65536) :
    Calls Try.prog 39 #[.pointer (some ⟨A.net, 0, none⟩), .int .i64 t] w (Leaves w own A (N.ticks t) (.returned (.int .i64 0))) := by
  have R0 : TicksRel w own A N 0 w := ⟨own, h, Mv.refl _ _, Grows.refl _ _⟩
  have HF := Lib.hid hf
  have d1 : decide ((t : Int) < 0) = false := by simp
  have d2 : decide ((t : Int) > 65536) = false := by simp; omega
  have d3 : (0 : Int) ≤ t := by omega
  have d4 : (t : Int) ≤ 65536 := by omega
  clear h hf
  go_enter Try.func39, Try.ntmps39
  go_wp2_with fail
  go_loopw [12] (fun i wr => ∃ k : Nat, k ≤ t ∧ i = .int .i64 k ∧ TicksRel w own A N k wr) (fun i _ => t - (intOf i).toNat)
  case atStart => exact ⟨0, Nat.zero_le _, rfl, R0⟩
  case round =>
    obtain ⟨k, hk, rfl, hrel⟩ := hrel
    have HR := Lib.hid hrel
    clear R0 hrel
    by_cases hlt : k < t
    · have hlt' : (k : Int) < t := by omega
      obtain ⟨own1, hN, hm, hg⟩ := HR.out
      have HG := Lib.hid hg
      have HM := Lib.hid hm
      go_wp2_with (go_at_call 48; refine (ticks_tick_any _ own1 A N k hN HF.out (by omega)).mono ?_; rintro e w' ⟨rfl, hL⟩)
      obtain ⟨own2, hN2, hm2, hg2⟩ := hL
      go_roundw
      case rel => exact ⟨k + 1, by omega, by go_num, own2, hN2, HM.out.trans' hm2 (fun b hb hh ho => hh (HG.out b hb ho)), HG.out.trans hg2 HM.out.size⟩
      case measure => simp [intOf]; omega
    · have hge : (t : Int) ≤ (k : Int) := by omega
      go_wp2
      go_ret
      obtain rfl : k = t := by omega
      exact ⟨rfl, HR.out⟩

theorem Pass_bad (w : World) (p : Nat) (x : Int) (hx : x < 0 ∨ 65536 < x) :
    Calls Try.prog 39 #[.pointer (some ⟨p, 0, none⟩), .int .i64 x] w fun e w' => e = .returned (.int .i64 1) ∧ w = w' := by
  by_cases h : x < 0
  · have d1 : decide (x < 0) = true := by simpa using h
    clear hx
    go_enter Try.func39, Try.ntmps39
    go_wp2
    go_ret
    exact ⟨rfl, rfl⟩
  · have d1 : decide (x < 0) = false := by simpa using h
    have d2 : decide (x > 65536) = true := by simp; omega
    have d3 : 65536 < x := by omega
    clear hx
    go_enter Try.func39, Try.ntmps39
    go_wp2
    go_ret
    exact ⟨rfl, rfl⟩

def Nt.closed (N : Nt) (i : Nat) : Nt := { N with lane := setL N.lane i { N.lane i with closed := true } }

/-- The lane's queue is closed, its channel as it was. -/
theorem LaneIs.close {w : World} {own : Own} {A : Ga} {i : Nat} {L : Lq} {sh : Bool} (h : LaneIs w own A i L sh) :
    LaneIs (w.setCell ⟨A.q i, 1, none⟩ (.bool true)) own A i { L with closed := true } sh := by
  obtain ⟨h1, h2, h3, vs, s, r, h4, h5⟩ := h
  have hqc : A.c i ≠ A.q i := fun e => by rw [← e, h4] at h3; cases h3
  refine ⟨h1, h2, ?_, vs, s, r, by rw [heap_setCell_other hqc]; exact h4, h5.keep fun b k hb => ⟨hb, heap_setCell_other (fun e => by subst e; rw [h1] at hb; cases hb) _⟩⟩
  rw [heap_setCell_same h3]
  simp

/-- Lane i has turned, and nothing else. -/
theorem NetIs.lane {w w' : World} {own : Own} {A : Ga} {N : Nt} {i : Nat} {L : Lq} (h : NetIs w own A N) (hi : i < N.nl) (hmv : Mv (fun b => b = A.c i ∨ b = A.q i) w w')
    (hL : LaneIs w' own A i L L.shut) : NetIs w' own A { N with lane := setL N.lane i L } := by
  obtain ⟨h0, cap, fv, lv, h1, h2, h3, h4, h5⟩ := h
  have hc := (h5 i hi).2.1
  have hq := (h5 i hi).1
  have key : ∀ b t, own b = some t → t ≠ .c i → t ≠ .q i → own b = some t ∧ w'.heap[b]? = w.heap[b]? := fun b t hb ht hu =>
    ⟨hb, hmv.block b (h0 b t hb) (fun e => by
      rcases e with rfl | rfl
      · rw [hc] at hb; exact ht (by cases hb; rfl)
      · rw [hq] at hb; exact hu (by cases hb; rfl))⟩
  refine ⟨h0.mono hmv.size, cap, fv, lv, ⟨h1.1, (key _ _ h1.1 (by simp) (by simp)).2.trans h1.2⟩, h2.keep (fun ho => key _ _ ho (by simp) (by simp)), h3.keep (fun b hb => key _ _ hb (by simp) (by simp)),
    h4.keep (fun b hb => ⟨rfl, ?_⟩), fun j hj => ?_⟩
  · rcases hb with hb | hb <;> exact (key _ _ hb (by simp) (by simp)).2
  · by_cases hji : j = i
    · subst hji
      simpa [setL_same] using hL
    · simp only [setL_other _ _ hji]
      refine (h5 j hj).keep fun b t hb ht => key b t hb ?_ ?_
      all_goals (rcases ht with rfl | rfl | ⟨k, rfl⟩ <;> simp [hji])

set_option maxHeartbeats 800000 in
theorem Close_ok (w : World) (own : Own) (A : Ga) (N : Nt) (i : Nat) (h : NetIs w own A N) (hi : i < N.nl) (hop : (N.lane i).closed = false) :
    Calls Try.prog 25 #[.pointer (some ⟨A.net, 0, none⟩), .int .i64 i] w (Leaves w own A (N.closed i) (.returned (.int .i64 0))) := by
  have H := Lib.hid h
  obtain ⟨h0, capl, fv, lv, h1, h2, h3, h4, h5⟩ := h
  have g0 : w.cell? ⟨A.net, 0, none⟩ = some (.slice (some ⟨A.arr, 0, none⟩) N.nl capl) := cell_of_heap h1.2 0 rfl
  have g1 := h2.cell hi
  have hL := h5 i hi
  have gq : w.cell? ⟨A.q i, 1, none⟩ = some (.bool false) := by rw [← hop]; exact cell_of_heap hL.2.2.1 1 rfl
  have gf := free_of_heap hL.2.2.1 1
  have hii : (i : Int) < N.nl := by omega
  have hsh : (N.lane i).shut = false := by simp [Lq.shut, hop]
  rw [hsh] at hL
  have HL := Lib.hid hL
  clear h0 h1 h2 h3 h4 h5 hop hsh hL
  go_enter Try.func25, Try.ntmps25
  go_wp2_with (first
    | (go_at_call 33; refine (has_yes _ A.net N.nl capl _ _ g0 (by omega) (by omega)).mono ?_; rintro e w' ⟨rfl, rfl⟩)
    | (go_at_call 40; refine (endL _ own A i _ HL.out.close).mono ?_; rintro e w' ⟨rfl, hmv, hL'⟩))
  go_ret
  have hm : Mv (fun b => b = A.c i ∨ b = A.q i) w w' := ((Mv.refl _ _).setCell (.inl (.inr rfl)) _).trans' hmv (fun _ _ h => .inl h)
  refine ⟨rfl, own, H.out.lane hi hm hL', hm.mono fun b _ hb => ?_, Grows.refl _ _⟩
  unfold Own.has
  rcases hb with rfl | rfl
  · rw [HL.out.2.1]; simp
  · rw [HL.out.1]; simp

theorem Close_noLane (w : World) (own : Own) (A : Ga) (N : Nt) (x : Int) (h : NetIs w own A N) (hi : x < 0 ∨ N.nl ≤ x) :
    Calls Try.prog 25 #[.pointer (some ⟨A.net, 0, none⟩), .int .i64 x] w fun e w' => e = .returned (.int .i64 192) ∧ w = w' := by
  obtain ⟨h0, capl, fv, lv, h1, h2, h3, h4, h5⟩ := h
  have g0 : w.cell? ⟨A.net, 0, none⟩ = some (.slice (some ⟨A.arr, 0, none⟩) N.nl capl) := cell_of_heap h1.2 0 rfl
  have HI := Lib.hid hi
  clear h0 h1 h2 h3 h4 h5 hi
  go_enter Try.func25, Try.ntmps25
  go_wp2_with (go_at_call 33; refine (has_no _ A.net N.nl capl _ _ g0 HI.out).mono ?_; rintro e w' ⟨rfl, rfl⟩)
  go_ret
  exact ⟨rfl, rfl⟩

theorem Close_closed (w : World) (own : Own) (A : Ga) (N : Nt) (i : Nat) (h : NetIs w own A N) (hi : i < N.nl) (hop : (N.lane i).closed = true) :
    Calls Try.prog 25 #[.pointer (some ⟨A.net, 0, none⟩), .int .i64 i] w fun e w' => e = .returned (.int .i64 191) ∧ w = w' := by
  obtain ⟨h0, capl, fv, lv, h1, h2, h3, h4, h5⟩ := h
  have g0 : w.cell? ⟨A.net, 0, none⟩ = some (.slice (some ⟨A.arr, 0, none⟩) N.nl capl) := cell_of_heap h1.2 0 rfl
  have g1 := h2.cell hi
  have gq : w.cell? ⟨A.q i, 1, none⟩ = some (.bool true) := by rw [← hop]; exact cell_of_heap (h5 i hi).2.2.1 1 rfl
  have hii : (i : Int) < N.nl := by omega
  clear h0 h1 h2 h3 h4 h5 hop
  go_enter Try.func25, Try.ntmps25
  go_wp2_with (go_at_call 33; refine (has_yes _ A.net N.nl capl _ _ g0 (by omega) (by omega)).mono ?_; rintro e w' ⟨rfl, rfl⟩)
  go_ret
  exact ⟨rfl, rfl⟩
end Go.Proofs.Ytadalodjnbnjkaa
