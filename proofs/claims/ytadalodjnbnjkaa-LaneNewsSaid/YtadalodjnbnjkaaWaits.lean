/- Wait; may; what a new net is. -/
import Derived.Test.YtadalodjnbnjkaaWait
namespace Go.Proofs.Ytadalodjnbnjkaa
open Go.RowKit Go.Conc

/-- What Wait leaves. -/
def WaitedV (w : World) (own : Own) (A : Ga) (R : Wr) (e : Ending) (w' : World) : Prop :=
  ∃ v, e = .returned (.tuple #[v, .int .i64 R.err]) ∧ ∃ own', NetIs w' own' A R.net ∧ Mv own.has w w' ∧ Grows w.heap.size own own' ∧
    match R.msg with
    | none => v = .slice none 0 0
    | some m => ∃ g, MsgAt w' g v m ∧ own' g = none ∧ (own g ≠ none ∨ w.heap.size ≤ g)

set_option maxHeartbeats 800000 in
theorem Wait_ok (w : World) (own : Own) (A : Ga) (N : Nt) (i t : Nat) (h : NetIs w own A N) (hf : Fine N) (hi : i < N.nl) (ht : t ≤ 65536) :
    Calls Try.prog 19 #[.pointer (some ⟨A.net, 0, none⟩), .int .i64 i, .int .i64 t] w (WaitedV w own A (Nt.waitGo [i] t N)) := by
  have H := Lib.hid h
  have HF := Lib.hid hf
  obtain ⟨h0, capl, fv, lv, h1, h2, h3, h4, h5⟩ := h
  have g0 : w.cell? ⟨A.net, 0, none⟩ = some (.slice (some ⟨A.arr, 0, none⟩) N.nl capl) := cell_of_heap h1.2 0 rfl
  have d1 : decide ((t : Int) < 0) = false := by simp
  have d2 : decide ((t : Int) > 65536) = false := by simp; omega
  have hii : (i : Int) < N.nl := by omega
  clear h0 h1 h2 h3 h4 h5 hf
  go_enter Try.func19, Try.ntmps19
  go_wp2_with (first
    | (go_at_call 33; refine (has_yes _ A.net N.nl capl _ _ g0 (by omega) (by omega)).mono ?_; rintro e w' ⟨rfl, rfl⟩))
  have hst : Mv (fun _ => False) w (w.alloc (.cells #[.int .i64 i] 3)) := (Mv.refl _ _).alloc _
  have hin : ListIn (w.alloc (.cells #[.int .i64 i] 3)) own w.heap.size [i] := by
    refine ⟨H.out.1.none (Nat.le_refl _), by simp, fun j hj => ?_⟩
    obtain rfl : j = 0 := by simpa using hj
    exact cell_of_heap (heap_alloc_new w _) 0 rfl
  refine (wait_any _ own A N t w.heap.size 1 [i] (H.out.still hst) HF.out (by intro l hl; simp at hl; omega) (by simp) ht hin).mono ?_
  rintro e w' ⟨v, rfl, own', r1, r2, r3, r4⟩
  have HST := Lib.hid hst
  have R4 := Lib.hid r4
  clear hst hin r4
  go_wp2
  go_ret2
  refine ⟨v, rfl, own', r1, (HST.out.mono (fun _ _ h => h.elim)).trans' r2 (fun _ _ h => h), fun b hb ho => r3 b (by simp; omega) ho, ?_⟩
  have r4 := R4.out
  cases hm : (Nt.waitGo [i] t N).msg with
  | none => rw [hm] at r4; exact r4
  | some m =>
    rw [hm] at r4
    obtain ⟨g, q1, q2, q3⟩ := r4
    refine ⟨g, q1, q2, q3.imp id fun h => ?_⟩
    simp at h; omega

theorem Wait_noLane (w : World) (own : Own) (A : Ga) (N : Nt) (x : Int) (v : Value) (h : NetIs w own A N) (hi : x < 0 ∨ N.nl ≤ x) :
    Calls Try.prog 19 #[.pointer (some ⟨A.net, 0, none⟩), .int .i64 x, v] w fun e w' => e = .returned (.tuple #[.slice none 0 0, .int .i64 192]) ∧ w = w' := by
  obtain ⟨h0, capl, fv, lv, h1, h2, h3, h4, h5⟩ := h
  have g0 : w.cell? ⟨A.net, 0, none⟩ = some (.slice (some ⟨A.arr, 0, none⟩) N.nl capl) := cell_of_heap h1.2 0 rfl
  have HI := Lib.hid hi
  clear h0 h1 h2 h3 h4 h5 hi
  go_enter Try.func19, Try.ntmps19
  go_wp2_with (go_at_call 33; refine (has_no _ A.net N.nl capl _ _ g0 HI.out).mono ?_; rintro e w' ⟨rfl, rfl⟩)
  go_ret2
  exact ⟨rfl, rfl⟩

theorem Wait_badTicks (w : World) (own : Own) (A : Ga) (N : Nt) (i : Nat) (t : Int) (h : NetIs w own A N) (hi : i < N.nl) (ht : t < 0 ∨ 65536 < t) :
    Calls Try.prog 19 #[.pointer (some ⟨A.net, 0, none⟩), .int .i64 i, .int .i64 t] w fun e w' => e = .returned (.tuple #[.slice none 0 0, .int .i64 1]) ∧ w = w' := by
  obtain ⟨h0, capl, fv, lv, h1, h2, h3, h4, h5⟩ := h
  have g0 : w.cell? ⟨A.net, 0, none⟩ = some (.slice (some ⟨A.arr, 0, none⟩) N.nl capl) := cell_of_heap h1.2 0 rfl
  have hii : (i : Int) < N.nl := by omega
  clear h0 h1 h2 h3 h4 h5
  by_cases hn : t < 0
  · have d1 : decide (t < 0) = true := by simpa using hn
    clear ht
    go_enter Try.func19, Try.ntmps19
    go_wp2_with (go_at_call 33; refine (has_yes _ A.net N.nl capl _ _ g0 (by omega) (by omega)).mono ?_; rintro e w' ⟨rfl, rfl⟩)
    go_ret2
    exact ⟨rfl, rfl⟩
  · have d1 : decide (t < 0) = false := by simpa using hn
    have d2 : decide (t > 65536) = true := by simp; omega
    have d3 : 65536 < t := by omega
    clear ht
    go_enter Try.func19, Try.ntmps19
    go_wp2_with (go_at_call 33; refine (has_yes _ A.net N.nl capl _ _ g0 (by omega) (by omega)).mono ?_; rintro e w' ⟨rfl, rfl⟩)
    go_ret2
    exact ⟨rfl, rfl⟩

def mayPost (b : Bool) (w : World) (e : Ending) (w' : World) : Prop := e = .returned (.bool b) ∧ Below w.heap.size w w'

theorem may_plain (k n : Int) (w : World) (h : k = 0 ∨ k = 1) : Calls Try.prog 30 #[.agg #[.int .i64 k, .int .i64 n]] w (mayPost true w) := by
  rcases h with rfl | rfl
  all_goals
    go_enter Try.func30, Try.ntmps30
    go_wp2
    go_ret
    exact ⟨rfl, (Below.refl _ _).alloc (Nat.le_refl _) _⟩

theorem may_late (k n : Int) (w : World) (h : k = 2 ∨ k = 3) (b : Bool) (hb : decide (0 ≤ n ∧ n ≤ 1000) = b) : Calls Try.prog 30 #[.agg #[.int .i64 k, .int .i64 n]] w (mayPost b w) := by
  by_cases h0 : 0 ≤ n
  · have d0 : decide (n ≥ 0) = true := by simpa using h0
    by_cases h1 : n ≤ 1000
    · have d1 : decide (n ≤ 1000) = true := by simpa using h1
      obtain rfl : b = true := by rw [← hb]; simp [h0, h1]
      clear hb
      rcases h with rfl | rfl
      all_goals
        go_enter Try.func30, Try.ntmps30
        go_wp2
        go_ret
        exact ⟨rfl, (Below.refl _ _).alloc (Nat.le_refl _) _⟩
    · have d1 : decide (n ≤ 1000) = false := by simpa using h1
      obtain rfl : b = false := by rw [← hb]; simp; omega
      clear hb
      rcases h with rfl | rfl
      all_goals
        go_enter Try.func30, Try.ntmps30
        go_wp2
        go_ret
        exact ⟨rfl, (Below.refl _ _).alloc (Nat.le_refl _) _⟩
  · have d0 : decide (n ≥ 0) = false := by simp; omega
    obtain rfl : b = false := by rw [← hb]; simp; omega
    clear hb
    rcases h with rfl | rfl
    all_goals
      go_enter Try.func30, Try.ntmps30
      go_wp2
      go_ret
      exact ⟨rfl, (Below.refl _ _).alloc (Nat.le_refl _) _⟩

theorem may_cut (k n : Int) (w : World) (h : k = 4 ∨ k = 5) (b : Bool) (hb : decide (0 ≤ n ∧ n ≤ 1048576) = b) : Calls Try.prog 30 #[.agg #[.int .i64 k, .int .i64 n]] w (mayPost b w) := by
  by_cases h0 : 0 ≤ n
  · have d0 : decide (n ≥ 0) = true := by simpa using h0
    by_cases h1 : n ≤ 1048576
    · have d1 : decide (n ≤ 1048576) = true := by simpa using h1
      obtain rfl : b = true := by rw [← hb]; simp [h0, h1]
      clear hb
      rcases h with rfl | rfl
      all_goals
        go_enter Try.func30, Try.ntmps30
        go_wp2
        go_ret
        exact ⟨rfl, (Below.refl _ _).alloc (Nat.le_refl _) _⟩
    · have d1 : decide (n ≤ 1048576) = false := by simpa using h1
      obtain rfl : b = false := by rw [← hb]; simp; omega
      clear hb
      rcases h with rfl | rfl
      all_goals
        go_enter Try.func30, Try.ntmps30
        go_wp2
        go_ret
        exact ⟨rfl, (Below.refl _ _).alloc (Nat.le_refl _) _⟩
  · have d0 : decide (n ≥ 0) = false := by simp; omega
    obtain rfl : b = false := by rw [← hb]; simp; omega
    clear hb
    rcases h with rfl | rfl
    all_goals
      go_enter Try.func30, Try.ntmps30
      go_wp2
      go_ret
      exact ⟨rfl, (Below.refl _ _).alloc (Nat.le_refl _) _⟩

theorem may_other (k n : Int) (w : World) (h : k < 0 ∨ 5 < k) : Calls Try.prog 30 #[.agg #[.int .i64 k, .int .i64 n]] w (mayPost false w) := by
  have e0 : (k == 0) = false := by simp; omega
  have e1 : (k == 1) = false := by simp; omega
  have e2 : (k == 2) = false := by simp; omega
  have e3 : (k == 3) = false := by simp; omega
  have e4 : (k == 4) = false := by simp; omega
  have e5 : (k == 5) = false := by simp; omega
  clear h
  go_enter Try.func30, Try.ntmps30
  go_wp2
  go_ret
  exact ⟨rfl, (Below.refl _ _).alloc (Nat.le_refl _) _⟩

instance (f : Int × Int) : Decidable (mayF f) := by unfold mayF; infer_instance
def mayB (f : Int × Int) : Bool := decide (mayF f)

theorem may_any (k n : Int) (w : World) : Calls Try.prog 30 #[.agg #[.int .i64 k, .int .i64 n]] w (mayPost (mayB (k, n)) w) := by
  by_cases h01 : k = 0 ∨ k = 1
  · have : mayB (k, n) = true := decide_eq_true (by unfold mayF; simp only; omega)
    rw [this]; exact may_plain k n w h01
  by_cases h23 : k = 2 ∨ k = 3
  · refine may_late k n w h23 _ ?_
    unfold mayB mayF
    congr 1
    simp only [eq_iff_iff]
    omega
  by_cases h45 : k = 4 ∨ k = 5
  · refine may_cut k n w h45 _ ?_
    unfold mayB mayF
    congr 1
    simp only [eq_iff_iff]
    omega
  · have : mayB (k, n) = false := decide_eq_false (by unfold mayF; simp only; omega)
    rw [this]; exact may_other k n w (by omega)
end Go.Proofs.Ytadalodjnbnjkaa
