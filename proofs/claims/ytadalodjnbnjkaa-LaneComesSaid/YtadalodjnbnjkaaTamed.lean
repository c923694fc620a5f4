/- tamed: a message with numbers that may be. -/
import Derived.Test.YtadalodjnbnjkaaSteps
namespace Go.Proofs.Ytadalodjnbnjkaa
open Go.RowKit Go.Conc

/-- What tamed leaves: numbers that may be, the same bytes cut by short. -/
def Tamed (w : World) (a : Option Addr) (n cap : Nat) (e : Ending) (w' : World) : Prop :=
  ∃ gap lane k x : Nat, e = .returned (.agg #[.int .i64 gap, .int .i64 lane, .slice a n cap, .int .i64 k, .int .i64 x]) ∧ gap < 20 ∧ lane < 2 ∧ k < 6 ∧ x < 40 ∧ Below w.heap.size w w'

set_option maxHeartbeats 1600000 in
theorem tamed_any (w : World) (g l k x : Int) (a : Option Addr) (len n cap : Nat) (hs : ∀ W, Calls Try.prog 23 #[.slice a len cap] W (fun e w' => e = .returned (.slice a n cap) ∧ W = w')) :
    Calls Try.prog 38 #[.agg #[.int .i64 g, .int .i64 l, .slice a len cap, .int .i64 k, .int .i64 x]] w (Tamed w a n cap) := by
  obtain ⟨gap, hg, bg⟩ := below_nat g 20 (by omega) (by omega)
  obtain ⟨lane, hl, bl⟩ := below_nat l 2 (by omega) (by omega)
  obtain ⟨kk, hk, bk⟩ := below_nat k 6 (by omega) (by omega)
  obtain ⟨x1, hx1, bx1⟩ := below_nat x 40 (by omega) (by omega)
  obtain ⟨x2, hx2, bx2⟩ := below_nat x 12 (by omega) (by omega)
  have HS := Lib.hid hs
  have BG := Lib.hid bg
  have BL := Lib.hid bl
  have BK := Lib.hid bk
  have BX1 := Lib.hid bx1
  have BX2 := Lib.hid bx2
  clear hs bg bl bk bx1 bx2
  go_enter Try.func38, Try.ntmps38
  go_wp2_with (first
    | (go_at_call 23; refine (HS.out _).mono ?_; rintro e w' ⟨rfl, rfl⟩))
  refine (BG.out _).mono ?_
  rintro e w' ⟨rfl, rfl⟩
  go_wp2_with fail
  refine (BL.out _).mono ?_
  rintro e w' ⟨rfl, rfl⟩
  go_wp2_with fail
  refine (BK.out _).mono ?_
  rintro e w' ⟨rfl, rfl⟩
  by_cases h2 : kk = 2
  · have e2 : ((kk : Int) == 2) = true := by simp; omega
    clear h2
    go_wp2_with fail
    refine (BX1.out _).mono ?_
    rintro e w' ⟨rfl, rfl⟩
    go_wp2_with fail
    refine bodyPost_ret (v := .agg #[.int .i64 gap, .int .i64 lane, .slice a n cap, .int .i64 kk, .int .i64 x1]) (by simp [results, Try.results38, go_sem]) rfl ?_
    exact ⟨gap, lane, kk, x1, rfl, hg, hl, hk, hx1, ((Below.refl _ _).alloc (Nat.le_refl _) _).alloc (by simp) _⟩
  · have e2 : ((kk : Int) == 2) = false := by simp; omega
    by_cases h3 : kk = 3
    · have e3 : ((kk : Int) == 3) = true := by simp; omega
      clear h2 h3
      go_wp2_with fail
      refine (BX1.out _).mono ?_
      rintro e w' ⟨rfl, rfl⟩
      go_wp2_with fail
      refine bodyPost_ret (v := .agg #[.int .i64 gap, .int .i64 lane, .slice a n cap, .int .i64 kk, .int .i64 x1]) (by simp [results, Try.results38, go_sem]) rfl ?_
      exact ⟨gap, lane, kk, x1, rfl, hg, hl, hk, hx1, ((Below.refl _ _).alloc (Nat.le_refl _) _).alloc (by simp) _⟩
    · have e3 : ((kk : Int) == 3) = false := by simp; omega
      clear h2 h3
      go_wp2_with fail
      refine (BX2.out _).mono ?_
      rintro e w' ⟨rfl, rfl⟩
      go_wp2_with fail
      refine bodyPost_ret (v := .agg #[.int .i64 gap, .int .i64 lane, .slice a n cap, .int .i64 kk, .int .i64 x2]) (by simp [results, Try.results38, go_sem]) rfl ?_
      exact ⟨gap, lane, kk, x2, rfl, hg, hl, hk, by omega, ((Below.refl _ _).alloc (Nat.le_refl _) _).alloc (by simp) _⟩
end Go.Proofs.Ytadalodjnbnjkaa
