/- later, ahead: a message that must come. -/
import Derived.Test.YtadalodjnbnjkaaRaw
namespace Go.Proofs.Ytadalodjnbnjkaa
open Go.RowKit Go.Conc

/-- A message that must come: when, whether at once, its number, its bytes (where they lie). -/
structure Cm where
  at' : Nat
  direct : Nat
  number : Nat
  data : List Int
  a : Option Addr
  n : Nat
  c : Nat
def Cm.cells (x : Cm) : List Value := [.int .i64 x.at', .int .i64 x.direct, .int .i64 x.number, .slice x.a x.n x.c]
def Cm.val (x : Cm) : Value := .agg #[.int .i64 x.at', .int .i64 x.direct, .int .i64 x.number, .slice x.a x.n x.c]

theorem later_any (w : World) (t x number : Nat) (a : Option Addr) (n c : Nat) (ht : t ≤ 100000) (hx : x ≤ 100000) :
    Calls Try.prog 42 #[.int .i64 t, .int .i64 x, .int .i64 number, .slice a n c] w fun e w' => e = .returned (.agg #[.int .i64 ((t + x : Nat) : Int), .int .i64 ((if 0 < x then 0 else 1 : Nat) : Int), .int .i64 number, .slice a n c]) ∧ Below w.heap.size w w' := by
  by_cases h : 0 < x
  · have h1 : (0 : Int) < x := by omega
    have e : (if 0 < x then 0 else 1 : Nat) = 0 := if_pos h
    rw [e, Int.natCast_add]
    clear e
    go_enter Try.func42, Try.ntmps42
    go_wp2
    refine bodyPost_ret (v := .agg #[.int .i64 ((t : Int) + x), .int .i64 0, .int .i64 number, .slice a n c]) (by simp [results, Try.results42, go_sem]) rfl ?_
    exact ⟨rfl, ((Below.refl _ _).alloc (Nat.le_refl _) _).alloc (by simp) _⟩
  · obtain rfl : x = 0 := by omega
    have h1 : ¬ ((0 : Int) < 0) := by omega
    go_enter Try.func42, Try.ntmps42
    go_wp2
    refine bodyPost_ret (v := .agg #[.int .i64 t, .int .i64 1, .int .i64 number, .slice a n c]) (by simp [results, Try.results42, go_sem]) rfl ?_
    exact ⟨rfl, ((Below.refl _ _).alloc (Nat.le_refl _) _).alloc (by simp) _⟩

def aheadB (x y : Cm) : Bool := if x.at' ≠ y.at' then decide (x.at' < y.at') else if x.direct ≠ y.direct then decide (x.direct < y.direct) else decide (x.number < y.number)
theorem ahead_any (w : World) (x y : Cm) : Calls Try.prog 49 #[x.val, y.val] w fun e w' => e = .returned (.bool (aheadB x y)) ∧ Below w.heap.size w w' := by
  obtain ⟨xa, xd, xn, xda, xad, xdn, xc⟩ := x
  obtain ⟨ya, yd, yn, yda, yad, ydn, yc⟩ := y
  unfold Cm.val aheadB
  simp only
  have hB : ∀ o o' : Obj, Below w.heap.size w ((w.alloc o).alloc o') := fun o o' => ((Below.refl _ _).alloc (Nat.le_refl _) _).alloc (by simp) _
  by_cases h1 : xa = ya
  · subst h1
    have e1 : ((xa : Int) != xa) = false := by simp
    by_cases h2 : xd = yd
    · subst h2
      have e2 : ((xd : Int) != xd) = false := by simp
      have er : (if xa ≠ xa then decide (xa < xa) else if xd ≠ xd then decide (xd < xd) else decide (xn < yn)) = decide (xn < yn) := by simp
      rw [er]
      clear er
      have HB := Lib.hid hB
      clear hB
      go_enter Try.func49, Try.ntmps49
      go_wp2
      go_ret
      exact ⟨by simp, HB.out _ _⟩
    · have e2 : ((xd : Int) != yd) = true := by simp; omega
      have er : (if xa ≠ xa then decide (xa < xa) else if xd ≠ yd then decide (xd < yd) else decide (xn < yn)) = decide (xd < yd) := by simp [h2]
      rw [er]
      clear er h2
      have HB := Lib.hid hB
      clear hB
      go_enter Try.func49, Try.ntmps49
      go_wp2
      go_ret
      exact ⟨by simp, HB.out _ _⟩
  · have e1 : ((xa : Int) != ya) = true := by simp; omega
    have er : (if xa ≠ ya then decide (xa < ya) else if xd ≠ yd then decide (xd < yd) else decide (xn < yn)) = decide (xa < ya) := by simp [h1]
    rw [er]
    clear er h1
    have HB := Lib.hid hB
    clear hB
    go_enter Try.func49, Try.ntmps49
    go_wp2
    go_ret
    exact ⟨by simp, HB.out _ _⟩
end Go.Proofs.Ytadalodjnbnjkaa
